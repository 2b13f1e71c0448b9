/- A part. -/
import Derived.Test.YtiopopoohglepaaGreatDoorPMk
import Derived.Test.YtiopopoohglepaaGreatDoorPMn
import Derived.Maps.OwnIn
set_option linter.all false
set_option maxRecDepth 100000
set_option maxHeartbeats 4000000
namespace Go.Proofs.YtiopopoohglepaaGreatDoor
open Go.Proofs.Tryz
open Go.RowKit Go.Shelf
variable {B1 B2 x:Nat}{ws:List Nat}
attribute [local go_sem] Oper.semAt_some Ec
section
variable {w w':World} {s N:Nat} {R:Zr} {n:Nat}
theorem H9(I:R x=some ws):KZ R x= .tuple #[.int .i64 ws.length, .int .i64 0]:=by unfold KZ;rw [I]
theorem J4(I:R x=none):KZ R x= .tuple #[.int .i64 0, .int .i64 7]:=by unfold KZ;rw [I]
theorem Qj(s x:Nat)(w:World):Calls prog 83 #[.pointer (some ⟨s,0,none⟩), .int .u64 x] w λe w' =>e= .returned (.func (.func 135) #[] #[.pointer (some ⟨w.heap.size,0,none⟩), .pointer (some ⟨w.heap.size+1,0,none⟩)])/\w' =(w.alloc (.cells #[.pointer (some ⟨s,0,none⟩)] 24)).alloc (.cells #[.int .u64 x] 23):=by
 go_enter func83,ntmps83;go_wp2;go_ret;exact⟨rfl,rfl⟩
theorem QD(h:Rd N w s R n)(I:R x=some ws)(V:w.cell? ⟨B1,0,none⟩=some (.pointer (some ⟨s,0,none⟩)))(Z:w.cell? ⟨B2,0,none⟩=some (.int .u64 x))(c1:B1<N)(c2:B2<N)(aI:N<=w.heap.size):
 SeqStopsK Fence.wide 8 prog 135 #[.pointer (some ⟨B1,0,none⟩), .pointer (some ⟨B2,0,none⟩)] (λz:{z:Nat // z<ws.length}=> #[.int .u64 (ws[z.1]'z.2:Nat)]) (KB (λk=>N<=k)) (λxs=>xs.map (·.1)=List.range ws.length) (λpre=> ∃t,List.range ws.length=pre.map (·.1)++t) ws.length w:=λl ar aJ W J aK aL aa h0=>by
 have ae:=Zh (h.below J);have af:=(J.cell (p:=⟨B1,0,none⟩) (Am V)).trans V;have ag:=(J.cell (p:=⟨B2,0,none⟩) (Am Z)).trans Z;obtain⟨hx,hlen,hu⟩:=h.u64 I;have ab:=(callsIn_wide (n:=7)).2 (Gx ae.out x hx);rw [H9 I] at ab;have au:=Zh ab;have aw:=Zh I;have ax:=Zh h0;clear ab J V Z h h0 I hu;refine callsIn_of_wp func135 rfl trivial ?_ rfl;simp only [ntmps135,List.size_toArray,List.length_cons,List.length_nil,Nat.reduceAdd,Nat.reduceSub,Array.replicate_succ,Array.replicate_zero,List.push_toArray,List.append_toArray,List.nil_append,List.cons_append];gi_wp2_with fail;refine au.mono ?_;rintro e w1 ⟨rfl,rfl⟩;gi_wp2_with fail
 gi_loopw [16] (λac wr=> ∃(pre:List {z:Nat // z<ws.length}) (i:Nat),i<=ws.length/\ac= .int .i64 i/\Hid (pre.map (·.1)=List.range i)/\Hid (Rd N wr s R n)/\wr.cell? ⟨B1,0,none⟩=some (.pointer (some ⟨s,0,none⟩))/\wr.cell? ⟨B2,0,none⟩=some (.int .u64 x)/\Hid (ar pre wr)) (λac _=>ws.length-(intOf ac).toNat)
 case atStart=>exact⟨[],0,by omega,rfl,Zh rfl,ae,af,ag,ax⟩
 case round=>
  obtain⟨pre,i,hi,rfl,hp,ah,ai,aj,al⟩:=hrel;by_cases O:i<ws.length
  . have ay:=Zh ((callsIn_wide (n:=7)).2 (Rb ah.out aw O))
    have aM:pre.length=i:=(by have:=congrArg List.length hp.out;simpa using this);have az:=Zh aa;clear aa af ag;gi_wp2_with fail;refine ay.mono ?_;rintro e w2 ⟨rfl,rfl⟩;gi_wp2_with fail;obtain⟨fn,tmps,assign,body,aA,am⟩:=az.out pre ⟨i,O⟩ _ al (by omega);have aB:=Zh am;clear am;rw [aA];gi_wp2;refine(aB).mono ?_;have an:Hid ((pre++ [(⟨i,O⟩:{z:Nat // z<ws.length})]).map (·.1)=List.range (i+1)):=Zh (by rw [List.map_append,hp.out,List.range_succ];rfl);rintro e aN (⟨rfl,ao,U⟩|⟨rfl,aq⟩)
    . have aC:=Zh (ah.kb U (λk aD=>aD))
      have aE:=U.cell ai (by simp;omega);have aF:=U.cell aj (by simp;omega);have aG:=Zh ao;clear ao U ai aj;gi_wp2;go_roundw
      case rel=>exact⟨pre++ [⟨i,O⟩],i+1,by omega,by go_num,an,aC,aE,aF,aG⟩
      case measure=>simp [intOf];omega
    . have aH:=Zh aq
      clear aq;gi_wp2;refine bodyPost_ret (results_none rfl _ _ _) rfl ?_;refine⟨⟨_,rfl⟩, .inr ⟨_,⟨(List.range ws.length).drop (i+1), ?_⟩,aH⟩⟩;rw [an.out];have:=List.take_append_drop (i+1) (List.range ws.length);rw [List.take_range,Nat.min_eq_left (by omega)] at this;exact this.symm
  . obtain rfl:i=ws.length:=by omega
    clear aa;gi_wp2;go_end0;exact⟨⟨_,rfl⟩, .inl ⟨_,hp,al⟩⟩
end
theorem Tryz.Qg:Tryz.prog.underlying 149=some (.slice 22):=by kernel_rfl
theorem Tryz.N6:(Tryz.prog.info? 22).map (λi=>(i.zero,i.size,i.bytes))=some (some (.int .u64 0),1,8):=by kernel_rfl
theorem KB.GN{B N:Nat}{A C:World}(h:Below B A C)(J:N<=B):KB (λk=>N<=k) A C:=⟨h.size,λk o I _ O=>(h.block k (by omega)).trans I⟩
def BA(l:List Nat):List Value:=l.map λu=> .int .u64 (u:Nat)
def Pc(w:World)(bt et:TypeId)(l:List Value)(W:World):Prop:= ∃v,Boxed W w.heap.size bt v/\W.ownsRow w.heap.size et 1 v l.length l/\Below w.heap.size w W
theorem PX{β:Type}(w:World)(bt I:TypeId)(f:β->List Value)(n:Nat)(O:w.heap.size<=n):OwnFrom n (λs W=>Pc w bt I (f s) W):=λs X Y row hs hg J=>by
 obtain⟨v,h1,U,V⟩:=hs;obtain⟨v',a,b,_⟩:=holdsRow_own w.heap.size w.heap.size bt I 1 (λs=>(f s).length) (λs=>f s) (λ_ _=>True) s X Y row ⟨v,h1,U,trivial⟩ hg (λr e=>(J r e).2);exact⟨v',a,b,ownFrom_below (β:=β) (Nat.le_refl _) O s X Y row V hg J⟩
theorem Mo{w W w1:World}{bt I:TypeId}{l l' :List Value}{v v' :Value}{tmp:Obj}(O:bt≠I)(U:Boxed W w.heap.size bt v)(V:W.ownsRow w.heap.size I 1 v l.length l)(J:Below w.heap.size w W)
 (Z :w1.ownsRow w.heap.size I 1 v' l'.length l') (aa:(W.alloc tmp).grownBy w1 v.ownBlock):
 Boxed w1 w.heap.size bt v/\Pc w bt I l' (w1.setCell ⟨w.heap.size,0,none⟩ v')/\KeepsOthers W (w1.setCell ⟨w.heap.size,0,none⟩ v')/\Below w.heap.size W (w1.setCell ⟨w.heap.size,0,none⟩ v'):=by
 obtain⟨ab,a2,a3,a4,a5⟩:=U.appended O V J.size (Nat.le_refl _) Z aa;exact⟨ab,⟨v',a2,a3,J.trans a5⟩,a4,a5⟩
theorem NB{xs:List {z:Nat // z<ws.length}}(h:xs.map (·.1)=List.range ws.length):xs.map (λ(z:{z:Nat // z<ws.length})=>Value.int .u64 (ws[z.1]'z.2:Nat))=BA ws:=by
 have h1:xs.map (λ(z:{z:Nat // z<ws.length})=>Value.int .u64 (ws[z.1]'z.2:Nat))=(xs.map (·.1)).map λi=>Value.int .u64 (ws[i]?.getD 0:Nat):=by
  rw [List.map_map];refine List.map_congr_left λz _=> ?_
  simp [z.2]
 rw [h1,h];refine List.ext_getElem (by simp [BA]) λi h1 I=> ?_
 simp only [List.length_map,List.length_range] at h1;simp [BA,h1]
section
variable {w w':World} {s N:Nat} {R:Zr} {n:Nat}
def Ydg{P}(h:P:=by
 exact ac.trans (belowK_b (w:=w) (Nat.le_refl _) _ D' _ _ (by omega) Z rfl rfl)):=h
def Yjx{P}(h:P:=by
 have J:Hid ((pre++ [(⟨z,I⟩:{z:Nat // z<ws.length})]).map (λ(z:{z:Nat // z<ws.length})=>Value.int .u64 (ws[z.1]'z.2:Nat))=pre.map (λ(z:{z:Nat // z<ws.length})=>Value.int .u64 (ws[z.1]'z.2:Nat))++ [Value.int .u64 (ws[z]:Nat)]):=Zh (by rw [List.map_append];rfl);exact J):=h
def Yrr{P}(h:P:=by
 have I:=V.cell;have ac:=Zh J;have O:=Zh ab;exact And.intro I (And.intro ac O)):=h
theorem OG(h:Rd N w s R n)(aa:R x=some ws)(ae:w.cell? ⟨B1,0,none⟩=some (.pointer (some ⟨s,0,none⟩)))(af:w.cell? ⟨B2,0,none⟩=some (.int .u64 x))(c1:B1<N)(c2:B2<N)(al:N<=w.heap.size):
 CallsIn Fence.wide 9 prog 134 #[.slice none 0 0, .func (.func 135) #[] #[.pointer (some ⟨B1,0,none⟩), .pointer (some ⟨B2,0,none⟩)]] w λe w' => ∃v,e= .returned v/\w'.ownsRow w.heap.size 22 1 v ws.length (BA ws)/\Below w.heap.size w w' :=by
 obtain⟨i0,hi,am,an,ao⟩:=info_parts Tryz.N6;have hlen:=(h.u64 aa).2.1;have aq:=Zh h;have ar:=Zh aa;clear h aa;refine callsIn_of_wp_marks func134 rfl trivial ?_ rfl;simp only [ntmps134,List.size_toArray,List.length_cons,List.length_nil,Nat.reduceAdd,Nat.reduceSub,Array.replicate_succ,Array.replicate_zero,List.push_toArray,List.append_toArray,List.nil_append,List.cons_append];gi_wp2_with fail;have au:Boxed (w.alloc (Obj.cells #[Value.slice none 0 0] 149)) w.heap.size 149 (.slice none 0 0):=Boxed.new w _ _;have O:Below w.heap.size w (w.alloc (Obj.cells #[Value.slice none 0 0] 149)):=(Below.refl _ w).alloc (Nat.le_refl _) _;have aw:=(O.cell (p:=⟨B1,0,none⟩) (Am ae)).trans ae;have ax:=(O.cell (p:=⟨B2,0,none⟩) (Am af)).trans af;have ay:=Zh (aq.below O);have aK :w.heap.size+1<=(w.alloc (Obj.cells #[Value.slice none 0 0] 149)).heap.size:=by simp
 generalize w.alloc (Obj.cells #[Value.slice none 0 0] 149)=w2 at*
 refine wpIn_rangeFunc_ownH (α:={z:Nat // z<ws.length}) rfl (by omega) (gf:=135) (lb:= #[.pointer (some ⟨B1,0,none⟩), .pointer (some ⟨B2,0,none⟩)]) rfl trivial (enters_of func135 (by kernel_rfl) rfl)
  (QD ay ar aw ax c1 c2 (by omega))
  (λh k=>h.trans k) (λW l o az _ ag h1 aA=>KB.putObj az ag h1 aA) (Below.refl _ _) (λ_=>rfl)
  (λpre W=>Pc w 149 22 (pre.map (λ(z:{z:Nat // z<ws.length})=>Value.int .u64 (ws[z.1]'z.2:Nat))) W)
  (λaB pre W=>False)
  (PX w _ _ (λpre:List {z:Nat // z<ws.length}=>pre.map (λ(z:{z:Nat // z<ws.length})=>Value.int .u64 (ws[z.1]'z.2:Nat))) _ (by omega))
  (λ_ _ _ _ _ hs _ _=>hs)
  ⟨_,au,World.ownsRow_nil _ _ _ _,O⟩
  (λz a' W=>a' ={ tmps:= #[ .slice none 0 0, .func (.func 135) #[] #[ .pointer (some ⟨B1,0,none⟩), .pointer (some ⟨B2,0,none⟩)], .pointer (some ⟨w.heap.size,0,none⟩),undef, .slice none 0 0, .int .u64 (ws[z.1]'z.2:Nat), .func (.func 135) #[] #[ .pointer (some ⟨B1,0,none⟩), .pointer (some ⟨B2,0,none⟩)], .int .u64 (ws[z.1]'z.2:Nat),undef,undef,undef,undef,undef],defers:= [] })
  (λ_ _ _ _ _ _ hs _ _=>hs)
  ?assign ?body ?done ?stop
 case assign=>
  rintro l pre ⟨z,I⟩ W K hi Z;dsimp only at Z ⊢;gi_wp2;exact Z _ W (KeepsOthers.refl _ |>.from _) (KB.refl _ _) hi rfl
 case body=>
  rintro l pre ⟨z,I⟩ a' W ag ⟨r,aL⟩ hi rfl hlen;dsimp only;obtain⟨v,V,ab,J⟩:=hi;have aC:=Yjx;have aM:(pre.map (λ(z:{z:Nat // z<ws.length})=>Value.int .u64 (ws[z.1]'z.2:Nat))).length<=3998:=by rw [List.length_map];omega
  generalize pre.map (λ(z:{z:Nat // z<ws.length})=>Value.int .u64 (ws[z.1]'z.2:Nat))=told at*;have aN:=V.cell;obtain⟨ac,U,aD⟩:=EA;clear J ab V;have I:w.heap.size<=W.heap.size:=ac.size;gi_wp2_with (gi_at_builtin;refine wpListIn_append_own_at _ rfl _ _ 149 rfl w.heap.size 22 i0 (.int .u64 0) 1 8 Tryz.Qg hi am an ao rfl (by decide) _ _ _ rfl (U.alloc _) ⟨W.heap.size,0,none⟩ 1 1 [.int .u64 (ws[z]:Nat)] rfl rfl (cell_one_new _ _ _) (by simp [Value.oneCell']) (by unfold maxLen;omega) (by omega) (by simp;omega) ?_;intro v' w1 ah aE _ aO;obtain⟨aP,aQ,rfl⟩:=ownsRow_succ ah;obtain⟨b1,b2,aF,aG⟩:=Mo (l' :=told++ [Value.int .u64 (ws[z]:Nat)]) (by decide) aD U ac (by simpa using ah) aE;have aR:=b1.cell;have aS:=b1.frozen);exact⟨aF.from _,KB.GN aG al,by show Pc w _ _ _ _;rw [aC.out];exact b2⟩
 case done=>
  rintro D' xs W aH ai hi Z;have aj:=NB ai;rw [aj] at hi;have aI:(BA ws).length=ws.length:=by simp [BA]
  obtain⟨v,V,ab,J⟩:=hi;rw [aI] at ab;obtain⟨_,ac,U⟩:=Yrr;clear J ab V ai aj;gi_wp2;refine⟨by simp, .inl ⟨_,_,rfl,run_takeDeferred Z, ?_⟩⟩;refine⟨v,by simp [results,f134],v,rfl,FC (Cs:=λ_=>False) U (KB.putObj _ Z rfl rfl) (λ_ h=>h.elim), ?_⟩;exact Ydg
 case stop=>
  rintro D' aB pre W aH aT aJ;exact aJ.elim
theorem Q9(h:Rd N w s R n)(J:R x=some ws)(O:w.cell? ⟨B1,0,none⟩=some (.pointer (some ⟨s,0,none⟩)))(U:w.cell? ⟨B2,0,none⟩=some (.int .u64 x))(c1:B1<N)(c2:B2<N)(ab:N<=w.heap.size):
 Calls prog 82 #[.func (.func 135) #[] #[.pointer (some ⟨B1,0,none⟩), .pointer (some ⟨B2,0,none⟩)]] w λe w' => ∃A c,e= .returned (.slice A ws.length c)/\Tx.Jy w' A ws/\Below w.heap.size w w' :=by
 have hA:=Zh ((callsIn_wide (n:=9)).1 (OG h J O U c1 c2 ab));clear h J O U;go_enter func82,ntmps82;go_wp2_with fail;refine hA.mono ?_;rintro e w1 ⟨v,rfl,I,V⟩;obtain⟨A,c,rfl⟩:=Bs I;have Z:=Zh I;have ac:=Zh V;clear I V;go_wp2;go_ret;refine⟨A,c,rfl, ?_,ac⟩;rcases Z.2 with ⟨h1,aa⟩|⟨g,cap,cur,h1,aa,ae,ah⟩
 . exact .inl (List.eq_nil_of_length_eq_zero aa)
 . cases h1
   refine .inr ⟨g,0,rfl,(Array.getElem?_eq_some_iff.1 ae).1,λj af=> ?_⟩;rw [Nat.zero_add];have ag:=Z.cells (g:=g) rfl j (.int .u64 (ws[j]?.getD 0:Nat)) (by simp [BA,af]);have he:(⟨g,0,none⟩:Addr).add j=⟨g,j,none⟩:=by
    unfold Addr.add
    split
    . next h0=>have:j=0:=by simpa using h0
               rw [this]
    . simp
   rw [<-he];exact ag
end
end Go.Proofs.YtiopopoohglepaaGreatDoor
namespace Go.Proofs.YtiopopoohglepaaGreatDoor
open Go.Proofs.Tryz
open Go.RowKit Go.Shelf
variable {R:Zr}{x:Nat}
def G6(R:Zr)(x:Nat):Option ByteArray:=
 match R x with
 |some ws=>if Tx.Dj ws then some (Tx.HO ws) else none
 |none=>none
def De(R:Zr)(x:Nat):Nat:=
 match R x with
 |some ws=>if Tx.Dj ws then 0 else 8
 |none=>7
def G7(R:Zr)(x:Nat):Value:= .tuple #[.string ((G6 R x).getD ⟨#[]⟩), .int .i64 (De R x:Nat)]
def A6(R:Zr):Prop:= ∀x ws,R x=some ws->ws.length<=200
theorem L8{ws:List Nat}(h:R x=some ws):G7 R x=Tx.GG ws:=by
 unfold G7 G6 De Tx.GG;rw [h];by_cases I:Tx.Dj ws
 . simp only [if_pos I];rfl
 . simp only [if_neg I];rfl
theorem Rk(h:R x=none):G7 R x= .tuple #[.string ⟨#[]⟩, .int .i64 7]:=by
 unfold G7 G6 De;rw [h];rfl
section
variable {w w':World} {s N:Nat}  {n:Nat}
def K8{P}(h:P:=by
 have I:=Zh (af.trans (aa.mono af.size));exact I):=h
def Ynt{P}(h:P:=by
 have I:Below w.heap.size w w2:=by rw [ai];exact((Below.refl _ w).alloc (Nat.le_refl _) _).alloc (by simp) _
 exact I):=h
theorem Hq(h:Rd N w s R n)(aj:A6 R)(x:Nat)(hx:x<18446744073709551616):
 Calls prog 43 #[.pointer (some ⟨s,0,none⟩), .int .u64 x] w λe w' =>e= .returned (G7 R x)/\Below w.heap.size w w' :=by
 have O:=Zh (Gx h x hx);have al:=Zh h
 cases J:R x with
 |none=>
  rw [J4 J] at O;rw [Rk J];clear J h;go_enter func43,ntmps43;go_wp2_with fail;refine O.mono ?_;rintro e w1 ⟨rfl,rfl⟩;go_wp2
  go_ret2
  exact⟨rfl,Below.refl _ _⟩
 |some ws=>
  rw [H9 J] at O;obtain⟨_,_,hu⟩:=h.u64 J;have am:Hid (∀j:Nat,ws[j]?.getD 0<18446744073709551616):=Zh (λj=>by
   by_cases Z:j<ws.length
   . rw [List.getElem?_eq_getElem Z];exact hu j Z
   . rw [List.getElem?_eq_none (by omega)];simp)
  have an:=Zh (aj x ws J);have ao:=Zh (λw=>Qj s x w);have aq:=Zh J;have hs:=Zh (L8 J);clear J h hu;go_enter func43,ntmps43;go_wp2_with fail;refine O.mono ?_;rintro e w1 ⟨rfl,rfl⟩;go_wp2_with fail;refine(ao _).mono ?_;rintro e w2 ⟨rfl,ai⟩;have V:=Ynt;have ab:w2.cell? ⟨w.heap.size,0,none⟩=some (.pointer (some ⟨s,0,none⟩)):=by rw [ai];go_simp
  have ac:w2.cell? ⟨w.heap.size+1,0,none⟩=some (.int .u64 x):=by rw [ai];go_simp
  have ar:w.heap.size+2<=w2.heap.size:=by rw [ai];simp
  have au:=Zh (Q9 (al.here.below V |>.mono (show w.heap.size<=w.heap.size+2 by omega)) aq ab ac (by omega) (by omega) ar);have ae:=Zh V;clear ai ab ac V;go_wp2_with fail;refine au.mono ?_;rintro e w3 ⟨A,c,rfl,ag,I⟩;have aw:=Zh (Tx.Je A c ws.length ws w3 rfl an ag am);have af:=Dt;clear ag I;go_wp2_with fail;refine aw.mono ?_;rintro e w4 ⟨rfl,aa⟩;have ah:=K8;clear aa;by_cases U:Tx.Dj ws
  . rw [Tx.KA U]
    go_wp2
    go_ret2
    exact⟨by rw [hs.out,Tx.KA U];rfl,ah⟩
  . rw [Tx.Km U]
    go_wp2
    go_ret2
    exact⟨by rw [hs.out,Tx.Km U];rfl,ah⟩
end
structure BN where
 keys:List Nat
 Ab:List Nat
 kids:List Nat
 size:Nat
namespace BN
variable {i k t:Nat}{n:BN}
def zero:BN:=⟨[],[],[],0⟩
def A0(t:Nat):Prop:=2<=t/\t<=16
def Fits(t:Nat)(n:BN):Prop:=n.keys.length<=2*t-1/\n.Ab.length=n.keys.length/\(n.kids= []\/(n.kids.length=n.keys.length+1/\0∉n.kids))
instance (t:Nat) (n:BN):Decidable (n.Fits t):=by unfold Fits;infer_instance
instance (t:Nat):Decidable (A0 t):=by unfold A0;infer_instance
def Ds(t:Nat)(n:BN)(i:Nat):Nat:=
 if i=0 then n.keys.length else if i=1 then n.size else
 if i<4*t then (if (i-2)%2=0 then n.keys.getD ((i-2)/2) 0 else n.Ab.getD ((i-2)/2) 0) else n.kids.getD (i-4*t) 0
def wd(t:Nat)(n:BN):List Nat:=(List.range (6*t)).map (n.Ds t)
theorem B0(t:Nat)(n:BN):(n.wd t).length=6*t:=by simp [wd]
theorem Vm(h:i<(n.wd t).length):(n.wd t)[i]=n.Ds t i:=by simp [wd]
theorem YH(h:i<6*t):(n.wd t)[i]? =some (n.Ds t i):=by simp [wd,h]
theorem Gh(h:i<6*t):(n.wd t).getD i 0=n.Ds t i:=by rw [List.getD_eq_getElem?_getD,YH h];rfl
theorem Ri(t:Nat)(n:BN):n.Ds t 0=n.keys.length:=rfl
theorem at_one(t:Nat)(n:BN):n.Ds t 1=n.size:=rfl
theorem QI(h:k<2*t-1):n.Ds t (2+2*k)=n.keys.getD k 0:=by
 unfold Ds;rw [if_neg (by omega),if_neg (by omega),if_pos (by omega),show(2+2*k-2)=2*k by omega,if_pos (by omega),show 2*k/2=k by omega]
theorem Qq(h:k<2*t-1):n.Ds t (2+2*k+1)=n.Ab.getD k 0:=by
 unfold Ds;rw [if_neg (by omega),if_neg (by omega),if_pos (by omega),if_neg (by omega),show(2+2*k+1-2)/2=k by omega]
theorem MQ(I:2<=t):n.Ds t (4*t+k)=n.kids.getD k 0:=by
 unfold Ds;rw [if_neg (by omega),if_neg (by omega),if_neg (by omega),show 4*t+k-4*t=k by omega]
def Rj(t:Nat)(ws:List Nat):BN:=
 ⟨(List.range (ws.getD 0 0)).map λk=>ws.getD (2+2*k) 0,(List.range (ws.getD 0 0)).map λk=>ws.getD (2+2*k+1) 0,
  if ws.getD (4*t) 0=0 then [] else (List.range (ws.getD 0 0+1)).map λk=>ws.getD (4*t+k) 0,ws.getD 1 0⟩
def Kh(t:Nat)(ws:List Nat):Prop:=ws.length=6*t/\ws.getD 0 0<=2*t-1/\(Rj t ws).Fits t/\(Rj t ws).wd t=ws
instance (t:Nat) (ws:List Nat):Decidable (Kh t ws):=by unfold Kh;infer_instance
theorem ext' {a b:BN}(h1:a.keys=b.keys)(I:a.Ab=b.Ab)(J:a.kids=b.kids)(O:a.size=b.size):a=b:=by
 cases a;cases b;simp_all
theorem LU(l:List Nat):(List.range l.length).map (λk=>l.getD k 0)=l:=by
 refine List.ext_getElem (by simp) λi h1 I=> ?_
 simp [I]
theorem Q3(U:A0 t)(h:n.Fits t):Rj t (n.wd t)=n:=by
 obtain⟨t1,t2⟩:=U;obtain⟨h1,V,I⟩:=h;have Z:(n.wd t).getD 0 0=n.keys.length:=by rw [Gh (by omega),Ri]
 unfold Rj;rw [Z];refine ext' ?_ ?_ ?_ ?_
 . show(List.range n.keys.length).map _=_
   conv=>rhs;rw [<-LU n.keys]
   refine List.map_congr_left λk J=> ?_
   have:=List.mem_range.1 J;rw [Gh (by omega),QI (by omega)]
 . show(List.range n.keys.length).map _=_
   conv=>rhs;rw [<-LU n.Ab,V]
   refine List.map_congr_left λk J=> ?_
   have:=List.mem_range.1 J;rw [Gh (by omega),Qq (by omega)]
 . show(if (n.wd t).getD (4*t) 0=0 then [] else _)=_
   have aa:(n.wd t).getD (4*t) 0=n.kids.getD 0 0:=(by rw [Gh (by omega)];exact MQ (k:=0) t1);rw [aa];rcases I with I|⟨I,ab⟩
   . rw [I,if_pos (by rfl)]
   . have O:0<n.kids.length:=by omega
     have:n.kids.getD 0 0≠0:=by
      intro e;apply ab;rw [<-e,List.getD_eq_getElem?_getD,List.getElem?_eq_getElem O];exact List.getElem_mem O
     rw [if_neg this,<-I]
     conv=>rhs;rw [<-LU n.kids]
     refine List.map_congr_left λk J=> ?_
     have:=List.mem_range.1 J;rw [Gh (by omega),MQ t1]
 . show(n.wd t).getD 1 0=_
   rw [Gh (by omega),at_one]
theorem Vq(I:A0 t)(h:n.Fits t):Kh t (n.wd t):=by
 refine⟨B0 t n, ?_, ?_, ?_⟩
 . rw [Gh (by have:=I.1;omega),Ri];exact h.1
 . rw [Q3 I h];exact h
 . rw [Q3 I h]
end BN
variable {R:Zr}{t x:Nat}{w w':World}
def Af(R:Zr)(t x:Nat):BN:=
 match R x with
 |some ws=>if BN.Kh t ws then BN.Rj t ws else BN.zero
 |none=>BN.zero
def Bk(R:Zr)(t x:Nat):Nat:=
 match R x with
 |some ws=>if BN.Kh t ws then 0 else 8
 |none=>7
def KP(R:Zr)(t x:Nat)(n:BN):Prop:=R x=some (n.wd t)/\n.Fits t
theorem KP.get{n:BN}(I:BN.A0 t)(h:KP R t x n):Af R t x=n/\Bk R t x=0:=by
 unfold Af Bk;rw [h.1];simp only [if_pos (BN.Vq I h.2),BN.Q3 I h.2,and_self]
theorem PE(I:BN.A0 t):Bk R t x=0↔KP R t x (Af R t x):=by
 unfold Bk KP Af
 cases h:R x with
 |none=>simp
 |some ws=>
  by_cases hw:BN.Kh t ws
  . simp only [if_pos hw,true_iff]
    exact⟨by rw [hw.2.2.2],hw.2.2.1⟩
  . simp only [if_neg hw]
    constructor
    . intro h;cases h
    . rintro⟨h1,J⟩
      exfalso
      have:ws=BN.zero.wd t:=Option.some.inj h1;exact hw (by rw [this];exact BN.Vq I J)
theorem TT(R:Zr)(t x:Nat):Bk R t x=0\/(Bk R t x=7/\R x=none/\Af R t x=BN.zero)\/(Bk R t x=8/\Af R t x=BN.zero):=by
 unfold Bk Af
 cases h:R x with
 |none=>exact .inr (.inl ⟨rfl,rfl,rfl⟩)
 |some ws=>
  by_cases hw:BN.Kh t ws
  . dsimp only;rw [if_pos hw];exact .inl rfl
  . dsimp only;rw [if_neg hw,if_neg hw];exact .inr (.inr ⟨rfl,rfl⟩)
theorem Nr(h:Bk R t x≠0):Af R t x=BN.zero:=by
 rcases TT R t x with I |I |I
 . exact absurd I h
 . exact I.2.2
 . exact I.2
variable {F:Fence} {n:Nat} {P:Program}
def MW(w:World)(s:Nat)(F:Nat->Prop)(R:Zr)(H:List Nat)(P q most last G:Nat)(ws:List Nat)(e:Ending)(w' :World):Prop:=
 (∃x F',R x=none/\x≠0/\x<18446744073709551616/\e= .returned (.tuple #[.int .u64 (x:Nat), .int .i64 0])/\Ah w' s F' (AQ R x (some ws)) (x::H) (P+CD (ws.length+2)) q most last (G+1)/\Ad w F w' F')\/
 (∃er F',e= .returned (.tuple #[.int .u64 0, .int .i64 (er:Nat)])/\((er=3/\q<(P+CD (ws.length+2))*64)\/(er=10/\(most<=H.length\/last<=G)))/\Ah w' s F' R H (P+CD (ws.length+2)) q most last G/\Ad w F w' F')
theorem C9(R:Zr)(x:Nat): ∃a b:Nat,KZ R x= .tuple #[.int .i64 a, .int .i64 b]/\b≠1:=by
 unfold KZ
 cases R x with
 |none=>exact⟨0,7,rfl,by decide⟩
 |some ws=>exact⟨ws.length,0,rfl,by decide⟩
theorem Jb(R:Zr)(x:Nat)(o I :Option (List Nat)):AQ (AQ R x o) x I =AQ R x I :=by
 funext y;unfold AQ;split<;>rfl
def part(ws:List Nat)(k:Nat):List Nat:=ws.take k++List.replicate (ws.length-k) 0
theorem O9(ws:List Nat)(k:Nat):(part ws k).length=ws.length:=by unfold part;simp;omega
theorem U9(ws:List Nat):part ws 0=List.replicate ws.length 0:=by unfold part;simp
theorem Wn(ws:List Nat):part ws ws.length=ws:=by unfold part;simp
theorem SO(ws:List Nat)(k i:Nat)(J:k<=ws.length):(part ws k)[i]? =if i<k then ws[i]? else if i<ws.length then some 0 else none:=by
 unfold part;rw [List.getElem?_append,List.length_take,Nat.min_eq_left J];by_cases h:i<k
 . rw [if_pos h,if_pos h,List.getElem?_take,if_pos h]
 . rw [if_neg h,if_neg h,List.getElem?_replicate]
   by_cases I:i<ws.length
   . rw [if_pos I,if_pos (by omega)]
   . rw [if_neg I,if_neg (by omega)]
theorem Wm(ws:List Nat)(k:Nat)(I:k<ws.length):(part ws k).set k ws[k]=part ws (k+1):=by
 refine List.ext_getElem? λi=> ?_
 rw [List.getElem?_set,SO ws k i (by omega),SO ws (k+1) i (by omega),O9];by_cases e:k=i
 . subst e
   rw [if_pos rfl,if_pos I,if_pos (by omega),List.getElem?_eq_getElem I]
 . rw [if_neg e]
   by_cases h:i<k
   . rw [if_pos h,if_pos (by omega)]
   . rw [if_neg h,if_neg (show¬i<k+1 by omega)]
theorem N7{A:Option Addr}{l:List Nat}{F F' :Nat->Prop}(h:Tx.Jy w A l)(I:Ad w F w' F')(J: ∀r,A=some r-> ¬F r.block):Tx.Jy w' A l:=by
 rcases h with h|⟨b,o,rfl,O,U⟩
 . exact .inl h
 . exact .inr ⟨b,o,rfl,Nat.lt_of_lt_of_le O I.size,λj V=>I.cell (U j V) (J ⟨b,o,none⟩ rfl)⟩
section
variable  {s:Nat} {F:Nat->Prop}  {H:List Nat} {P q most last G:Nat}
def Yeo{P}(h:P:=by
 go_wp2;go_roundw
 case rel=>exact⟨k+1,by omega,by go_num,ae,ah,I⟩
 case measure=>simp [intOf];omega):=h
theorem SN(h:Ah w s F R H P q most last G)(b:ByteArray)(aw:b.size<=1000):
 Calls prog 50 #[.pointer (some ⟨s,0,none⟩), .string b] w (MW w s F R H P q most last G (Tx.A9 b.data.toList)):=by
 have aj:=Zh (IT h 0 (by decide));obtain⟨aX,lb,ax,aK⟩:=C9 R 0;rw [ax] at aj;have d1:((lb:Int)==1)=false:=by simp;omega
 have al:=Zh (Tx.Oh b w aw);have ab:(Tx.A9 b.data.toList).length=Tx.many b.size:=by rw [Tx.Dd,Tx.Er]
 have aL:Tx.many b.size<=126:=by unfold Tx.many;omega
 have ac:=Zh (λj (V:j<Tx.many b.size)=>Tx.Fx b.data.toList j (by rw [Tx.Er];exact V));have ay:=Zh (Tx.UQ b aw);have af:=Zh h;obtain⟨ws,az⟩:=Zx (Tx.A9 b.data.toList);obtain⟨m,hm⟩:=Zx (Tx.many b.size);rw [<-az] at ab ac ay ⊢;rw [<-hm] at ab aL ac al;have J:=Zh ab;clear ax aK h az hm ab;go_enter func50,ntmps50;go_wp2_with fail;refine aj.mono ?_;rintro e w1 ⟨rfl,rfl⟩;go_wp2_with fail;refine al.mono ?_;rintro e w1 ⟨rfl,ag,am⟩;have an:Hid (Tx.Jy w1 (some ⟨w.heap.size,0,none⟩) ws):=Zh (.inr ⟨_,_,rfl,ag.lt,λj V=>by
  rw [J.out] at V;rw [Nat.zero_add,ag.cell V,ac.out j V];rfl⟩)
 have ao:=Zh (Pu (af.below am) m (by omega));have aA:=Zh am;have aB:Hid (¬F w.heap.size):=Zh (λaM=>by have:=af.lt aM;omega);have aN:w.heap.size<w1.heap.size:=ag.lt;clear ag am ac aj al;go_wp2_with fail;refine ao.mono ?_;rintro e w2 (⟨x,F',aC,aO,aP,rfl,Z,O⟩|⟨er,F',rfl,aD,Z,O⟩)
 . have aq:=Zh ((Ad.below aA).trans O)
   have aQ:=Zh (O.not aN aB);have aR:=Zh (N7 an O (λr e=>by cases e;exact aB.out));have aS:Hid (Ah w2 s F' (AQ R x (some (part ws 0))) (x::H) (P+CD (ws.length+2)) q most last (G+1)):=Zh (by rw [U9,J.out];exact Z);have aT:=Zh aC;clear Z O ao an af aC;go_wp2_with fail
   go_loopw [40] (λar wr=> ∃k:Nat,k<=m/\ar= .int .i64 k/\Hid (Ah wr s F' (AQ R x (some (part ws k))) (x::H) (P+CD (ws.length+2)) q most last (G+1))/\Hid (Ad w F wr F')/\Hid (Tx.Jy wr (some ⟨w.heap.size,0,none⟩) ws)) (λar _=>m-(intOf ar).toNat)
   case atStart=>exact⟨0,by omega,rfl,aS,aq,aR⟩
   case round=>
    obtain⟨k,aY,rfl,aE,aF,aG⟩:=hrel;by_cases aH:k<m
    . obtain⟨b',aZ,he,_,aI⟩:=aG.resolve_left (λe=>by have:=J.out;rw [e] at this;simp at this;omega)
      simp only [Option.some.injEq,Addr.mk.injEq] at he;obtain⟨rfl,rfl,_⟩:=he;have ai:=aI k (by rw [J.out];exact aH);rw [Nat.zero_add] at ai;have U:k<ws.length:=(by rw [J.out];exact aH);have aa:=Sd aE.out (x:=x) (i:=k) (u:=ws[k]?.getD 0) (ws:=part ws k) (AT _ _ _) (by rw [O9];exact U) (ay k);rw [Jb,List.getElem?_eq_getElem U] at aa;simp only [Option.getD_some] at aa;rw [Wm ws k U] at aa;rw [List.getElem?_eq_getElem U] at ai;simp only [Option.getD_some] at ai;have aU:=Zh aa;have a0:=Zh U;generalize hu:ws[k]=u at*;clear aI aa U hu;go_wp2_with fail;refine aU.mono ?_;rintro e w3 ⟨rfl,aJ,au⟩;have ae:=Zh aJ;have ah:=Zh (aF.trans au);have I:=Zh (N7 aG au (λr e=>by cases e;exact aQ.out));clear aJ au ai;exact Yeo
    . obtain rfl:k=m:=by omega
      go_wp2
      go_ret2
      refine .inl ⟨x,F',aT,aO,aP,rfl, ?_,aF⟩;have:=aE.out;rw [<-J.out,Wn] at this;exact this
 . have aq:=Zh ((Ad.below aA).trans O)
   have aV:=Zh Z;have aW:=Zh aD;have d2:((er:Int) !=0)=true:=(by simp;omega);clear Z O ao an af aD;go_wp2
   go_ret2
   refine .inr ⟨er,F',rfl, ?_, ?_,aq⟩
   . rw [J.out];exact aW.out
   . rw [J.out];exact aV.out
end
structure Nd where
 key:Nat
 val:Nat
 left:Nat
 right:Nat
 mark:Nat
 size:Nat
def Nd.v(x:Nd):Value:= .agg #[.int .u64 x.key, .int .u64 x.val, .int .u64 x.left, .int .u64 x.right, .int .u64 x.mark, .int .u64 x.size]
def Nd.ws(x:Nd):List Nat:= [x.key,x.val,x.left,x.right,x.mark,x.size]
def Nd.zero:Nd:=⟨0,0,0,0,0,0⟩
def AeK(ws:List Nat):Nd:=⟨ws[0]?.getD 0,ws[1]?.getD 0,ws[2]?.getD 0,ws[3]?.getD 0,ws[4]?.getD 0,ws[5]?.getD 0⟩
structure Nd.Ok(x:Nd):Prop where
 key:x.key<18446744073709551616
 val:x.val<18446744073709551616
 left:x.left<18446744073709551616
 right:x.right<18446744073709551616
 mark:x.mark<18446744073709551616
 size:x.size<18446744073709551616
def LQ(R:Zr)(x:Nat):Option Nd:=
 match R x with
 |some ws=>if ws.length=6 then some (AeK ws) else none
 |none=>none
def EL(R:Zr)(x:Nat):Nat:=
 match R x with
 |some ws=>if ws.length=6 then 0 else 8
 |none=>7
def FK(R:Zr)(x:Nat):Nd:=(LQ R x).getD Nd.zero
theorem SL:EL R x=0↔ ∃nd,LQ R x=some nd:=by
 unfold EL LQ
 cases R x with
 |none=>simp
 |some ws=>by_cases h:ws.length=6<;>simp [h]
theorem Wo{nd:Nd}(h:R x=some nd.ws):LQ R x=some nd:=by
 unfold LQ;rw [h];rfl
section
variable  {s N:Nat}  {n:Nat}
theorem Nd.Ok.zero:Nd.zero.Ok:=⟨by decide,by decide,by decide,by decide,by decide,by decide⟩
theorem RZ{b:Nat}{t:TypeId}{n:Nat}{f:Nat->Value}(h:w.rowIs b t n f)(I:w'.heap[b]? =w.heap[b]?):w'.rowIs b t n f:=by
 obtain⟨c,h1,J⟩:=h;exact⟨c,I.trans h1,J⟩
end
theorem Nd.Ok.ws{nd:Nd}(h:nd.Ok)(k:Nat):nd.ws[k]?.getD 0<18446744073709551616:=by
 match k with
 |0=>exact h.key
 |1=>exact h.val
 |2=>exact h.left
 |3=>exact h.right
 |4=>exact h.mark
 |5=>exact h.size
 |k+6=>simp [Nd.ws]
section
variable  {s:Nat} {F:Nat->Prop}  {H:List Nat} {P q most last G:Nat}
theorem Jl(h:Ah w s F R H P q most last G)(aa:A6 R){ws:List Nat}(I:R x=some ws)(ab:Tx.Dj ws):
 Calls prog 38 #[.pointer (some ⟨s,0,none⟩), .int .u64 x] w λe w' => ∃F',e= .returned (.int .i64 0)/\Ah w' s F' (AQ R x none) (H.erase x) P q most last G/\Ad w F w' F' :=by
 obtain⟨n,J,_⟩:=h.rd;have hx:=(J.u64 I).1;have O:=Hq J aa x hx;rw [L8 I,Tx.KA ab] at O;have ac:=Zh O;have ae:=Zh (λw' (af:Below w.heap.size w w')=>Jr (h.below af) I);clear h I J O;go_enter func38,ntmps38;go_wp2_with fail;refine ac.mono ?_;rintro e w1 ⟨rfl,U⟩;have ag:=Zh (ae w1 U);have ah:=Zh U;clear U;go_wp2_with fail;refine ag.mono ?_;rintro e w2 ⟨F',rfl,V,Z⟩;have ai:=Zh V;have aj:=Zh ((Ad.below ah).trans Z);clear V Z;go_wp2;go_ret;exact⟨F',rfl,ai,aj⟩
end
section
variable  {s N:Nat}  {n:Nat}
end
section
variable  {s N:Nat}  {n:Nat}
end
section
variable  {s N:Nat}  {n:Nat}
end
section
variable  {s N:Nat}  {n:Nat}
end
def AaV(R:Zr)(x:Nat):Option Nat:=if x=0 then some 0 else if EL R x≠0 then none else some (FK R x).size
def Nd.side(nd:Nd)(k:Nat):Nat:=if k=0 then nd.left else nd.right
def Vu(R:Zr)(nd:Nd):Nat->Option Nat
 |0=>some 1
 |k+1=>(Vu R nd k).bind λs=>(AaV R (nd.side k)).map λa=>(s+a)%18446744073709551616
def Aav(R:Zr)(nd:Nd):Bool:=match Vu R nd 2 with|some s=>nd.size==s|none=>false
section
variable  {s N:Nat}  {n:Nat}
end
structure KM(E:World->Nat->Prop)(A B:World):Prop where
 kb:KB (E A) A B
 grow: ∀k,E B k->E A k\/(A.heap.size<=k/\k<B.heap.size)
theorem KM.trans{E:World->Nat->Prop}{A B C:World}(h:KM E A B)(k:KM E B C):KM E A C:=by
 refine⟨⟨Nat.le_trans h.kb.size k.kb.size,λi o hi I J=> ?_⟩,λi hi=> ?_⟩
 . exact Ydb
 . rcases k.grow i hi with h1|h1
   . rcases h.grow i h1 with O|O
     . exact .inl O
     . exact .inr ⟨O.1,Nat.lt_of_lt_of_le O.2 k.kb.size⟩
   . exact .inr ⟨Nat.le_trans h.kb.size h1.1,h1.2⟩
def AF(l:List Nat):List Value:=l.map λh=> .int .u64 (h:Nat)
section
variable {E:World->Nat->Prop} {N n0 s n B1 B2 base:Nat}  {root:Nat} {v:Value} {st:List Nat} {W W':World}
end
