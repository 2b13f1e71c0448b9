/- A part. -/
import Derived.Test.YtiopopoohglepaaGreatDoorVMk
import Derived.Test.YtiopopoohglepaaGreatDoorVMn
import Derived.Maps.OwnIn
set_option linter.all false
set_option maxRecDepth 100000
set_option maxHeartbeats 4000000
namespace Go.Proofs.YtiopopoohglepaaGreatDoor
open Go.Proofs.Tryz
open Go.RowKit Go.Shelf
variable {B1 B2 x:Nat}{ws:List Nat}
attribute [local go_sem] Oper.semAt_some Ea
section
variable {w w':World} {s N:Nat} {R:Zr} {n:Nat}
theorem Ic(d:R x=some ws):KX R x= .tuple #[.int .i64 ws.length, .int .i64 0]:=by unfold KX;rw [d]
theorem J3(d:R x=none):KX R x= .tuple #[.int .i64 0, .int .i64 7]:=by unfold KX;rw [d]
theorem Qb(s x:Nat)(w:World):Calls prog 83 #[.pointer (some ⟨s,0,none⟩), .int .u64 x] w λe w' =>e= .returned (.func (.func 135) #[] #[.pointer (some ⟨w.heap.size,0,none⟩), .pointer (some ⟨w.heap.size+1,0,none⟩)])/\w' =(w.alloc (.cells #[.pointer (some ⟨s,0,none⟩)] 24)).alloc (.cells #[.int .u64 x] 23):=by
 go_enter func83,ntmps83;go_wp2;go_ret;exact⟨rfl,rfl⟩
theorem Qw(h:Rd N w s R n)(d:R x=some ws)(U:w.cell? ⟨B1,0,none⟩=some (.pointer (some ⟨s,0,none⟩)))(V:w.cell? ⟨B2,0,none⟩=some (.int .u64 x))(c1:B1<N)(c2:B2<N)(aH:N<=w.heap.size):
 SeqStopsK Fence.wide 8 prog 135 #[.pointer (some ⟨B1,0,none⟩), .pointer (some ⟨B2,0,none⟩)] (λz:{z:Nat // z<ws.length}=> #[.int .u64 (ws[z.1]'z.2:Nat)]) (KB (λk=>N<=k)) (λxs=>xs.map (·.1)=List.range ws.length) (λpre=> ∃t,List.range ws.length=pre.map (·.1)++t) ws.length w:=λl aq aI W I aJ aK Z h0=>by
 have ac:=Zh (h.below I);have ae:=(I.cell (p:=⟨B1,0,none⟩) (Al U)).trans U;have af:=(I.cell (p:=⟨B2,0,none⟩) (Al V)).trans V;obtain⟨hx,hlen,hu⟩:=h.u64 d;have aa:=(callsIn_wide (n:=7)).2 (HF ac.out x hx);rw [Ic d] at aa;have ar:=Zh aa;have au:=Zh d;have aw:=Zh h0;clear aa I U V h h0 d hu;refine callsIn_of_wp func135 rfl trivial ?_ rfl;simp only [ntmps135,List.size_toArray,List.length_cons,List.length_nil,Nat.reduceAdd,Nat.reduceSub,Array.replicate_succ,Array.replicate_zero,List.push_toArray,List.append_toArray,List.nil_append,List.cons_append];gi_wp2_with fail;refine ar.mono ?_;rintro e w1 ⟨rfl,rfl⟩;gi_wp2_with fail
 gi_loopw [16] (λab wr=> ∃(pre:List {z:Nat // z<ws.length}) (i:Nat),i<=ws.length/\ab= .int .i64 i/\Hid (pre.map (·.1)=List.range i)/\Hid (Rd N wr s R n)/\wr.cell? ⟨B1,0,none⟩=some (.pointer (some ⟨s,0,none⟩))/\wr.cell? ⟨B2,0,none⟩=some (.int .u64 x)/\Hid (aq pre wr)) (λab _=>ws.length-(intOf ab).toNat)
 case atStart=>exact⟨[],0,by omega,rfl,Zh rfl,ac,ae,af,aw⟩
 case round=>
  obtain⟨pre,i,hi,rfl,hp,ag,ah,ai,aj⟩:=hrel;by_cases J:i<ws.length
  . have ax:=Zh ((callsIn_wide (n:=7)).2 (Q2 ag.out au J))
    have aL:pre.length=i:=(by have:=congrArg List.length hp.out;simpa using this);have ay:=Zh Z;clear Z ae af;gi_wp2_with fail;refine ax.mono ?_;rintro e w2 ⟨rfl,rfl⟩;gi_wp2_with fail;obtain⟨fn,tmps,assign,body,az,al⟩:=ay.out pre ⟨i,J⟩ _ aj (by omega);have aA:=Zh al;clear al;rw [az];gi_wp2;refine(aA).mono ?_;have am:Hid ((pre++ [(⟨i,J⟩:{z:Nat // z<ws.length})]).map (·.1)=List.range (i+1)):=Zh (by rw [List.map_append,hp.out,List.range_succ];rfl);rintro e aM (⟨rfl,an,O⟩|⟨rfl,ao⟩)
    . have aB:=Zh (ag.kb O (λk aC=>aC))
      have aD:=O.cell ah (by simp;omega);have aE:=O.cell ai (by simp;omega);have aF:=Zh an;clear an O ah ai;gi_wp2;go_roundw
      case rel=>exact⟨pre++ [⟨i,J⟩],i+1,by omega,by go_num,am,aB,aD,aE,aF⟩
      case measure=>simp [intOf];omega
    . have aG:=Zh ao
      clear ao;gi_wp2;refine bodyPost_ret (results_none rfl _ _ _) rfl ?_;refine⟨⟨_,rfl⟩, .inr ⟨_,⟨(List.range ws.length).drop (i+1), ?_⟩,aG⟩⟩;rw [am.out];have:=List.take_append_drop (i+1) (List.range ws.length);rw [List.take_range,Nat.min_eq_left (by omega)] at this;exact this.symm
  . obtain rfl:i=ws.length:=by omega
    clear Z;gi_wp2;go_end0;exact⟨⟨_,rfl⟩, .inl ⟨_,hp,aj⟩⟩
end
theorem Tryz.P8:Tryz.prog.underlying 149=some (.slice 22):=by kernel_rfl
theorem Tryz.N2:(Tryz.prog.info? 22).map (λi=>(i.zero,i.size,i.bytes))=some (some (.int .u64 0),1,8):=by kernel_rfl
theorem KB.GQ{B N:Nat}{A C:World}(h:Below B A C)(I:N<=B):KB (λk=>N<=k) A C:=⟨h.size,λk o d _ J=>(h.block k (by omega)).trans d⟩
def BB(l:List Nat):List Value:=l.map λu=> .int .u64 (u:Nat)
def O8(w:World)(bt et:TypeId)(l:List Value)(W:World):Prop:= ∃v,Boxed W w.heap.size bt v/\W.ownsRow w.heap.size et 1 v l.length l/\Below w.heap.size w W
theorem PO{β:Type}(w:World)(bt d:TypeId)(f:β->List Value)(n:Nat)(J:w.heap.size<=n):OwnFrom n (λs W=>O8 w bt d (f s) W):=λs X Y row hs hg I=>by
 obtain⟨v,h1,O,U⟩:=hs;obtain⟨v',a,b,_⟩:=holdsRow_own w.heap.size w.heap.size bt d 1 (λs=>(f s).length) (λs=>f s) (λ_ _=>True) s X Y row ⟨v,h1,O,trivial⟩ hg (λr e=>(I r e).2);exact⟨v',a,b,ownFrom_below (β:=β) (Nat.le_refl _) J s X Y row U hg I⟩
theorem Mj{w W w1:World}{bt d:TypeId}{l l' :List Value}{v v' :Value}{tmp:Obj}(J:bt≠d)(O:Boxed W w.heap.size bt v)(U:W.ownsRow w.heap.size d 1 v l.length l)(I:Below w.heap.size w W)
 (V :w1.ownsRow w.heap.size d 1 v' l'.length l') (Z:(W.alloc tmp).grownBy w1 v.ownBlock):
 Boxed w1 w.heap.size bt v/\O8 w bt d l' (w1.setCell ⟨w.heap.size,0,none⟩ v')/\KeepsOthers W (w1.setCell ⟨w.heap.size,0,none⟩ v')/\Below w.heap.size W (w1.setCell ⟨w.heap.size,0,none⟩ v'):=by
 obtain⟨aa,a2,a3,a4,a5⟩:=O.appended J U I.size (Nat.le_refl _) V Z;exact⟨aa,⟨v',a2,a3,I.trans a5⟩,a4,a5⟩
theorem Ny{xs:List {z:Nat // z<ws.length}}(h:xs.map (·.1)=List.range ws.length):xs.map (λ(z:{z:Nat // z<ws.length})=>Value.int .u64 (ws[z.1]'z.2:Nat))=BB ws:=by
 have h1:xs.map (λ(z:{z:Nat // z<ws.length})=>Value.int .u64 (ws[z.1]'z.2:Nat))=(xs.map (·.1)).map λi=>Value.int .u64 (ws[i]?.getD 0:Nat):=by
  rw [List.map_map];refine List.map_congr_left λz _=> ?_
  simp [z.2]
 rw [h1,h];refine List.ext_getElem (by simp [BB]) λi h1 d=> ?_
 simp only [List.length_map,List.length_range] at h1;simp [BB,h1]
section
variable {w w':World} {s N:Nat} {R:Zr} {n:Nat}
def Ydd{P}(h:P:=by
 exact aa.trans (belowK_b (w:=w) (Nat.le_refl _) _ D' _ _ (by omega) U rfl rfl)):=h
def Yjt{P}(h:P:=by
 have I:Hid ((pre++ [(⟨z,d⟩:{z:Nat // z<ws.length})]).map (λ(z:{z:Nat // z<ws.length})=>Value.int .u64 (ws[z.1]'z.2:Nat))=pre.map (λ(z:{z:Nat // z<ws.length})=>Value.int .u64 (ws[z.1]'z.2:Nat))++ [Value.int .u64 (ws[z]:Nat)]):=Zh (by rw [List.map_append];rfl);exact I):=h
def Yqx{P}(h:P:=by
 have d:=Z.cell;have aa:=Zh J;have I:=Zh ab;exact And.intro d (And.intro aa I)):=h
theorem OD(h:Rd N w s R n)(V:R x=some ws)(ac:w.cell? ⟨B1,0,none⟩=some (.pointer (some ⟨s,0,none⟩)))(ae:w.cell? ⟨B2,0,none⟩=some (.int .u64 x))(c1:B1<N)(c2:B2<N)(aj:N<=w.heap.size):
 CallsIn Fence.wide 9 prog 134 #[.slice none 0 0, .func (.func 135) #[] #[.pointer (some ⟨B1,0,none⟩), .pointer (some ⟨B2,0,none⟩)]] w λe w' => ∃v,e= .returned v/\w'.ownsRow w.heap.size 22 1 v ws.length (BB ws)/\Below w.heap.size w w' :=by
 obtain⟨i0,hi,al,am,an⟩:=info_parts Tryz.N2;have hlen:=(h.u64 V).2.1;have ao:=Zh h;have aq:=Zh V;clear h V;refine callsIn_of_wp_marks func134 rfl trivial ?_ rfl;simp only [ntmps134,List.size_toArray,List.length_cons,List.length_nil,Nat.reduceAdd,Nat.reduceSub,Array.replicate_succ,Array.replicate_zero,List.push_toArray,List.append_toArray,List.nil_append,List.cons_append];gi_wp2_with fail;have ar:Boxed (w.alloc (Obj.cells #[Value.slice none 0 0] 149)) w.heap.size 149 (.slice none 0 0):=Boxed.new w _ _;have I:Below w.heap.size w (w.alloc (Obj.cells #[Value.slice none 0 0] 149)):=(Below.refl _ w).alloc (Nat.le_refl _) _;have au:=(I.cell (p:=⟨B1,0,none⟩) (Al ac)).trans ac;have aw:=(I.cell (p:=⟨B2,0,none⟩) (Al ae)).trans ae;have ax:=Zh (ao.below I);have aJ :w.heap.size+1<=(w.alloc (Obj.cells #[Value.slice none 0 0] 149)).heap.size:=by simp
 generalize w.alloc (Obj.cells #[Value.slice none 0 0] 149)=w2 at*
 refine wpIn_rangeFunc_ownH (α:={z:Nat // z<ws.length}) rfl (by omega) (gf:=135) (lb:= #[.pointer (some ⟨B1,0,none⟩), .pointer (some ⟨B2,0,none⟩)]) rfl trivial (enters_of func135 (by kernel_rfl) rfl)
  (Qw ax aq au aw c1 c2 (by omega))
  (λh k=>h.trans k) (λW l o ay _ af h1 az=>KB.putObj ay af h1 az) (Below.refl _ _) (λ_=>rfl)
  (λpre W=>O8 w 149 22 (pre.map (λ(z:{z:Nat // z<ws.length})=>Value.int .u64 (ws[z.1]'z.2:Nat))) W)
  (λaA pre W=>False)
  (PO w _ _ (λpre:List {z:Nat // z<ws.length}=>pre.map (λ(z:{z:Nat // z<ws.length})=>Value.int .u64 (ws[z.1]'z.2:Nat))) _ (by omega))
  (λ_ _ _ _ _ hs _ _=>hs)
  ⟨_,ar,World.ownsRow_nil _ _ _ _,I⟩
  (λz a' W=>a' ={ tmps:= #[ .slice none 0 0, .func (.func 135) #[] #[ .pointer (some ⟨B1,0,none⟩), .pointer (some ⟨B2,0,none⟩)], .pointer (some ⟨w.heap.size,0,none⟩),undef, .slice none 0 0, .int .u64 (ws[z.1]'z.2:Nat), .func (.func 135) #[] #[ .pointer (some ⟨B1,0,none⟩), .pointer (some ⟨B2,0,none⟩)], .int .u64 (ws[z.1]'z.2:Nat),undef,undef,undef,undef,undef],defers:= [] })
  (λ_ _ _ _ _ _ hs _ _=>hs)
  ?assign ?body ?done ?stop
 case assign=>
  rintro l pre ⟨z,d⟩ W K hi U;dsimp only at U ⊢;gi_wp2;exact U _ W (KeepsOthers.refl _ |>.from _) (KB.refl _ _) hi rfl
 case body=>
  rintro l pre ⟨z,d⟩ a' W af ⟨r,aK⟩ hi rfl hlen;dsimp only;obtain⟨v,Z,ab,J⟩:=hi;have aB:=Yjt;have aL:(pre.map (λ(z:{z:Nat // z<ws.length})=>Value.int .u64 (ws[z.1]'z.2:Nat))).length<=3998:=by rw [List.length_map];omega
  generalize pre.map (λ(z:{z:Nat // z<ws.length})=>Value.int .u64 (ws[z.1]'z.2:Nat))=told at*;have aM:=Z.cell;obtain⟨aa,O,aC⟩:=EW;clear J ab Z;have d:w.heap.size<=W.heap.size:=aa.size;gi_wp2_with (gi_at_builtin;refine wpListIn_append_own_at _ rfl _ _ 149 rfl w.heap.size 22 i0 (.int .u64 0) 1 8 Tryz.P8 hi al am an rfl (by decide) _ _ _ rfl (O.alloc _) ⟨W.heap.size,0,none⟩ 1 1 [.int .u64 (ws[z]:Nat)] rfl rfl (cell_one_new _ _ _) (by simp [Value.oneCell']) (by unfold maxLen;omega) (by omega) (by simp;omega) ?_;intro v' w1 ag aD _ aN;obtain⟨aO,aP,rfl⟩:=ownsRow_succ ag;obtain⟨b1,b2,aE,aF⟩:=Mj (l' :=told++ [Value.int .u64 (ws[z]:Nat)]) (by decide) aC O aa (by simpa using ag) aD;have aQ:=b1.cell;have aR:=b1.frozen);exact⟨aE.from _,KB.GQ aF aj,by show O8 w _ _ _ _;rw [aB.out];exact b2⟩
 case done=>
  rintro D' xs W aG ah hi U;have ai:=Ny ah;rw [ai] at hi;have aH:(BB ws).length=ws.length:=by simp [BB]
  obtain⟨v,Z,ab,J⟩:=hi;rw [aH] at ab;obtain⟨_,aa,O⟩:=Yqx;clear J ab Z ah ai;gi_wp2;refine⟨by simp, .inl ⟨_,_,rfl,run_takeDeferred U, ?_⟩⟩;refine⟨v,by simp [results,f134],v,rfl,Fy (Cs:=λ_=>False) O (KB.putObj _ U rfl rfl) (λ_ h=>h.elim), ?_⟩;exact Ydd
 case stop=>
  rintro D' aA pre W aG aS aI;exact aI.elim
theorem Q0(h:Rd N w s R n)(I:R x=some ws)(J:w.cell? ⟨B1,0,none⟩=some (.pointer (some ⟨s,0,none⟩)))(O:w.cell? ⟨B2,0,none⟩=some (.int .u64 x))(c1:B1<N)(c2:B2<N)(aa:N<=w.heap.size):
 Calls prog 82 #[.func (.func 135) #[] #[.pointer (some ⟨B1,0,none⟩), .pointer (some ⟨B2,0,none⟩)]] w λe w' => ∃A c,e= .returned (.slice A ws.length c)/\Tx.JA w' A ws/\Below w.heap.size w w' :=by
 have ab:=Zh ((callsIn_wide (n:=9)).1 (OD h I J O c1 c2 aa));clear h I J O;go_enter func82,ntmps82;go_wp2_with fail;refine ab.mono ?_;rintro e w1 ⟨v,rfl,d,U⟩;obtain⟨A,c,rfl⟩:=Bu d;have V:=Zh d;have ac:=Zh U;clear d U;go_wp2;go_ret;refine⟨A,c,rfl, ?_,ac⟩;rcases V.2 with ⟨h1,Z⟩|⟨g,cap,cur,h1,Z,ae,ah⟩
 . exact .inl (List.eq_nil_of_length_eq_zero Z)
 . cases h1
   refine .inr ⟨g,0,rfl,(Array.getElem?_eq_some_iff.1 ae).1,λj af=> ?_⟩;rw [Nat.zero_add];have ag:=V.cells (g:=g) rfl j (.int .u64 (ws[j]?.getD 0:Nat)) (by simp [BB,af]);have he:(⟨g,0,none⟩:Addr).add j=⟨g,j,none⟩:=by
    unfold Addr.add
    split
    . next h0=>have:j=0:=by simpa using h0
               rw [this]
    . simp
   rw [<-he];exact ag
end
end Go.Proofs.YtiopopoohglepaaGreatDoor
namespace Go.Proofs.YtiopopoohglepaaGreatDoor
open Go.Proofs.Tryz
open Go.RowKit Go.Shelf
variable {R:Zr}{x:Nat}
def G8(R:Zr)(x:Nat):Option ByteArray:=
 match R x with
 |some ws=>if Tx.Dd ws then some (Tx.HQ ws) else none
 |none=>none
def C8(R:Zr)(x:Nat):Nat:=
 match R x with
 |some ws=>if Tx.Dd ws then 0 else 8
 |none=>7
def G9(R:Zr)(x:Nat):Value:= .tuple #[.string ((G8 R x).getD ⟨#[]⟩), .int .i64 (C8 R x:Nat)]
def Ba(R:Zr):Prop:= ∀x ws,R x=some ws->ws.length<=200
theorem L0{ws:List Nat}(h:R x=some ws):G9 R x=Tx.GG ws:=by
 unfold G9 G8 C8 Tx.GG;rw [h];by_cases d:Tx.Dd ws
 . simp only [if_pos d];rfl
 . simp only [if_neg d];rfl
theorem Q7(h:R x=none):G9 R x= .tuple #[.string ⟨#[]⟩, .int .i64 7]:=by
 unfold G9 G8 C8;rw [h];rfl
section
variable {w w':World} {s N:Nat}  {n:Nat}
def Jt{P}(h:P:=by
 have d:=Zh (af.trans (V.mono af.size));exact d):=h
def Ynf{P}(h:P:=by
 have d:Below w.heap.size w w2:=by rw [ae];exact((Below.refl _ w).alloc (Nat.le_refl _) _).alloc (by simp) _
 exact d):=h
theorem Hs(h:Rd N w s R n)(ai:Ba R)(x:Nat)(hx:x<18446744073709551616):
 Calls prog 43 #[.pointer (some ⟨s,0,none⟩), .int .u64 x] w λe w' =>e= .returned (G9 R x)/\Below w.heap.size w w' :=by
 have J:=Zh (HF h x hx);have aj:=Zh h
 cases d:R x with
 |none=>
  rw [J3 d] at J;rw [Q7 d];clear d h;go_enter func43,ntmps43;go_wp2_with fail;refine J.mono ?_;rintro e w1 ⟨rfl,rfl⟩;go_wp2
  go_ret2
  exact⟨rfl,Below.refl _ _⟩
 |some ws=>
  rw [Ic d] at J;obtain⟨_,_,hu⟩:=h.u64 d;have al:Hid (∀j:Nat,ws[j]?.getD 0<18446744073709551616):=Zh (λj=>by
   by_cases Z:j<ws.length
   . rw [List.getElem?_eq_getElem Z];exact hu j Z
   . rw [List.getElem?_eq_none (by omega)];simp)
  have am:=Zh (ai x ws d);have an:=Zh (λw=>Qb s x w);have ao:=Zh d;have hs:=Zh (L0 d);clear d h hu;go_enter func43,ntmps43;go_wp2_with fail;refine J.mono ?_;rintro e w1 ⟨rfl,rfl⟩;go_wp2_with fail;refine(an _).mono ?_;rintro e w2 ⟨rfl,ae⟩;have U:=Ynf;have aa:w2.cell? ⟨w.heap.size,0,none⟩=some (.pointer (some ⟨s,0,none⟩)):=by rw [ae];go_simp
  have ab:w2.cell? ⟨w.heap.size+1,0,none⟩=some (.int .u64 x):=by rw [ae];go_simp
  have aq:w.heap.size+2<=w2.heap.size:=by rw [ae];simp
  have ar:=Zh (Q0 (aj.here.below U |>.mono (show w.heap.size<=w.heap.size+2 by omega)) ao aa ab (by omega) (by omega) aq);have ac:=Zh U;clear ae aa ab U;go_wp2_with fail;refine ar.mono ?_;rintro e w3 ⟨A,c,rfl,ag,I⟩;have au:=Zh (Tx.Jg A c ws.length ws w3 rfl am ag al);have af:=DR;clear ag I;go_wp2_with fail;refine au.mono ?_;rintro e w4 ⟨rfl,V⟩;have ah:=Jt;clear V;by_cases O:Tx.Dd ws
  . rw [Tx.Kz O]
    go_wp2
    go_ret2
    exact⟨by rw [hs.out,Tx.Kz O];rfl,ah⟩
  . rw [Tx.Kl O]
    go_wp2
    go_ret2
    exact⟨by rw [hs.out,Tx.Kl O];rfl,ah⟩
end
structure BN where
 keys:List Nat
 Ab:List Nat
 kids:List Nat
 size:Nat
namespace BN
variable {i k t:Nat}{n:BN}
def zero:BN:=⟨[],[],[],0⟩
def A1(t:Nat):Prop:=2<=t/\t<=16
def Fits(t:Nat)(n:BN):Prop:=n.keys.length<=2*t-1/\n.Ab.length=n.keys.length/\(n.kids= []\/(n.kids.length=n.keys.length+1/\0∉n.kids))
instance (t:Nat) (n:BN):Decidable (n.Fits t):=by unfold Fits;infer_instance
instance (t:Nat):Decidable (A1 t):=by unfold A1;infer_instance
def Dm(t:Nat)(n:BN)(i:Nat):Nat:=
 if i=0 then n.keys.length else if i=1 then n.size else
 if i<4*t then (if (i-2)%2=0 then n.keys.getD ((i-2)/2) 0 else n.Ab.getD ((i-2)/2) 0) else n.kids.getD (i-4*t) 0
def wd(t:Nat)(n:BN):List Nat:=(List.range (6*t)).map (n.Dm t)
theorem B6(t:Nat)(n:BN):(n.wd t).length=6*t:=by simp [wd]
theorem U0(h:i<(n.wd t).length):(n.wd t)[i]=n.Dm t i:=by simp [wd]
theorem Yh(h:i<6*t):(n.wd t)[i]? =some (n.Dm t i):=by simp [wd,h]
theorem Ge(h:i<6*t):(n.wd t).getD i 0=n.Dm t i:=by rw [List.getD_eq_getElem?_getD,Yh h];rfl
theorem Q5(t:Nat)(n:BN):n.Dm t 0=n.keys.length:=rfl
theorem at_one(t:Nat)(n:BN):n.Dm t 1=n.size:=rfl
theorem QA(h:k<2*t-1):n.Dm t (2+2*k)=n.keys.getD k 0:=by
 unfold Dm;rw [if_neg (by omega),if_neg (by omega),if_pos (by omega),show(2+2*k-2)=2*k by omega,if_pos (by omega),show 2*k/2=k by omega]
theorem Qj(h:k<2*t-1):n.Dm t (2+2*k+1)=n.Ab.getD k 0:=by
 unfold Dm;rw [if_neg (by omega),if_neg (by omega),if_pos (by omega),if_neg (by omega),show(2+2*k+1-2)/2=k by omega]
theorem MN(d:2<=t):n.Dm t (4*t+k)=n.kids.getD k 0:=by
 unfold Dm;rw [if_neg (by omega),if_neg (by omega),if_neg (by omega),show 4*t+k-4*t=k by omega]
def Q6(t:Nat)(ws:List Nat):BN:=
 ⟨(List.range (ws.getD 0 0)).map λk=>ws.getD (2+2*k) 0,(List.range (ws.getD 0 0)).map λk=>ws.getD (2+2*k+1) 0,
  if ws.getD (4*t) 0=0 then [] else (List.range (ws.getD 0 0+1)).map λk=>ws.getD (4*t+k) 0,ws.getD 1 0⟩
def Kg(t:Nat)(ws:List Nat):Prop:=ws.length=6*t/\ws.getD 0 0<=2*t-1/\(Q6 t ws).Fits t/\(Q6 t ws).wd t=ws
instance (t:Nat) (ws:List Nat):Decidable (Kg t ws):=by unfold Kg;infer_instance
theorem ext' {a b:BN}(h1:a.keys=b.keys)(d:a.Ab=b.Ab)(I:a.kids=b.kids)(J:a.size=b.size):a=b:=by
 cases a;cases b;simp_all
theorem LN(l:List Nat):(List.range l.length).map (λk=>l.getD k 0)=l:=by
 refine List.ext_getElem (by simp) λi h1 d=> ?_
 simp [d]
theorem QV(O:A1 t)(h:n.Fits t):Q6 t (n.wd t)=n:=by
 obtain⟨t1,t2⟩:=O;obtain⟨h1,U,d⟩:=h;have V:(n.wd t).getD 0 0=n.keys.length:=by rw [Ge (by omega),Q5]
 unfold Q6;rw [V];refine ext' ?_ ?_ ?_ ?_
 . show(List.range n.keys.length).map _=_
   conv=>rhs;rw [<-LN n.keys]
   refine List.map_congr_left λk I=> ?_
   have:=List.mem_range.1 I;rw [Ge (by omega),QA (by omega)]
 . show(List.range n.keys.length).map _=_
   conv=>rhs;rw [<-LN n.Ab,U]
   refine List.map_congr_left λk I=> ?_
   have:=List.mem_range.1 I;rw [Ge (by omega),Qj (by omega)]
 . show(if (n.wd t).getD (4*t) 0=0 then [] else _)=_
   have Z:(n.wd t).getD (4*t) 0=n.kids.getD 0 0:=(by rw [Ge (by omega)];exact MN (k:=0) t1);rw [Z];rcases d with d|⟨d,aa⟩
   . rw [d,if_pos (by rfl)]
   . have J:0<n.kids.length:=by omega
     have:n.kids.getD 0 0≠0:=by
      intro e;apply aa;rw [<-e,List.getD_eq_getElem?_getD,List.getElem?_eq_getElem J];exact List.getElem_mem J
     rw [if_neg this,<-d]
     conv=>rhs;rw [<-LN n.kids]
     refine List.map_congr_left λk I=> ?_
     have:=List.mem_range.1 I;rw [Ge (by omega),MN t1]
 . show(n.wd t).getD 1 0=_
   rw [Ge (by omega),at_one]
theorem U3(d:A1 t)(h:n.Fits t):Kg t (n.wd t):=by
 refine⟨B6 t n, ?_, ?_, ?_⟩
 . rw [Ge (by have:=d.1;omega),Q5];exact h.1
 . rw [QV d h];exact h
 . rw [QV d h]
end BN
variable {R:Zr}{t x:Nat}{w w':World}
def Ag(R:Zr)(t x:Nat):BN:=
 match R x with
 |some ws=>if BN.Kg t ws then BN.Q6 t ws else BN.zero
 |none=>BN.zero
def Bm(R:Zr)(t x:Nat):Nat:=
 match R x with
 |some ws=>if BN.Kg t ws then 0 else 8
 |none=>7
def KO(R:Zr)(t x:Nat)(n:BN):Prop:=R x=some (n.wd t)/\n.Fits t
theorem KO.get{n:BN}(d:BN.A1 t)(h:KO R t x n):Ag R t x=n/\Bm R t x=0:=by
 unfold Ag Bm;rw [h.1];simp only [if_pos (BN.U3 d h.2),BN.QV d h.2,and_self]
theorem Py(d:BN.A1 t):Bm R t x=0↔KO R t x (Ag R t x):=by
 unfold Bm KO Ag
 cases h:R x with
 |none=>simp
 |some ws=>
  by_cases hw:BN.Kg t ws
  . simp only [if_pos hw,true_iff]
    exact⟨by rw [hw.2.2.2],hw.2.2.1⟩
  . simp only [if_neg hw]
    constructor
    . intro h;cases h
    . rintro⟨h1,I⟩
      exfalso
      have:ws=BN.zero.wd t:=Option.some.inj h1;exact hw (by rw [this];exact BN.U3 d I)
theorem TB(R:Zr)(t x:Nat):Bm R t x=0\/(Bm R t x=7/\R x=none/\Ag R t x=BN.zero)\/(Bm R t x=8/\Ag R t x=BN.zero):=by
 unfold Bm Ag
 cases h:R x with
 |none=>exact .inr (.inl ⟨rfl,rfl,rfl⟩)
 |some ws=>
  by_cases hw:BN.Kg t ws
  . dsimp only;rw [if_pos hw];exact .inl rfl
  . dsimp only;rw [if_neg hw,if_neg hw];exact .inr (.inr ⟨rfl,rfl⟩)
theorem No(h:Bm R t x≠0):Ag R t x=BN.zero:=by
 rcases TB R t x with d |d |d
 . exact absurd d h
 . exact d.2.2
 . exact d.2
variable {F:Fence} {n:Nat} {P:Program}
def MT(w:World)(s:Nat)(F:Nat->Prop)(R:Zr)(H:List Nat)(P q most last G:Nat)(ws:List Nat)(e:Ending)(w' :World):Prop:=
 (∃x F',R x=none/\x≠0/\x<18446744073709551616/\e= .returned (.tuple #[.int .u64 (x:Nat), .int .i64 0])/\Am w' s F' (AT R x (some ws)) (x::H) (P+CC (ws.length+2)) q most last (G+1)/\Ad w F w' F')\/
 (∃er F',e= .returned (.tuple #[.int .u64 0, .int .i64 (er:Nat)])/\((er=3/\q<(P+CC (ws.length+2))*64)\/(er=10/\(most<=H.length\/last<=G)))/\Am w' s F' R H (P+CC (ws.length+2)) q most last G/\Ad w F w' F')
theorem E2(R:Zr)(x:Nat): ∃a b:Nat,KX R x= .tuple #[.int .i64 a, .int .i64 b]/\b≠1:=by
 unfold KX
 cases R x with
 |none=>exact⟨0,7,rfl,by decide⟩
 |some ws=>exact⟨ws.length,0,rfl,by decide⟩
theorem Jc(R:Zr)(x:Nat)(o d :Option (List Nat)):AT (AT R x o) x d =AT R x d :=by
 funext y;unfold AT;split<;>rfl
def part(ws:List Nat)(k:Nat):List Nat:=ws.take k++List.replicate (ws.length-k) 0
theorem O6(ws:List Nat)(k:Nat):(part ws k).length=ws.length:=by unfold part;simp;omega
theorem UL(ws:List Nat):part ws 0=List.replicate ws.length 0:=by unfold part;simp
theorem VY(ws:List Nat):part ws ws.length=ws:=by unfold part;simp
theorem Su(ws:List Nat)(k i:Nat)(I:k<=ws.length):(part ws k)[i]? =if i<k then ws[i]? else if i<ws.length then some 0 else none:=by
 unfold part;rw [List.getElem?_append,List.length_take,Nat.min_eq_left I];by_cases h:i<k
 . rw [if_pos h,if_pos h,List.getElem?_take,if_pos h]
 . rw [if_neg h,if_neg h,List.getElem?_replicate]
   by_cases d:i<ws.length
   . rw [if_pos d,if_pos (by omega)]
   . rw [if_neg d,if_neg (by omega)]
theorem VX(ws:List Nat)(k:Nat)(d:k<ws.length):(part ws k).set k ws[k]=part ws (k+1):=by
 refine List.ext_getElem? λi=> ?_
 rw [List.getElem?_set,Su ws k i (by omega),Su ws (k+1) i (by omega),O6];by_cases e:k=i
 . subst e
   rw [if_pos rfl,if_pos d,if_pos (by omega),List.getElem?_eq_getElem d]
 . rw [if_neg e]
   by_cases h:i<k
   . rw [if_pos h,if_pos (by omega)]
   . rw [if_neg h,if_neg (show¬i<k+1 by omega)]
theorem N3{A:Option Addr}{l:List Nat}{F F' :Nat->Prop}(h:Tx.JA w A l)(d:Ad w F w' F')(I: ∀r,A=some r-> ¬F r.block):Tx.JA w' A l:=by
 rcases h with h|⟨b,o,rfl,J,O⟩
 . exact .inl h
 . exact .inr ⟨b,o,rfl,Nat.lt_of_lt_of_le J d.size,λj U=>d.cell (O j U) (I ⟨b,o,none⟩ rfl)⟩
section
variable  {s:Nat} {F:Nat->Prop}  {H:List Nat} {P q most last G:Nat}
def Yek{P}(h:P:=by
 go_wp2;go_roundw
 case rel=>exact⟨k+1,by omega,by go_num,ac,ah,I⟩
 case measure=>simp [intOf];omega):=h
theorem Ss(h:Am w s F R H P q most last G)(b:ByteArray)(au:b.size<=1000):
 Calls prog 50 #[.pointer (some ⟨s,0,none⟩), .string b] w (MT w s F R H P q most last G (Tx.A8 b.data.toList)):=by
 have ai:=Zh (IX h 0 (by decide));obtain⟨aW,lb,aw,aJ⟩:=E2 R 0;rw [aw] at ai;have d1:((lb:Int)==1)=false:=by simp;omega
 have aj:=Zh (Tx.Oe b w au);have aa:(Tx.A8 b.data.toList).length=Tx.many b.size:=by rw [Tx.C7,Tx.Er]
 have aK:Tx.many b.size<=126:=by unfold Tx.many;omega
 have ab:=Zh (λj (U:j<Tx.many b.size)=>Tx.Fu b.data.toList j (by rw [Tx.Er];exact U));have ax:=Zh (Tx.Uv b au);have ae:=Zh h;obtain⟨ws,ay⟩:=Zx (Tx.A8 b.data.toList);obtain⟨m,hm⟩:=Zx (Tx.many b.size);rw [<-ay] at aa ab ax ⊢;rw [<-hm] at aa aK ab aj;have d:=Zh aa;clear aw aJ h ay hm aa;go_enter func50,ntmps50;go_wp2_with fail;refine ai.mono ?_;rintro e w1 ⟨rfl,rfl⟩;go_wp2_with fail;refine aj.mono ?_;rintro e w1 ⟨rfl,af,al⟩;have am:Hid (Tx.JA w1 (some ⟨w.heap.size,0,none⟩) ws):=Zh (.inr ⟨_,_,rfl,af.lt,λj U=>by
  rw [d.out] at U;rw [Nat.zero_add,af.cell U,ab.out j U];rfl⟩)
 have an:=Zh (Lr (ae.below al) m (by omega));have az:=Zh al;have aA:Hid (¬F w.heap.size):=Zh (λaL=>by have:=ae.lt aL;omega);have aM:w.heap.size<w1.heap.size:=af.lt;clear af al ab ai aj;go_wp2_with fail;refine an.mono ?_;rintro e w2 (⟨x,F',aB,aN,aO,rfl,V,J⟩|⟨er,F',rfl,aC,V,J⟩)
 . have ao:=Zh ((Ad.below az).trans J)
   have aP:=Zh (J.not aM aA);have aQ:=Zh (N3 am J (λr e=>by cases e;exact aA.out));have aR:Hid (Am w2 s F' (AT R x (some (part ws 0))) (x::H) (P+CC (ws.length+2)) q most last (G+1)):=Zh (by rw [UL,d.out];exact V);have aS:=Zh aB;clear V J an am ae aB;go_wp2_with fail
   go_loopw [40] (λaq wr=> ∃k:Nat,k<=m/\aq= .int .i64 k/\Hid (Am wr s F' (AT R x (some (part ws k))) (x::H) (P+CC (ws.length+2)) q most last (G+1))/\Hid (Ad w F wr F')/\Hid (Tx.JA wr (some ⟨w.heap.size,0,none⟩) ws)) (λaq _=>m-(intOf aq).toNat)
   case atStart=>exact⟨0,by omega,rfl,aR,ao,aQ⟩
   case round=>
    obtain⟨k,aX,rfl,aD,aE,aF⟩:=hrel;by_cases aG:k<m
    . obtain⟨b',aY,he,_,aH⟩:=aF.resolve_left (λe=>by have:=d.out;rw [e] at this;simp at this;omega)
      simp only [Option.some.injEq,Addr.mk.injEq] at he;obtain⟨rfl,rfl,_⟩:=he;have ag:=aH k (by rw [d.out];exact aG);rw [Nat.zero_add] at ag;have O:k<ws.length:=(by rw [d.out];exact aG);have Z:=RR aD.out (x:=x) (i:=k) (u:=ws[k]?.getD 0) (ws:=part ws k) (AR _ _ _) (by rw [O6];exact O) (ax k);rw [Jc,List.getElem?_eq_getElem O] at Z;simp only [Option.getD_some] at Z;rw [VX ws k O] at Z;rw [List.getElem?_eq_getElem O] at ag;simp only [Option.getD_some] at ag;have aT:=Zh Z;have aZ:=Zh O;generalize hu:ws[k]=u at*;clear aH Z O hu;go_wp2_with fail;refine aT.mono ?_;rintro e w3 ⟨rfl,aI,ar⟩;have ac:=Zh aI;have ah:=Zh (aE.trans ar);have I:=Zh (N3 aF ar (λr e=>by cases e;exact aP.out));clear aI ar ag;exact Yek
    . obtain rfl:k=m:=by omega
      go_wp2
      go_ret2
      refine .inl ⟨x,F',aS,aN,aO,rfl, ?_,aE⟩;have:=aD.out;rw [<-d.out,VY] at this;exact this
 . have ao:=Zh ((Ad.below az).trans J)
   have aU:=Zh V;have aV:=Zh aC;have d2:((er:Int) !=0)=true:=(by simp;omega);clear V J an am ae aC;go_wp2
   go_ret2
   refine .inr ⟨er,F',rfl, ?_, ?_,ao⟩
   . rw [d.out];exact aV.out
   . rw [d.out];exact aU.out
end
structure Nd where
 key:Nat
 val:Nat
 left:Nat
 right:Nat
 mark:Nat
 size:Nat
def Nd.v(x:Nd):Value:= .agg #[.int .u64 x.key, .int .u64 x.val, .int .u64 x.left, .int .u64 x.right, .int .u64 x.mark, .int .u64 x.size]
def Nd.ws(x:Nd):List Nat:= [x.key,x.val,x.left,x.right,x.mark,x.size]
def Nd.zero:Nd:=⟨0,0,0,0,0,0⟩
def Ad3(ws:List Nat):Nd:=⟨ws[0]?.getD 0,ws[1]?.getD 0,ws[2]?.getD 0,ws[3]?.getD 0,ws[4]?.getD 0,ws[5]?.getD 0⟩
structure Nd.Ok(x:Nd):Prop where
 key:x.key<18446744073709551616
 val:x.val<18446744073709551616
 left:x.left<18446744073709551616
 right:x.right<18446744073709551616
 mark:x.mark<18446744073709551616
 size:x.size<18446744073709551616
def LK(R:Zr)(x:Nat):Option Nd:=
 match R x with
 |some ws=>if ws.length=6 then some (Ad3 ws) else none
 |none=>none
def EJ(R:Zr)(x:Nat):Nat:=
 match R x with
 |some ws=>if ws.length=6 then 0 else 8
 |none=>7
def FH(R:Zr)(x:Nat):Nd:=(LK R x).getD Nd.zero
theorem Sp:EJ R x=0↔ ∃nd,LK R x=some nd:=by
 unfold EJ LK
 cases R x with
 |none=>simp
 |some ws=>by_cases h:ws.length=6<;>simp [h]
theorem VZ{nd:Nd}(h:R x=some nd.ws):LK R x=some nd:=by
 unfold LK;rw [h];rfl
section
variable  {s N:Nat}  {n:Nat}
theorem Nd.Ok.zero:Nd.zero.Ok:=⟨by decide,by decide,by decide,by decide,by decide,by decide⟩
theorem RL{b:Nat}{t:TypeId}{n:Nat}{f:Nat->Value}(h:w.rowIs b t n f)(d:w'.heap[b]? =w.heap[b]?):w'.rowIs b t n f:=by
 obtain⟨c,h1,I⟩:=h;exact⟨c,d.trans h1,I⟩
end
theorem Nd.Ok.ws{nd:Nd}(h:nd.Ok)(k:Nat):nd.ws[k]?.getD 0<18446744073709551616:=by
 match k with
 |0=>exact h.key
 |1=>exact h.val
 |2=>exact h.left
 |3=>exact h.right
 |4=>exact h.mark
 |5=>exact h.size
 |k+6=>simp [Nd.ws]
section
variable  {s:Nat} {F:Nat->Prop}  {H:List Nat} {P q most last G:Nat}
theorem Pu(h:Am w s F R H P q most last G)(Z:Ba R){ws:List Nat}(d:R x=some ws)(aa:Tx.Dd ws):
 Calls prog 38 #[.pointer (some ⟨s,0,none⟩), .int .u64 x] w λe w' => ∃F',e= .returned (.int .i64 0)/\Am w' s F' (AT R x none) (H.erase x) P q most last G/\Ad w F w' F' :=by
 obtain⟨n,I,_⟩:=h.rd;have hx:=(I.u64 d).1;have J:=Hs I Z x hx;rw [L0 d,Tx.Kz aa] at J;have ab:=Zh J;have ac:=Zh (λw' (ae:Below w.heap.size w w')=>LQ (h.below ae) d);clear h d I J;go_enter func38,ntmps38;go_wp2_with fail;refine ab.mono ?_;rintro e w1 ⟨rfl,O⟩;have af:=Zh (ac w1 O);have ag:=Zh O;clear O;go_wp2_with fail;refine af.mono ?_;rintro e w2 ⟨F',rfl,U,V⟩;have ah:=Zh U;have ai:=Zh ((Ad.below ag).trans V);clear U V;go_wp2;go_ret;exact⟨F',rfl,ah,ai⟩
end
section
variable  {s N:Nat}  {n:Nat}
end
section
variable  {s N:Nat}  {n:Nat}
end
section
variable  {s N:Nat}  {n:Nat}
end
section
variable  {s N:Nat}  {n:Nat}
end
def Aan(R:Zr)(x:Nat):Option Nat:=if x=0 then some 0 else if EJ R x≠0 then none else some (FH R x).size
def Nd.side(nd:Nd)(k:Nat):Nat:=if k=0 then nd.left else nd.right
def U7(R:Zr)(nd:Nd):Nat->Option Nat
 |0=>some 1
 |k+1=>(U7 R nd k).bind λs=>(Aan R (nd.side k)).map λa=>(s+a)%18446744073709551616
def ZV(R:Zr)(nd:Nd):Bool:=match U7 R nd 2 with|some s=>nd.size==s|none=>false
section
variable  {s N:Nat}  {n:Nat}
end
structure KM(E:World->Nat->Prop)(A B:World):Prop where
 kb:KB (E A) A B
 grow: ∀k,E B k->E A k\/(A.heap.size<=k/\k<B.heap.size)
theorem KM.trans{E:World->Nat->Prop}{A B C:World}(h:KM E A B)(k:KM E B C):KM E A C:=by
 refine⟨⟨Nat.le_trans h.kb.size k.kb.size,λi o hi d I=> ?_⟩,λi hi=> ?_⟩
 . exact Ycy
 . rcases k.grow i hi with h1|h1
   . rcases h.grow i h1 with J|J
     . exact .inl J
     . exact .inr ⟨J.1,Nat.lt_of_lt_of_le J.2 k.kb.size⟩
   . exact .inr ⟨Nat.le_trans h.kb.size h1.1,h1.2⟩
def AG(l:List Nat):List Value:=l.map λh=> .int .u64 (h:Nat)
section
variable {E:World->Nat->Prop} {N n0 s n B1 B2 base:Nat}  {root:Nat} {v:Value} {st:List Nat} {W W':World}
end
