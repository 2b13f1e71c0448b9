/- A part. -/
import Derived.Test.YtiopopoohglepaaGreatDoorVMu
import Derived.Deep.Onto
set_option linter.all false
set_option maxRecDepth 100000
set_option maxHeartbeats 16000000
namespace Go.Proofs.YtiopopoohglepaaGreatDoor
open Go.Proofs.Tryz
open Go.RowKit Go.Shelf
variable {B N n nn sz:Nat}{e:TypeId}{v:Value}{w w' w1:World}{xs:List Value}
theorem Tryz.BI:Tryz.prog.underlying 46=some (.slice 23):=by kernel_rfl
theorem Tryz.CV:(Tryz.prog.info? 23).map (λi=>(i.zero,i.size,i.bytes))=some (some (.int .u64 0),1,8):=by kernel_rfl
theorem OR{wr:World}{tmp:Obj}(d:Below N w1 wr)(hN:N<=wr.heap.size)(hg:(wr.alloc tmp).grownBy w' v.ownBlock)(I: ∀r,v.ownBlock=some r->N<=r):Below N w1 w' :=
 ⟨hg.os.trans d.os,hg.tape.trans d.tape,hg.output.trans d.output,Nat.le_trans d.size (Nat.le_trans (by simp) hg.size),λk J=>by
  have h1:k<wr.heap.size:=by omega
  refine(hg.block k (by simp;omega) (λe=> ?_)).trans ((Below.heap_alloc wr tmp k h1).trans (d.block k J));have:=I k e.symm;omega⟩
theorem JC{W:World}(h:W.ownsRow N e 1 v n xs)(r:Nat)(d:v.ownBlock=some r):N<=r:=by
 rcases h.2 with ⟨rfl,_⟩|⟨g,cap,cur,rfl,I,_⟩
 . simp [Value.ownBlock] at d
 . have:g=r:=by simpa [Value.ownBlock] using d
   omega
section
variable  {s:Nat} {F:Nat->Prop} {R:Zr} {H:List Nat} {P q most last G:Nat}
theorem R8(h:Am w s F R H P q most last G):
 Calls prog 18 #[.pointer (some ⟨s,0,none⟩)] w λe w' => ∃(v:Value) (J:List Nat),e= .returned v/\J.Perm H/\w'.ownsRow w.heap.size 23 1 v J.length (J.map λx:Nat=>Value.int .u64 (x:Int))/\Below w.heap.size w w' :=by
 obtain⟨a,ha,t,v,L,mem,sl,Fh,h⟩:=h;obtain⟨i0,hi,ai,aj,al⟩:=info_parts Tryz.CV;have hN:=Zh (Ga h);have aG:=h.ch;have am:=Zh h;have an:=Zh (Xz h.heap);have ao:=Zh h.perm;have aq:Hid ((blocks L).length<=31*4096):=Zh (by
  obtain⟨⟨mb,D,k1,rfl⟩,aH,aI⟩:=h.heap;have h1:=k1.sl.room;have aJ:=k1.sl.Dw;rw [k1.sl.count] at h1;have aK:=Nn (L:=L);have aL:=Mx L;omega)
 clear h;go_enter func18,ntmps18;go_wp2_with fail;refine hN.mono ?_;rintro e w' ⟨rfl,rfl⟩;go_wp2_with fail;refine an.mono ?_;rintro e w1 ⟨aM,rfl,O,U⟩;obtain⟨A,c,rfl⟩:=Bu O;have ar:=Zh O;have V:=Zh U;have au:=Zh (am.below U);have aN:=aq.out;clear O U;generalize ae:blocks L=bl at*;have aw:=Zh ae;clear ae;go_wp2
 go_loopw [16,3] (λZ vv wr=> ∃k:Nat,k<=bl.length/\Z= .int .i64 k/\Hid (wr.ownsRow w1.heap.size 23 1 vv k ((bl.take k).map λb=>Value.int .u64 (mem b.1:Int)))/\Hid (Below w1.heap.size w1 wr)) (λZ _ _=>bl.length-(intOf Z).toNat)
 case atStart=>exact⟨0,by omega,rfl,Zh (by simpa using World.ownsRow_nil _ _ _ _),Zh (Below.refl _ _)⟩
 case round=>
  obtain⟨k,aO,rfl,I,d⟩:=hrel;by_cases aa:k<bl.length
  . obtain⟨g,ax,af,aP,ay,ag⟩:=Eb ar (i:=k) (u:= .int .i64 ((bl[k].1:Nat):Int)) (by simp [rowsOf,aa])
    obtain⟨rfl,rfl⟩:A=some ⟨g,0,none⟩/\c=ax :=by simpa using af
    have aQ:wr.cell? ⟨g,k,none⟩=some (.int .i64 ((bl[k].1:Nat):Int)):=(d.cell (p:=⟨g,k,none⟩) ay).trans ag;have ab:=Zh (au.below d);have aR:=ab.ca;have ac:bl[k]∈blocks L:=(by rw [aw.out];exact List.getElem_mem aa);have az:=Zh (NJ ab.heap ac bl[k].1 (Nat.le_refl _) (by have:=CY ab.heap.lay ac;omega));have aA:=d.size;have aB:Hid (((bl.take k).map λb=>Value.int .u64 (mem b.1:Int))++ [Value.int .u64 (mem bl[k].1:Int)]=(bl.take (k+1)).map λb=>Value.int .u64 (mem b.1:Int)):=Zh (by rw [List.take_succ_eq_append_getElem aa,List.map_append];rfl);clear ag af ac;generalize aC:bl[k].1=x at*;clear aC;go_wp2_with fail;refine az.mono ?_;rintro e w2 ⟨rfl,rfl⟩;have hlen:k<=31*4096:=(by omega);go_wp2_with (at_builtin;refine wpList_append_own_at _ rfl _ _ 46 rfl w1.heap.size 23 i0 (.int .u64 0) 1 8 Tryz.BI hi ai aj al rfl (by decide) _ _ _ rfl (I.alloc _) ⟨wr.heap.size,0,none⟩ 1 1 [.int .u64 (mem x:Int)] rfl rfl (cell_one_new _ _ _) (by simp [Value.oneCell']) (by unfold maxLen;omega) (by omega) (by simp;omega) ?_;intro v' w3 ah aD _ aS;rw [aB.out] at ah;have aE:=OR d aA aD (λr aF=>JC I r aF));go_roundw
    case rel=>exact⟨k+1,by omega,by go_num,Zh ah,Zh aE⟩
    case measure=>simp [intOf];omega
  . obtain rfl:k=bl.length:=by omega
    go_wp2;go_ret;rw [List.take_length] at I;refine⟨_,bl.map λb=>mem b.1,rfl,ao.symm, ?_,V.trans (d.mono V.size)⟩;rw [List.length_map,List.map_map];exact I.mono V.size
end
def Rw(w w' :World)(r r' :Option Nat):Prop:=w.grownBy w' r/\(r' =r\/ ∀k,r' =some k->w.heap.size<=k)
theorem Rw.below(h:Below w.heap.size w w')(r:Option Nat):Rw w w' r r:=⟨⟨h.os,h.tape,h.output,h.size,λk d _=>h.block k d⟩, .inl rfl⟩
theorem Rw.trans{w2:World}{r r1 r2:Option Nat}(h:Rw w w1 r r1)(g:Rw w1 w2 r1 r2):Rw w w2 r r2:=by
 refine⟨⟨g.1.os.trans h.1.os,g.1.tape.trans h.1.tape,g.1.output.trans h.1.output,Nat.le_trans h.1.size g.1.size,λk d J=>(g.1.block k (Nat.lt_of_lt_of_le d h.1.size) (λe=> ?_)).trans (h.1.block k d J)⟩, ?_⟩
 . rcases h.2 with I|I
   . exact J (e.trans I)
   . have:=I k e.symm;omega
 . rcases g.2 with g2|g2
   . rw [g2];exact h.2
   . exact .inr λk d=>Nat.le_trans h.1.size (g2 k d)
theorem Rw.cell{r I :Option Nat}(h:Rw w w' r I){p:Addr}(d:w.cell? p=some v)(J:some p.block≠r):w'.cell? p=some v:=(World.cell?_of_block (h.1.block p.block (Al d) J)).trans d
theorem Rw.low{r d :Option Nat}(h:Rw w w' r d)(J:B<=w.heap.size)(I: ∀k,r=some k->B<=k):Below B w w' :=⟨h.1.os,h.1.tape,h.1.output,h.1.size,λk O=>h.1.block k (by omega) (λe=>by have:=I k e.symm;omega)⟩
theorem Rd.rw{s:Nat}{R:Zr}{r d :Option Nat}(h:Rd N w s R nn)(g:Rw w w' r d)(hN:N<=w.heap.size)(I: ∀k,r=some k->N<=k):Rd N w' s R nn:=h.kb (KB.GQ (g.low hN I) (Nat.le_refl _)) λ_ J=>J
theorem Em(h:w.ownsRow B e sz v n xs)(I: ∀k,v.ownBlock=some k->w'.heap[k]? =w.heap[k]?):w'.ownsRow B e sz v n xs:=by
 refine⟨h.1, ?_⟩;rcases h.2 with d|⟨g,cap,cur,d,J,O,U⟩
 . exact .inl d
 . refine .inr ⟨g,cap,cur,d,J, ?_,U⟩
   rw [I g (by rw [d];rfl)];exact O
theorem Bs(h:w.ownsRow B e sz v n xs): ∀k,v.ownBlock=some k->k<w.heap.size:=λk d=>by
 rcases h.2 with ⟨I,_⟩|⟨g,cap,cur,I,O,J,U⟩
 . rw [I] at d;cases d
 . rw [I] at d
   obtain rfl:g=k:=by simpa [Value.ownBlock] using d
   exact(Array.getElem?_eq_some_iff.1 J).1
theorem B8(h:w.ownsRow B e sz v n xs)(d:Below w.heap.size w w'):w'.ownsRow B e sz v n xs:=Em h λk I=>d.block k (Bs h k I)
theorem AQ.ge{v1 v2 v3:Value}{l1 l2 l3:List Nat}(h:AQ w B v1 l1 v2 l2 v3 l3): ∀k,v3.ownBlock=some k->B<=k:=λk d=>(BM h.r3 d).1
theorem IG{R:Zr}{t most:Nat}: ∀(f:Nat) (out:List Nat) (h:Nat),out.length<=(Bg R t most f out h).length/\(Bg R t most f out h).length<=max out.length most
 |0,out,h=>by unfold Bg;omega
 |f+1,out,h=>by
  unfold Bg
  split
  . omega
  . next I=>
    have d: ∀(l:List Nat) (o:List Nat),o.length<=(l.foldl (Bg R t most f) o).length/\(l.foldl (Bg R t most f) o).length<=max o.length most:=by
     intro l
     induction l with
     |nil=>intro o;simp only [List.foldl_nil];omega
     |cons x l ih=>
      intro o;rw [List.foldl_cons];have h1:=IG (R:=R) (t:=t) (most:=most) f o x;have J:=ih (Bg R t most f o x);omega
    have:=d (Ag R t h).kids (out++ [h]);rw [List.length_append,List.length_singleton] at this;omega
def MP(N:Nat)(w:World)(r:Option Nat)(l:List Nat)(e:Ending)(w' :World):Prop:=
 ∃v',e= .returned v' /\w'.ownsRow N 23 1 v' l.length (AG l)/\Rw w w' r v'.ownBlock
section
variable {s:Nat} {R:Zr} 
def Ybk{P}(h:P:=by
 generalize (Ag R t x).keys.length=n1 at*;generalize (Ag R t x).Ab.length=n2 at*;generalize (Ag R t x).kids.length=n3 at*;generalize (Ag R t x).size=n4 at*;clear ag V aA ah
 cases decide (Bm R t x=0) with
 |true=>
  go_wp2;go_ret;rw [af.out];exact ac.out
 |false=>
  go_wp2;go_ret;rw [af.out];exact ac.out):=h
def Z5{P}(h:P:=by
 rcases aB.2.2 with U|U
 . rw [U];simp
 . have:=aB.1;omega):=h
def Z4{P}(h:P:=by
 exact .inr λk d=>by rw [U] at d;simp at d;omega):=h
def Yk{P}(h:P:=by
 have aE:Below w2.heap.size w2 aj:=by rw [an];exact(Below.refl _ _).alloc (Nat.le_refl _) _
 have aH:An aj ai 100 [.slice ay n.keys.length q1, .slice az n.Ab.length au, .slice ar n.kids.length am, .int .u64 n.size]:=by rw [an,aD];exact An.new w2 _ _
 exact And.intro aE aH):=h
def X5{P}(h:P:=by
 have aq:An O ao 96 [.pointer (some ⟨s,0,none⟩), .int .i64 t]:=by rw [ae,aa];exact An.new w _ _
 exact aq):=h
def Yjs{P}(h:P:=by
 have d:=Zh (ax.trans ((aA.trans (aE.mono aA.size)).mono ax.size));have I:=Zh ((aF.below aA).below aE);have J:=Zh aH;have O:=Zh (ah.below aE);exact And.intro d (And.intro I (And.intro J O))):=h
def Ykc{P}(h:P:=by
 have ag:=ax.trans (aA.mono ax.size);have V:=ag.alloc ag.size (Obj.cells #[Value.slice ay (Ag R t x).keys.length q1,Value.slice az (Ag R t x).Ab.length au,Value.slice ar (Ag R t x).kids.length am,Value.int IntKind.u64 ((Ag R t x).size:Nat)] 100);exact And.intro ag V):=h
def Yx{P}(h:P:=by
 have d:=Zh (DQ (h.below J) t al x hx);exact d):=h
def Sq{P}(h:P:=by
 have aF:=Zh aq;have d:=Zh I;have J:=Zh h;exact And.intro aF (And.intro d J)):=h
def Ypl{P}(h:P:=by
 have d:w.heap.size<=ai:=by have:=ax.size;have:=aA.size;omega
 exact d):=h
theorem RW(t:Nat)(al:BN.A1 t)(most:Nat)(hm:most<=262145): ∀(f:Nat),f<=40-> ∀(w:World) (h:Rd N w s R nn) (hN:N<=w.heap.size) (x:Nat) (hx:x<18446744073709551616) (out:List Nat) (v:Value) (aC:w.ownsRow N 23 1 v out.length (AG out)) (a2:out.length<=262145),
 Calls prog 78 #[.agg #[.pointer (some ⟨s,0,none⟩), .int .i64 t],v, .int .u64 x, .int .i64 most, .int .i64 ((40-f:Nat):Int)] w (MP N w v.ownBlock (Bg R t most f out x)):=by
 intro f
 induction f with
 |zero=>
  intro _ w h hN x hx out v aC a2;obtain⟨A,c,rfl⟩:=Bu aC;have J:=Yn;have aU:=Yx;have ax:=Zh J;have aL:=Zh aC;have d40:((40-0:Nat):Int)=40:=rfl;rw [d40];clear d40 h J aC;go_enter func78,ntmps78;go_wp2_with fail;refine aU.mono ?_;rintro e w2 ⟨v1,v2,v3,rfl,ah,aA⟩;obtain⟨ay,q1,rfl⟩:=Ae ah.r1;obtain⟨az,au,rfl⟩:=Ae ah.r2;obtain⟨ar,am,rfl⟩:=Ae ah.r3;obtain⟨ag,V⟩:=Ykc;have ac:Hid (MP N w (Value.slice A out.length c).ownBlock out (.returned (.slice A out.length c)) (w2.alloc (Obj.cells #[Value.slice ay (Ag R t x).keys.length q1,Value.slice az (Ag R t x).Ab.length au,Value.slice ar (Ag R t x).kids.length am,Value.int IntKind.u64 ((Ag R t x).size:Nat)] 100))):=Zh ⟨_,rfl,B8 aL V,Rw.below V _⟩;have af:Hid (Bg R t most 0 out x=out):=Zh rfl;exact Ybk
 |succ f ih=>
  intro bU w h hN x hx out v aC a2;obtain⟨A,c,rfl⟩:=Bu aC;obtain⟨i0,hi,br,bs,bu⟩:=info_parts Tryz.CV;obtain⟨O,ae⟩:=Zx (w.alloc (Obj.cells #[.pointer (some ⟨s,0,none⟩), .int .i64 t] 96));have J:=G5;obtain⟨ao,aa⟩:=Zx w.heap.size;have aq:=X5;have I:=DQ (h.below J) t al x hx;obtain⟨d,hd⟩:=Zx (40-(f+1));have bV:d<40:=by omega
  rw [<-hd];obtain⟨ax,aP⟩:=LJ;obtain⟨aF,aU,a3⟩:=Sq;have aL:=Zh aC;have bv:=Zh hd;have bw:=Zh ih;have g5:w.heap.size<=ao:=by omega
  clear ae aa aq I h aC J hd ih;have a4:Hid (Bg R t most (f+1) out x=if Bm R t x≠0\/most<=out.length then out else (Ag R t x).kids.foldl (Bg R t most f) (out++ [x])):=Zh (by conv=>lhs;unfold Bg)
  go_enter func78,ntmps78;have d40:((d:Int)==40)=false:=by simp;omega
  obtain⟨a5,a6⟩:=A2 aF.out;rw [aP.1,aP.2] at a5 a6;go_wp2_with fail;rw [<-aP.1,<-aP.2];refine aU.mono ?_;rintro e w2 ⟨v1,v2,v3,rfl,ah,aA⟩;obtain⟨ay,q1,rfl⟩:=Ae ah.r1;obtain⟨az,au,rfl⟩:=Ae ah.r2;obtain⟨ar,am,rfl⟩:=Ae ah.r3;obtain⟨n,aw⟩:=Zx (Ag R t x);rw [<-aw] at ah;rw [<-aw];obtain⟨aj,an⟩:=Zx (w2.alloc (Obj.cells #[.slice ay n.keys.length q1, .slice az n.Ab.length au, .slice ar n.kids.length am, .int .u64 n.size] 100));obtain⟨ai,aD⟩:=Zx w2.heap.size;obtain⟨aE,aH⟩:=Yk;obtain⟨aJ,a7,bz,a8⟩:=Yjs;obtain⟨aQ,a9⟩:=OC;have ba:=Zh (B8 aL aJ);have bW:=Ypl;have bb:Hid (Bm R t x≠0\/most<=out.length->MP N w (Value.slice A out.length c).ownBlock (Bg R t most (f+1) out x) (.returned (.slice A out.length c)) aj):=Zh (λh=>by
   rw [a4.out,if_pos h];exact⟨_,rfl,ba,Rw.below aJ _⟩)
  clear aw aA aE ah an aD aH;by_cases he:Bm R t x=0
  . rw [decide_eq_true he]
    have hw:=BR (a3.below aJ) al he;rw [<-a9.out] at hw;obtain⟨aB,bA,bB,wc,bX⟩:=hw;have bY:n.kids.length<=33:=by
     have:=al.2;exact Z5
    have bC:=Zh wc;have bD:=Zh he;clear aB bA bB wc he;by_cases bc:most<=out.length
    . have dl:decide ((out.length:Int)>=(most:Int))=true:=decide_eq_true (by omega)
      go_wp2;rw [<-aQ.1];go_ret;exact bb.out (.inr bc)
    . have dl:decide ((out.length:Int)>=(most:Int))=false:=decide_eq_false (by omega)
      have bE:Hid (Bg R t most (f+1) out x=n.kids.foldl (Bg R t most f) (out++ [x])):=Zh (by rw [a4.out,if_neg (by rintro(U|U);exact U bD.out;exact bc U),a9.out]);have bd:N<=aj.heap.size:=Nat.le_trans hN aJ.size;go_upto_region 4 with (fail);rw [<-aQ.1,<-aQ.2];go_upto_region 5 with (at_builtin;refine wpList_append_own_at _ rfl _ _ 46 rfl N 23 i0 (.int .u64 0) 1 8 Tryz.BI hi br bs bu rfl (by decide) _ _ _ rfl (ba.alloc _) ⟨aj.heap.size,0,none⟩ 1 1 [.int .u64 (x:Int)] rfl rfl (cell_one_new _ _ _) (by simp [Value.oneCell']) (by unfold maxLen;omega) (by omega) (by simp;omega) ?_;intro v' w4 aM aK _ be);have aM :w4.ownsRow N 23 1 v' (out++ [x]).length (AG (out++ [x])):=(by rw [HA,List.length_append];exact aM);obtain⟨aG,aR⟩:=Zx (out++ [x]);rw [<-aR] at aM;have bf:Rw aj w4 (Value.slice A out.length c).ownBlock v'.ownBlock:=by
       refine⟨⟨aK.os,aK.tape,aK.output,Nat.le_trans (by simp) aK.size,λk ab aw=>(aK.block k (by simp;omega) aw).trans (Below.heap_alloc aj _ k ab)⟩, ?_⟩;rcases be with U|U
       . exact .inl U
       . exact Z4
      have bF:=Zh aM;have aV:=Zh bf;have bZ:aG.length<=262145:=(by rw [aR];simp;omega);have bG:=Zh aR;clear aM bf aK be aR;obtain⟨aN,aS⟩:=Zx ((Value.slice A out.length c).ownBlock);have aO:Hid (∀k,aN=some k->k<w.heap.size/\N<=k):=Zh (by rw [aS];exact λk ab=>⟨Bs aL k ab,JC aL k ab⟩);rw [<-aS] at aV;have bg:=Zh aS;have bH:Hid (∀k,ar=some k->w.heap.size<=k.block):=Zh (λk ab=>Nat.le_trans ax.size (a8.ge k.block (by rw [ab];rfl)));clear aS;rw [<-bg.out];have bI:Hid (∀v2 w2 l,l=n.kids.length->w2.ownsRow N 23 1 v2 ((n.kids.take l).foldl (Bg R t most f) aG).length (AG ((n.kids.take l).foldl (Bg R t most f) aG))->Rw aj w2 aN v2.ownBlock->MP N w aN (Bg R t most (f+1) out x) (.returned v2) w2):=Zh (λv2 w2 l bJ h1 bK=>by
       subst bJ;rw [List.take_length] at h1;rw [bE.out,<-bG.out];exact⟨v2,rfl,h1,(Rw.below aJ aN).trans bK⟩)
      have b3:w4.cell? ⟨ai,2,none⟩=some (.slice ar n.kids.length am):=aV.cell (bz.at' (i:=2) rfl) (λU=>by have:=(aO ai U.symm).1;omega);go_wp2
      go_loopw [1,41] (λvv aW wr=> ∃k:Nat,k<=n.kids.length/\aW= .int .i64 k/\Hid (wr.ownsRow N 23 1 vv ((n.kids.take k).foldl (Bg R t most f) aG).length (AG ((n.kids.take k).foldl (Bg R t most f) aG))/\Rw aj wr aN vv.ownBlock)) (λ_ aW _=>n.kids.length-(intOf aW).toNat)
      case atStart=>exact⟨0,Nat.zero_le _,rfl,Zh ⟨bF,aV⟩⟩
      case round=>
       obtain⟨k,ab,rfl,Z⟩:=hrel;by_cases aX:k<n.kids.length
       . obtain⟨b,o,bh,b4,bi⟩:=AJ.num (F:=λ_=>False) (by obtain⟨b5,b8,bL,h1⟩:=A5 (F:=λ_=>False) a8.r3 (λ_ h=>h.elim);cases bL;exact h1) aX
         have b9:w.heap.size<=b:=bH.out _ bh;have bM:=Z.2.cell (bi aj (Below.refl _ _)) (λU=>by have:=(aO b U.symm).1;omega);have bj:=bC.out k aX;obtain⟨y,aY⟩: ∃y,n.kids[k]=y:=⟨_,rfl⟩;rw [aY] at bM bj;have bk:Hid ((n.kids.take (k+1)).foldl (Bg R t most f) aG=Bg R t most f ((n.kids.take k).foldl (Bg R t most f) aG) y):=Zh (by rw [List.take_succ_eq_append_getElem aX,List.foldl_append,aY];rfl);have a5:=Z.2.cell (a7.at' (i:=0) rfl) (λU=>by have:=(aO ao U.symm).1;omega);have a6:=Z.2.cell (a7.at' (i:=1) rfl) (λU=>by have:=(aO ao U.symm).1;omega);have bm:=(a3.below aJ).rw Z.2 bd (λk ab=>(aO k ab).2);have bN:N<=wr.heap.size:=Nat.le_trans bd Z.2.1.size;have hlen:=IG (R:=R) (t:=t) (most:=most);obtain⟨bo,aT⟩:=Zx ((n.kids.take k).foldl (Bg R t most f) aG);have bO:bo.length<=262145:=by
          have bP: ∀(l o:List Nat),o.length<=262145->(l.foldl (Bg R t most f) o).length<=262145:=by
           intro l
           induction l with
           |nil=>exact λo h=>h
           |cons a l ih=>intro o h;rw [List.foldl_cons];exact ih _ (by have:=(hlen f o a).2;omega)
          rw [aT];exact bP _ _ (by omega)
         rw [<-aT] at bk;have aZ:=Z.1;rw [<-aT] at aZ;have a0:=bw.out (by omega) wr bm bN y bj bo _ aZ bO;rw [show 40-f=d+1 by rw [bv.out];omega] at a0;have bQ:=Zh Z.2;have bR:=Zh a0;subst bh;clear Z aZ a0 bi hlen aY aT bm;go_wp2_with fail;refine bR.mono ?_;rintro e cb ⟨v5,rfl,bp,bq⟩;have bS:=Zh (And.intro bp (bQ.trans bq));clear bp bq;go_wp2;go_roundw
         case rel=>exact⟨k+1,by omega,by go_num,by rw [bk.out];exact bS⟩
         case measure=>simp [intOf];omega
       . obtain rfl:k=n.kids.length:=by omega
         have a1:=bI.out _ _ _ rfl Z.1 Z.2;rw [bg.out] at a1;have bT:=Zh a1;clear a1;go_wp2;go_ret;exact bT.out
  . rw [decide_eq_false he]
    go_wp2;rw [<-aQ.1];go_ret;exact bb.out (.inl he)
theorem Li{t:Nat}(h:nn<=262144):BQ nn t<=262145:=by
 unfold BQ;have:=Nat.div_le_self nn (6*t);omega
def Ylt{P}(h:P:=by
 have U:An O b7 96 [.pointer (some ⟨s,0,none⟩), .int .i64 t]:=by rw [ae,aa];exact An.new w _ _
 have I:=Zh (λW (J:Below w.heap.size w W)=>UM (h.below J) t d);exact And.intro U I):=h
def Ypj{P}(h:P:=by
 have h:=h.here;have hle:=h.le;have I:=Zh (GU h d);exact And.intro h (And.intro hle I)):=h
theorem M4(h:Rd N w s R nn)(t:Nat)(d:BN.A1 t)(x:Nat)(hx:x<18446744073709551616):
 Calls prog 39 #[.pointer (some ⟨s,0,none⟩), .int .i64 t, .int .u64 x] w λe w' => ∃v',e= .returned v' /\w'.ownsRow w.heap.size 23 1 v' (Bg R t (BQ nn t) 40 [] x).length (AG (Bg R t (BQ nn t) 40 [] x))/\Below w.heap.size w w' :=by
 obtain⟨h,hle,ao⟩:=Ypj;obtain⟨O,ae⟩:=Zx (w.alloc (Obj.cells #[.pointer (some ⟨s,0,none⟩), .int .i64 t] 96));have J:=G5;obtain⟨b7,aa⟩:=Zx w.heap.size;obtain⟨U,aq⟩:=Ylt;have ag:=Zh (λW (ah:Below w.heap.size w W)=>RW t d (BQ nn t) (Li hle) 40 (Nat.le_refl _) W (h.below ah) ah.size x hx [] (.slice none 0 0) (World.ownsRow_nil _ _ _ _) (by simp));rw [show((40-40:Nat):Int)=0 from rfl] at ag;generalize Bg R t (BQ nn t) 40 [] x=l at*;generalize BQ nn t=m at*;obtain⟨ai,aj⟩:=LJ;obtain⟨c0,c1⟩:=Ymi;clear ae aa J U h hle;go_enter func39,ntmps39;go_wp2_with fail;refine ao.mono ?_;rintro e w1 ⟨rfl,rfl⟩;go_wp2;rw [<-aj.1,<-aj.2];refine Aw (λw' => ∃X:Au (λ_=>False) O,w' =X.W) [.r 0, .r 1, .r 2, .a 3, .a 4, .r 5] (Ay _ _) ?_
 iterate 3 (refine AE ?_;go_simp)
 clear c0 c1;have ac:=Zh (ai.trans ((Ac O).mono ai.size));refine AK _ rfl (λar al=> ?_);go_wp2_with fail;refine(aq _ ac).mono ?_;rintro e w2 ⟨rfl,I⟩;have V:=DR;have Z:=Zh ((Ac O).trans I);clear I;go_wp2;refine al _ _ (Af Z) ?_;clear al ar;refine AK _ rfl (λau am=> ?_);go_wp2_with fail;refine(ag _ V).mono ?_;rintro e w3 ⟨v',rfl,an,ab⟩;have aw:=Zh (Z.trans ((ab.low (Nat.le_refl _) (λk af=>by cases af)).mono Z.size));have ax:=Zh (V.trans ((ab.low (Nat.le_refl _) (λk af=>by cases af)).mono V.size));have ay:=Zh an;clear an ab;go_wp2;refine am _ _ (Af aw) ?_;clear am au;refine AE ?_;go_simp;refine AO ?_;go_wp2;go_ret;exact⟨_,rfl,ay,ax⟩
end
section
variable {s:Nat} {R:Zr} 
theorem I7{R:Zr}{t:Nat}: ∀(f x:Nat),Bp R t f x<=f
 |0,_=>Nat.le_refl _
 |f+1,x=>by
  unfold Bp
  split
  . omega
  . split
    . omega
    . have:=I7 (R:=R) (t:=t) f ((Ag R t x).kids.getD 0 0);omega
theorem QF(h:Rd N w s R nn)(t:Nat)(aG:BN.A1 t)(x:Nat)(hx:x<18446744073709551616):
 Calls prog 61 #[.pointer (some ⟨s,0,none⟩), .int .i64 t, .int .u64 x] w λe w' =>e= .returned (.int .i64 (Bp R t 40 x:Nat))/\Below w.heap.size w w' :=by
 have aM:=Zh (GU h aG);have aI:=Zh h;have ab:Hid (∀(m:Nat) W,Bp R t 40 x=m->Below w.heap.size w W->(Ending.returned (.int .i64 (m:Nat))=Ending.returned (.int .i64 (Bp R t 40 x:Nat))/\Below w.heap.size w W)):=Zh (λm W h1 aP=>⟨by rw [h1],aP⟩);obtain⟨D,ao⟩:=Zx (Bp R t 40 x);have Z:=Zh ao;clear h ao;go_enter func61,ntmps61;go_wp2_with fail;refine aM.mono ?_;rintro e w1 ⟨rfl,rfl⟩;go_wp2
 go_loopw [2,7] (λaQ ac wr=> ∃(i ae :Nat),i<=40/\ae <18446744073709551616/\aQ= .int .u64 (ae :Nat)/\ac= .int .i64 i/\Hid (D=Bp R t (40-i) ae +i)/\Hid (Below w.heap.size w wr)) (λ_ ac _=>40-(intOf ac).toNat)
 case atStart=>exact⟨0,x,by omega,hx,rfl,rfl,Z,Zh (Below.refl _ _)⟩
 case round=>
  obtain⟨i,y,hi,aZ,rfl,rfl,hd,aF⟩:=hrel;have aq:=Ymn;go_wp2_with fail;refine aq.mono ?_;rintro e w2 ⟨v1,v2,v3,rfl,d,af⟩;obtain⟨ay,q1,rfl⟩:=Ae d.r1;obtain⟨az,au,rfl⟩:=Ae d.r2;obtain⟨ar,am,rfl⟩:=Ae d.r3;obtain⟨n,aw⟩:=Zx (Ag R t y);rw [<-aw] at d;rw [<-aw];obtain⟨aj,an⟩:=Zx (w2.alloc (Obj.cells #[.slice ay n.keys.length q1, .slice az n.Ab.length au, .slice ar n.kids.length am, .int .u64 n.size] 100));obtain⟨ai,aD⟩:=Zx w2.heap.size;obtain⟨ba,aO⟩:=Yk;have O:=Zh (aF.trans ((af.trans (ba.mono af.size)).mono aF.size));obtain⟨ax,aR⟩:=YB;obtain⟨I,aC⟩:=OC;clear aw af ba d an aD aO aF aq;by_cases he:Bm R t y=0
  . rw [decide_eq_true he]
    have hw:=BR (aI.below O) aG he;rw [<-aC.out] at hw;obtain⟨aB,aS,aT,wc,aY⟩:=hw;have a0:n.kids.length<=33:=by
     have:=aG.2;exact Z5
    have aU:=Zh wc;have aV:=Zh he;clear aB aS aT wc he;by_cases ag:i=40
    . have d40:((i:Int)==40)=true:=by rw [ag];rfl
      have V:=Zh (ab i aj (by rw [<-Z.out,hd.out,ag];simp [Bp]) O);clear ag;go_wp2;rw [<-I.1];go_ret;exact V.out
    . have d40:((i:Int)==40)=false:=by simp;omega
      obtain⟨m,hm⟩: ∃m,40-i=m+1:=⟨39-i,by omega⟩;have J:D=(if n.kids= [] then 1 else Bp R t m (n.kids.getD 0 0)+1)+i:=by
       rw [hd.out,hm]
       conv=>lhs;unfold Bp
       rw [if_neg (λh=>h aV.out),<-aC.out]
      by_cases ah:n.kids= []
      . rw [if_pos ah] at J
        have d0:((n.kids.length:Int)==0)=true:=(by rw [ah];rfl);have c2:=ax.at' (i:=2) rfl;rw [I.1,I.2] at c2;have V:=Zh (ab (i+1) aj (by rw [<-Z.out,J];omega) O);clear J ah hm;go_wp2;rw [<-I.1];go_ret;exact V.out
      . rw [if_neg ah] at J
        have al:=V9;have d0:((n.kids.length:Int)==0)=false:=(by simp;omega);have c2:=ax.at' (i:=2) rfl;obtain⟨b,o,aW,a1,aJ⟩:=AJ.num (F:=λ_=>False) (by obtain⟨a2,a3,aX,h1⟩:=A5 (F:=λ_=>False) aR.r3 (λ_ h=>h.elim);cases aX;exact h1) al;have aa:=aJ aj (Below.refl _ _);have aK:=aU.out 0 al;rw [show n.kids.getD 0 0=n.kids[0] by simp [al]] at J;obtain⟨z,aL⟩: ∃z,n.kids[0]=z:=⟨_,rfl⟩;rw [aL] at aa aK J;have hrel:Hid (D=Bp R t (40-(i+1)) z+(i+1)):=Zh (by rw [J,show 40-(i+1)=m by omega];omega);have aa:aj.cell? ⟨b,o,none⟩=some (.int .u64 (z:Nat)):=aa;subst aW;rw [I.1,I.2] at c2;rw [I.1] at aa;clear J hm aL aJ ah;go_wp2;rw [<-I.1];go_roundw
        case rel=>exact⟨i+1,z,by omega,aK,rfl,by go_num,hrel,O⟩
        case measure=>simp [intOf];omega
  . rw [decide_eq_false he]
    have V:=Zh (ab i aj (by
     rw [<-Z.out,hd.out]
     cases a4:40-i with
     |zero=>simp [Bp]
     |succ m=>unfold Bp;rw [if_pos he];omega) O)
    clear he;go_wp2;rw [<-I.1];go_ret;exact V.out
end
section
variable (R:Zr) (t:Nat)
end
namespace Bt
section
variable {R:Zr} {t:Nat}
end
end Bt
section
variable {s N:Nat} {R:Zr} {nn:Nat}
end
theorem J0: ∀{p:List Bool},p.all id=true->CM p=p.length
 | [],_=>rfl
 |b::p,h=>by
  simp only [List.all_cons,id,Bool.and_eq_true] at h;unfold CM;rw [if_pos h.2,if_pos h.1];rfl
theorem RQ(b:Bool)(p:List Bool):CM p<=CM (b::p):=by
 conv=>rhs;unfold CM
 split
 . next h=>rw [J0 h];omega
 . exact Nat.le_refl _
namespace Bt
structure UY(R R' :Zr)(t a lo:Nat)(s:Sb)(it:It)(used:List Nat)(up:Option (Nat × Nat × Nat))(full:Bool):Prop where
 frame: ∀z,z∉s.ns->z∉used->R' z=R z
 L4: ∀z,Rec R t z->Rec R' t z
 stays:up=none->full=false/\ ∃ns',At R' t a lo ⟨s.h,BF s.Aa it,ns'⟩/\ ∀x,ns'.count x=s.ns.count x+used.count x
 split: ∀mk mv r,up=some (mk,mv,r)->full=true/\ ∃(L Q:Sb) (m:It),mk=m.kh/\mv=m.vh/\L.h=s.h/\Q.h=r/\At R' t a (t-1) L/\At R' t a (t-1) Q/\BF s.Aa it=L.Aa++m::Q.Aa/\ ∀x,L.ns.count x+Q.ns.count x=s.ns.count x+used.count x
section
variable {R R1:Zr} {t a lo:Nat}
theorem SS(ab:BN.A1 t){s:Sb}{it:It}{st:List Nat}(h:At R t 0 lo s)(hp:(BF s.Aa it).length=s.Aa.length+1)(hm:((Aq s.Aa).Dy (AH (AI s.Aa) it.k) it.kh it.vh).more=Aq (BF s.Aa it))(ar:1<=lo\/True)
 (ac: ∀x∈st,x≠0/\x∉s.ns/\Rec R t x) (ae:s.Aa.length=2*t-1->1<=st.length):
 ∃R' used st' up,B7 R t s.h st (Aq (BF s.Aa it))=(R',st',up)/\st=used++st' /\used.length=(if 2*t-1<=s.Aa.length then 1 else 0)/\UY R R' t 0 lo s it used up (decide (2*t-1<=s.Aa.length)):=by
 obtain⟨t1,t2⟩:=ab;obtain⟨h1,au,O⟩:=h;have aw:s.Aa.length<=2*t-1:=by have:=O.2.1;simpa [Aq] using this
 have U:Rec R t s.h:=⟨_,O.1,BN.B6 _ _⟩;have hlen:(Aq (BF s.Aa it)).keys.length=s.Aa.length+1:=by simp [Aq,hp]
 by_cases I:2*t-1<=s.Aa.length
 . have he:s.Aa.length=2*t-1:=by omega
   obtain⟨x,st',rfl⟩: ∃x st',st=x::st' :=by
    cases st with
    |nil=>exact absurd (ae he) (by simp)
    |cons x st' =>exact⟨x,st',rfl⟩
   obtain⟨ax,af,ag⟩:=ac x (by simp);have ah:x≠s.h:=(λe=>af (by rw [h1,e];simp));obtain⟨A,m,B,V,ai,ay⟩: ∃A m B,BF s.Aa it=A++m::B/\A.length=t/\B.length=t-1:=by
    have aj:t<(BF s.Aa it).length:=(by omega);refine⟨(BF s.Aa it).take t,(BF s.Aa it)[t],(BF s.Aa it).drop (t+1), ?_,by rw [List.length_take];omega,by rw [List.length_drop];omega⟩;have:=List.take_append_drop t (BF s.Aa it);rw [List.drop_eq_getElem_cons aj] at this;exact this.symm
   obtain⟨g1,g2,g3,g4⟩:=PS (R:=R) (t:=t) (m:=m) (B:=B) ai (by omega);rw [V] at hlen ⊢;have J:=JD (st:=st') U ag (n:=Aq (A++m::B)) (by omega) (left:=Aq A) (right:=Aq B) (by rw [g1];exact g2) g1 (Co (by omega)) (Co (by omega));rw [g3,g4] at J;have al:(Aq A).Fits t:=Co (by omega);have am:(Aq B).Fits t:=Co (by omega);have an:t-1<=A.length:=(by omega);have ao:t-1<=B.length:=(by omega);refine⟨_,[x],st',_,J,rfl,by rw [if_pos I];rfl,⟨λz d Z=> ?_,λz d=>EE (EE d),(λe=>by cases e),λmk mv r e=> ?_⟩⟩
   . rw [As (λe=>Z (by rw [e];simp)),As (λe=>d (by rw [h1,e];simp))]
   . simp only [Option.some.injEq,Prod.mk.injEq] at e
     obtain⟨rfl,rfl,rfl⟩:=e;refine⟨decide_eq_true I,⟨s.h,A,[s.h]⟩,⟨x,B,[x]⟩,m,rfl,rfl,rfl,rfl,⟨rfl,an,(As (Ne.symm ah)).trans (AR _ _ _),al⟩,⟨rfl,ao,AR _ _ _,am⟩,V,λy=>by rw [h1]⟩
 . have aa:(Aq (BF s.Aa it)).Fits t:=Co (by omega)
   have aq:lo<=(BF s.Aa it).length:=(by omega);have J:=JJ (st:=st) U (n:=Aq (BF s.Aa it)) aa (by omega);refine⟨_,[],st,_,J,rfl,by rw [if_neg I];rfl,⟨λz d Z=> ?_,λz d=>EE d,λ_=>⟨decide_eq_false I,[s.h],⟨rfl,aq,AR _ _ _,aa⟩,λy=>by rw [h1];simp⟩,λmk mv r e=>by cases e⟩⟩;rw [As (λe=>d (by rw [h1,e];simp))]
end
end Bt
namespace Bt
variable {ak av f h k r x y:Nat}{n:BN}{st st1:List Nat}
section
variable {R R1:Zr} {t a lo:Nat}
theorem CN{s:Sb}(h:At R t a lo s)(hx:x∉s.ns):At (AT R x (some (n.wd t))) t a lo s:=h.congr λz d=>As λe=>hx (by rw [<-e];exact d)
theorem At.sizeOf(d:BN.A1 t){s:Sb}(h:At R t a lo s):(Ag R t s.h).size=s.Aa.length:=(h.get d).2
theorem Kw(O:BN.A1 t){c:Sb}{l:List Lk}(U:Rec R1 t h)(h1:l.length<=2*t-1)(h0:0∉(c.h::l.map (·.2.h)))(V:At R1 t a (t-1) c)(Z: ∀p∈l,At R1 t a (t-1) p.2)(I:h∉Ax c l)(aa:lo<=l.length):
 B7 R1 t h st (Aj c l)=(AT R1 h (some ((Aj c l).wd t)),st,none)/\At (AT R1 h (some ((Aj c l).wd t))) t (a+1) lo ⟨h,Ah c l,h::Ax c l⟩:=by
 have J:=CB h1 h0;have ab:=(DN c l).1;have t1:=O.1;refine⟨JJ U J (by omega),c,l,rfl,rfl,aa,⟨AR _ _ _,J⟩,CN V λd=>I (List.mem_append.2 (.inl d)),λp hp=>CN (Z p hp) λd=>I (C2 hp d)⟩
theorem QO(U:BN.A1 t){c:Sb}{l:List Lk}(Z:Rec R1 t h)(aa:Rec R1 t x)(h1:l.length=2*t)(h0:0∉(c.h::l.map (·.2.h)))(ab:At R1 t a (t-1) c)(O: ∀p∈l,At R1 t a (t-1) p.2)(J:h∉Ax c l)(hx:x∉Ax c l)(ac:x≠h)(ae:(Ah c l).length<18446744073709551616):
 ∃(A:List Lk) (m:It) (d:Sb) (B:List Lk),l=A++(m,d)::B/\
  B7 R1 t h (x::st) (Aj c l)=(AT (AT R1 h (some ((Aj c A).wd t))) x (some ((Aj d B).wd t)),st,some (m.kh,m.vh,x))/\
  At (AT (AT R1 h (some ((Aj c A).wd t))) x (some ((Aj d B).wd t))) t (a+1) (t-1) ⟨h,Ah c A,h::Ax c A⟩/\At (AT (AT R1 h (some ((Aj c A).wd t))) x (some ((Aj d B).wd t))) t (a+1) (t-1) ⟨x,Ah d B,x::Ax d B⟩:=by
 have t1:=U.1;obtain⟨A,m,d,B,rfl,af,ag,-,-⟩:=Zp (l:=l) (t:=t) (by omega);have ah:B.length=t-1:=by rw [ag,h1];omega
 have hd:At R1 t a (t-1) d:=O (m,d) (by simp);obtain⟨g1,g2,g3,g4⟩:=OX (R:=R1) (t:=t) (c:=c) (m:=m) (d:=d) (B:=B) af (hd.sizeOf U) (λp hp=>(O p (by simp [hp])).sizeOf U) ae;rw [El] at J hx;rw [List.mem_append,not_or] at J hx;have f1:(Aj c A).Fits t:=CB (by omega) λh=>h0 (by
  rcases List.mem_cons.1 h with h|h
  . rw [h];simp
  . simp only [List.map_append,List.mem_cons,List.mem_append];exact .inr (.inl h))
 have f2:(Aj d B).Fits t:=CB (by omega) λh=>h0 (by
  simp only [List.map_append,List.map_cons,List.mem_cons,List.mem_append];rcases List.mem_cons.1 h with h|h
  . exact .inr (.inr (.inl h))
  . exact .inr (.inr (.inr h)))
 have V:=JD (st:=st) Z aa (n:=Aj c (A++(m,d)::B)) (by rw [(DN c _).1];omega) (left:=Aj c A) (right:=Aj d B) (by rw [g1];exact g2) g1 f1 f2;rw [g3,g4] at V;refine⟨A,m,d,B,rfl,V,⟨c,A,rfl,rfl,by omega,⟨(As (Ne.symm ac)).trans (AR _ _ _),f1⟩, ?_,λp hp=> ?_⟩,⟨d,B,rfl,rfl,by omega,⟨AR _ _ _,f2⟩, ?_,λp hp=> ?_⟩⟩
 . exact CN (CN ab λI=>J.1 (List.mem_append.2 (.inl I))) λI=>hx.1 (List.mem_append.2 (.inl I))
 . exact CN (CN (O p (by simp [hp])) λI=>J.1 (C2 hp I)) λI=>hx.1 (C2 hp I)
 . exact CN (CN hd λI=>J.2 (List.mem_append.2 (.inl I))) λI=>hx.2 (List.mem_append.2 (.inl I))
 . exact CN (CN (O p (by simp [hp])) λI=>J.2 (C2 hp I)) λI=>hx.2 (C2 hp I)
theorem Dc{key:ByteArray}(d:Ag R t x=n)(I:Bm R t x=0)(J:DJ R n.keys key=k):
 Cb R t key (f+1) x=decide (2*t-1<=n.keys.length)::if n.kids= [] then [] else Cb R t key f (n.kids.getD k 0):=by
 subst d J
 conv=>lhs;unfold Cb
 rw [if_neg (by rw [I];simp)]
theorem TS{key:ByteArray}(d:Ag R t x=n)(I:Bm R t x=0)(J:DJ R n.keys key=k)(h0:n.kids= []):D4 t key ak av (f+1) R st x=B7 R t x st (n.Dy k ak av).more:=by
 subst d J
 conv=>lhs;unfold D4
 rw [if_neg (by rw [I];simp),if_pos h0]
def Yfv{P}(h:P:=by
 subst O J d
 conv=>lhs;unfold D4
 rw [if_neg (by rw [U];simp),if_neg h0,I]):=h
theorem Tn{key:ByteArray}(O:Ag R t x=n)(U:Bm R t x=0)(J:DJ R n.keys key=k)(h0:n.kids≠ [])(d:n.kids.getD k 0=y)(I:D4 t key ak av f R st y=(R1,st1,none)):D4 t key ak av (f+1) R st x=B7 R1 t x st1 n.more:=by
 exact Yfv
theorem X1{key:ByteArray}{p q:Nat}(O:Ag R t x=n)(U:Bm R t x=0)(J:DJ R n.keys key=k)(h0:n.kids≠ [])(d:n.kids.getD k 0=y)(I:D4 t key ak av f R st y=(R1,st1,some (p,q,r))):D4 t key ak av (f+1) R st x=B7 R1 t x st1 ((n.Dy k p q).FX (k+1) r).more:=by
 exact Yfv
theorem Rb{l:List Nat}(h:x∈l.take k++r::l.drop k):x=r\/x∈l:=by
 rcases List.mem_append.1 h with h|h
 . exact .inr (List.mem_of_mem_take h)
 . rcases List.mem_cons.1 h with h|h
   . exact .inl h
   . exact .inr (List.mem_of_mem_drop h)
theorem Ig: ∀{c:Sb} {l:List Lk} {k:Nat},k<=l.length->(Ax c l).Nodup->(Ap c l k).ns.Nodup
 |c,l,0,_,h=>by
  have d:Ap c l 0=c:=by cases l<;>rfl
  rw [d];exact(List.nodup_append.1 h).1
 |c,[],k+1,h,_=>absurd h (by simp)
 |c,p::l,k+1,h,hn=>by
  rw [BC] at hn;exact Ig (c:=p.2) (l:=l) (k:=k) (by simpa using h) (List.nodup_append.1 hn).2.1
theorem At.Fm: ∀{a lo:Nat} {s:Sb},At R t a lo s-> ∀x∈s.ns,Rec R t x
 |0,lo,s,h,x,hx=>by
  rw [h.1,List.mem_singleton] at hx;rw [hx];exact⟨_,h.2.2.1,BN.B6 _ _⟩
 |a+1,lo,s,h,x,hx=>by
  obtain⟨c,l,h1,d,U,I,J,O⟩:=h;rw [d] at hx;rcases List.mem_cons.1 hx with rfl|hx
  . exact⟨_,I.1,BN.B6 _ _⟩
  . rcases List.mem_append.1 hx with hx|hx
    . exact At.Fm J x hx
    . obtain⟨p,hp,hx⟩:=List.mem_flatMap.1 hx
      exact At.Fm (O p hp) x hx
theorem At.FD{s:Sb}(h:At R t a lo s)(h0:R 0=none):0∉s.ns:=λhm=>by
 obtain⟨ws,e,_⟩:=h.Fm 0 hm;rw [h0] at e
 cases e
def Ycx{P}(h:P:=by
 show(c.h::l.map (·.2.h)).getD k 0=_
 rw [List.getD_eq_getElem?_getD,EN c l k I];rfl):=h
def Yfs{P}(h:P:=by
 rw [<-List.count_eq_zero,O,List.count_eq_zero.2 af,List.count_eq_zero.2 ae]):=h
def Yjm{P}(h:P:=by
 have d:=HS J;have I: ∀i∈l.map (·.1),i.At R:=λi hi=>U i (keys_in hi)
 exact And.intro d I):=h
def Ypd{P}(h:P:=by
 have d:Q.h≠0:=λe=>Z.FD ac (by rw [<-e];exact DA Z)
 exact d):=h
def Yqk{P}(h:P:=by
 have I:=V.le;have d:=HB k aa ab;have J:(Aj c l).kids.getD k 0=(Ap c l k).h:=by
  exact Ycx
 exact And.intro I (And.intro d J)):=h
theorem TM(ar:BN.A1 t)(it:It): ∀(a lo f:Nat) (s:Sb) (st:List Nat) (R:Zr),At R t a lo s->R 0=none->s.ns.Nodup->(∀i∈s.Aa,i.At R)->AY (AI s.Aa)->Bb s.Aa it.k=none->a<f->s.Aa.length+1<18446744073709551616->
 (∀x∈st,x≠0/\x∉s.ns/\Rec R t x)->st.Nodup->CM (Cb R t it.k f s.h)<=st.length->
 ∃R' used st' up,D4 t it.k it.kh it.vh f R st s.h=(R',st',up)/\st=used++st' /\used.length=CM (Cb R t it.k f s.h)/\UY R R' t a lo s it used up ((Cb R t it.k f s.h).all id):=by
 intro a
 induction a with
 |zero=>
  intro lo f s st R h aC aL U J aA a7 aD am aE ah;obtain⟨f,rfl⟩: ∃g,f=g+1:=⟨f-1,by omega⟩;obtain⟨au,aw⟩:=h.2.2.get ar;have ao:=B4 (key:=it.k) U J;have aM:Cb R t it.k (f+1) s.h= [decide (2*t-1<=s.Aa.length)]:=by
   rw [Dc au aw ao,if_pos (show(Aq s.Aa).kids= [] from rfl)];simp [Aq]
  rw [aM] at ah ⊢;rw [TS au aw ao rfl];have hlen:=Gc s.Aa it;have hm:((Aq s.Aa).Dy (AH (AI s.Aa) it.k) it.kh it.vh).more=Aq (BF s.Aa it):=by
   refine N5 ?_ ?_ rfl ?_ ?_
   . show(s.Aa.map (·.kh)).take _++it.kh::(s.Aa.map (·.kh)).drop _=(BF s.Aa it).map (·.kh)
     unfold BF;exact Y5
   . show(s.Aa.map (·.vh)).take _++it.vh::(s.Aa.map (·.vh)).drop _=(BF s.Aa it).map (·.vh)
     unfold BF;exact Y5
   . exact hlen.symm
   . show(BF s.Aa it).length<_
     omega
  rw [hm];have a8:CM [decide (2*t-1<=s.Aa.length)]=if 2*t-1<=s.Aa.length then 1 else 0:=by
   unfold CM;by_cases a9:2*t-1<=s.Aa.length<;>simp [a9]
  have ba: [decide (2*t-1<=s.Aa.length)].all id=decide (2*t-1<=s.Aa.length):=by simp
  rw [a8] at ah ⊢;rw [ba];exact SS ar h hlen hm (.inr trivial) am (λe=>by rw [if_pos (by omega)] at ah;exact ah)
 |succ a ih=>
  intro lo f s st R h aC aL U J aA a7 aD am aE ah;obtain⟨f,rfl⟩: ∃g,f=g+1:=⟨f-1,by omega⟩;have aU:=h.FD aC;obtain⟨c,l,h1,aB,bw,aF,aa,ab⟩:=h;obtain⟨au,aw⟩:=aF.get ar;obtain⟨ai,bz,bA⟩:=s;dsimp only at h1 aB aF U J aA aD aL am ah au aw aU ⊢;subst h1 aB;obtain⟨af,nn⟩:=List.nodup_cons.1 aL;have t1:=ar.1;obtain⟨aV,bb⟩:=Yjm;have V:=N0 (key:=it.k) aV;have ao:=B4 (key:=it.k) bb aV;rw [List.map_map] at ao;generalize AH (AI (l.map (·.1))) it.k=k at V ao;obtain⟨I,bc,aN⟩:=Yqk;have aG:(Aj c l).kids≠ []:=by simp [Aj]
  have aM:Cb R t it.k (f+1) ai=decide (2*t-1<=l.length)::Cb R t it.k f (Ap c l k).h:=by
   rw [Dc au aw ao,if_neg aG,aN,(DN c l).1]
  rw [aM] at ah ⊢;have bd: ∀aW :k<l.length,l[k].1.k≠it.k:=λaW e=>by
   rw [V.here J aW e] at aA;cases aA
  have be:Bb (Ap c l k).Aa it.k=none:=by rw [<-V.gone J bd];exact aA
  have aX:BF (Ah c l) it=pre c l k++(BF (Ap c l k).Aa it++rest (l.drop k)):=by
   conv=>lhs;rw [Bw c l k I]
   exact RM (V.pre J) (V.post J)
  have bB:=Rj (c:=c) I;have aY:=aF.2;have bC:l.length<=2*t-1:=by have:=aY.1;rwa [(DN c l).1] at this
  have aZ:0∉(c.h::l.map (·.2.h)):=by
   rcases aY.2.2 with h|h
   . exact absurd h aG
   . exact h.2
  obtain⟨R1,used,st1,up,g1,g2,g3,g4⟩:=ih (t-1) f (Ap c l k) st R bc aC (Ig I nn) (λi hi=>U i (Hj I hi)) (DH I J) be (by omega) (by omega)
   (λx hx=>⟨(am x hx).1,λhm=>(am x hx).2.1 (List.mem_cons_of_mem _ (D0 I hm)),(am x hx).2.2⟩) aE (Nat.le_trans (RQ _ _) ah)
  generalize Cb R t it.k f (Ap c l k).h=p at g3 g4 ah ⊢;have aO: ∀x∈used,x∈st:=λx hx=>by rw [g2];exact List.mem_append.2 (.inl hx)
  have a0: ∀z,z∈Ax c l->z∉(Ap c l k).ns->R1 z=R z:=λz ag aj=>g4.frame z aj λbf=>(am z (aO z bf)).2.1 (List.mem_cons_of_mem _ ag)
  have aP:Rec R1 t ai:=g4.L4 _ ⟨_,aF.1,BN.B6 _ _⟩;have ae:ai∉used:=λhm=>(am _ (aO _ hm)).2.1 (by simp)
  have ac:R1 0=none:=(g4.frame 0 (λhm=>aU (List.mem_cons_of_mem _ (D0 I hm))) (λhm=>(am 0 (aO 0 hm)).1 rfl)).trans aC;have aQ: ∀z,z∉ai::Ax c l->z∉used->R1 z=R z:=λz ag aj=>g4.frame z (λhm=>ag (List.mem_cons_of_mem _ (D0 I hm))) aj
  have bg:(decide (2*t-1<=l.length)::p).all id=(decide (2*t-1<=l.length)&&p.all id):=by simp
  rw [bg]
  cases up with
  |none=>
   obtain⟨q1,aq,bh,bi⟩:=g4.stays rfl;have aH:=P2 (c:=c) (l:=l) (k:=k) (s:=⟨(Ap c l k).h,BF (Ap c l k).Aa it,aq⟩) I rfl (Gc _ _) aD;have al:=Gj (a:=a) (lo:=t-1) I nn aa ab a0 bh;have O: ∀x,(Ax (AM c l k ⟨(Ap c l k).h,BF (Ap c l k).Aa it,aq⟩).1 (AM c l k ⟨(Ap c l k).h,BF (Ap c l k).Aa it,aq⟩).2).count x=(Ax c l).count x+used.count x:=λx=>by
    have h1:=Gf c l k ⟨(Ap c l k).h,BF (Ap c l k).Aa it,aq⟩ x I;have aB:=bi x;dsimp only at h1 aB;omega
   have hlen:=CR c l k ⟨(Ap c l k).h,BF (Ap c l k).Aa it,aq⟩ I;have ax:=EX c l k ⟨(Ap c l k).h,BF (Ap c l k).Aa it,aq⟩ I rfl;have ay:=Ew c l k ⟨(Ap c l k).h,BF (Ap c l k).Aa it,aq⟩ I;rw [Tn au aw ao aG aN g1,aH.1];generalize AM c l k ⟨(Ap c l k).h,BF (Ap c l k).Aa it,aq⟩=aR at al O hlen ax ay ⊢;obtain⟨an,l'⟩:=aR;dsimp only at al O hlen ax ay ⊢;have aI :ai∉Ax an l' :=by
    exact Yfs
   obtain⟨b1,b2⟩:=Kw (lo:=lo) (st:=st1) ar aP (by omega) (by rw [ax];exact aZ) al.1 al.2 aI (by omega);refine⟨_,used,st1,none,b1,g2, ?_,⟨λz ag aj=> ?_,λz ag=>EE (g4.L4 z ag),λ_=>⟨by rw [q1,Bool.and_false],ai::Ax an l', ?_,λx=> ?_⟩,λmk mv r e=>by cases e⟩⟩
   . rw [g3]
     conv=>rhs;unfold CM
     rw [if_neg (by rw [q1];simp)]
   . rw [As (λe=>ag (by rw [e];simp)),aQ z ag aj]
   . rw [aX,<-ay];exact b2
   . simp only [List.count_cons,O];omega
  |some u=>
   obtain⟨mk,mv,r⟩:=u;obtain⟨q1,L,Q,m,rfl,rfl,a1,rfl,bj,Z,a2,bk⟩:=g4.split _ _ _ rfl;have bm:L.Aa.length+1+Q.Aa.length=(Ap c l k).Aa.length+1:=by
    have aJ:=congrArg List.length a2;rw [Gc] at aJ;simp only [List.length_append,List.length_cons] at aJ;omega
   have aH:=Tz (c:=c) (l:=l) (k:=k) (s:=L) (m:=m) (r:=Q) I a1 bm aD;have al:=Sd (a:=a) (lo:=t-1) (m:=m) I nn aa ab a0 bj Z;have O: ∀x,(Ax (Cg c l k L m Q).1 (Cg c l k L m Q).2).count x=(Ax c l).count x+used.count x:=λx=>by
    have h1:=Sz c l k L m Q x I;have aB:=bk x;omega
   have hlen:=PQ c l k L m Q I;have ax:=M0 c l k L m Q I a1;have ay:=Lm c l k L m Q I;have bo:=Ypd;rw [X1 au aw ao aG aN g1,aH.1];have a3:=aH.2;generalize Cg c l k L m Q=aR at al O hlen ax ay a3 ⊢;obtain⟨an,l'⟩:=aR;dsimp only at al O hlen ax ay a3 ⊢;have aI :ai∉Ax an l' :=by
    exact Yfs
   have a4 :0∉(an.h::l'.map (·.2.h)):=λhm=>by
    rw [ax] at hm;rcases Rb hm with h|h
    . exact bo h.symm
    . exact aZ h
   have a5:BF (Ah c l) it=Ah an l' :=(by rw [aX,a2,ay]);have aS:=J0 q1;by_cases aK:2*t-1<=l.length
   . have aT:CM (decide (2*t-1<=l.length)::p)=p.length+1:=by
      conv=>lhs;unfold CM
      rw [if_pos q1,if_pos (decide_eq_true aK)]
     rw [aT] at ah ⊢;obtain⟨x,az,rfl⟩: ∃x az,st1=x::az:=by
      cases st1 with
      |nil=>
       rw [g2,List.append_nil,g3,aS] at ah;omega
      |cons x az=>exact⟨x,az,rfl⟩
     have bp:x∈st:=(by rw [g2];simp);obtain⟨bD,a6,bq⟩:=am x bp;have br:x∉used:=λhm=>by
      rw [g2] at aE;exact(List.nodup_append.1 aE).2.2 x hm x (by simp) rfl
     have bs:x≠ai:=(λe=>a6 (by rw [e];simp));have bu:x∉Ax an l' :=by
      rw [<-List.count_eq_zero,O,List.count_eq_zero.2 (λhm=>a6 (List.mem_cons_of_mem _ hm)),List.count_eq_zero.2 br]
     obtain⟨A,m',d,B,rfl,b1,b2,bv⟩:=QO (st:=az) ar aP (g4.L4 x bq) (by omega) a4 al.1 al.2 aI bu bs (by omega);refine⟨_,used++ [x],az,_,b1,by rw [g2];simp,by rw [List.length_append,g3,aS];rfl,⟨λz ag aj=> ?_,λz ag=>EE (EE (g4.L4 z ag)),(λe=>by cases e),λmk mv r e=> ?_⟩⟩
     . rw [List.mem_append,List.mem_singleton,not_or] at aj
       rw [As aj.2,As (λe=>ag (by rw [e];simp)),aQ z ag aj.1]
     . simp only [Option.some.injEq,Prod.mk.injEq] at e
       obtain⟨rfl,rfl,rfl⟩:=e;refine⟨by rw [q1,decide_eq_true aK];rfl,⟨ai,Ah an A,ai::Ax an A⟩,⟨x,Ah d B,x::Ax d B⟩,m',rfl,rfl,rfl,rfl,b2,bv, ?_,λy=> ?_⟩
       . rw [a5,CS]
       . have aJ:=O y
         rw [El,List.count_append] at aJ;simp only [List.count_cons,List.count_append,List.count_nil];omega
   . have aT:CM (decide (2*t-1<=l.length)::p)=p.length:=by
      conv=>lhs;unfold CM
      rw [if_pos q1,decide_eq_false aK];rfl
     rw [aT];obtain⟨b1,b2⟩:=Kw (lo:=lo) (st:=st1) ar aP (by omega) a4 al.1 al.2 aI (by omega);refine⟨_,used,st1,none,b1,g2,by rw [g3,aS],⟨λz ag aj=> ?_,λz ag=>EE (g4.L4 z ag),λ_=>⟨by rw [decide_eq_false aK];rfl,ai::Ax an l', ?_,λx=> ?_⟩,λmk mv r e=>by cases e⟩⟩
     . rw [As (λe=>ag (by rw [e];simp)),aQ z ag aj]
     . rw [a5];exact b2
     . simp only [List.count_cons,O];omega
end
end Bt
def IY(p:List Bool):Nat:=CM p+(if p.all id then 1 else 0)
def Cz(R:Zr)(t:Nat)(key:ByteArray)(root:Nat):Nat:=if root=0 then 1 else IY (Cb R t key 40 root)
def EB(R:Zr)(t a b:Nat):Nat:=((Ag R t a).size+(Ag R t b).size+1)%18446744073709551616
def DT(t:Nat)(key:ByteArray)(ak av:Nat)(R:Zr)(st:List Nat)(root:Nat):(Zr) × List Nat × Nat:=
 if root=0 then DG R t st ⟨[ak],[av],[],1⟩
 else binUp t root (D4 t key ak av 40 R st root)
where
 binUp (t root:Nat) (p:(Zr) × List Nat × Option (Nat × Nat × Nat)):(Zr) × List Nat × Nat:=
  match p.2.2 with
  |none=>(p.1,p.2.1,root)
  |some (a,b,r)=>DG p.1 t p.2.1 ⟨[a],[b],[root,r],EB p.1 t root r⟩
theorem It.At.Ef {R R1:Zr}{i:It}(h:i.At R)(e: ∀z,R z≠none->R1 z=R z):i.At R1:=
 h.congr λz d=>e z (by
  simp only [It.hs,List.mem_cons,List.mem_singleton,List.not_mem_nil,or_false] at d;rcases d with rfl|rfl
  . rw [h.kt];simp
  . rw [h.vt];simp)
namespace Bt
variable {hg root:Nat}{Aa:List It}{ns st:List Nat}
def Tree(R:Zr)(t root:Nat)(Aa:List It)(ns:List Nat)(hg:Nat):Prop:=
 (root=0/\Aa= []/\ns= []/\hg=0)\/ ∃a,hg=a+1/\At R t a 1 ⟨root,Aa,ns⟩
structure Own(R:Zr)(Aa:List It)(ns:List Nat):Prop where
 at' : ∀i∈Aa,i.At R
 Dn:AY (AI Aa)
 nodup:(ns++Aa.flatMap It.hs).Nodup
section
variable {R R1:Zr} {t a lo:Nat}
theorem At.Yz(d:BN.A1 t): ∀{a lo:Nat} {s:Sb},At R t a lo s->(lo+1)*t^a<=s.Aa.length+1
 |0,lo,s,h=>by have:=h.2.1;simp;exact this
 |a+1,lo,s,h=>by
  obtain⟨c,l,h1,O,af,ag,U,V⟩:=h;have t1:=d.1;have I:=At.Yz d U;have Z:=λp hp=>At.Yz d (V p hp)
  have aa: ∀(q:Nat) (l:List Lk),(∀p∈l,q<=p.2.Aa.length+1)->l.length*q<=(l.flatMap λp=>p.2.Aa).length+l.length:=by
   intro q l
   induction l with
   |nil=>intro _;simp
   |cons p l ih=>
    intro h;have h1:=h p (by simp);have O:=ih (λq ab=>h q (by simp [ab]));simp only [List.flatMap_cons,List.length_append,List.length_cons,Nat.succ_mul];omega
  have J:=aa _ l Z;have ac:=IN c l;rw [h1,ac,List.length_append];rw [show t-1+1=t by omega] at I J;have e:(lo+1)*t^(a+1)=(lo+1)*(t*t^a):=by rw [Nat.pow_succ,Nat.mul_comm (t^a) t]
  rw [e];generalize t*t^a=q at I J;have ae:(lo+1)*q<=(l.length+1)*q:=Nat.mul_le_mul_right q (by omega);rw [Nat.succ_mul l.length q] at ae;omega
theorem At.high(I:BN.A1 t){s:Sb}(h:At R t a 1 s)(O:s.Aa.length<549755813888):a<40:=by
 have h1:=h.Yz I;have U:2^a<=t^a:=Nat.pow_le_pow_left I.1 a;rcases Nat.lt_or_ge a 40 with d|d
 . exact d
 . have J:2^40<=2^a:=Nat.pow_le_pow_right (by omega) d
   have e:(2:Nat)^40=1099511627776:=(by decide);rw [e] at J;omega
theorem At.Ef {s:Sb}(h:At R t a lo s)(e: ∀z,R z≠none->R1 z=R z):At R1 t a lo s:=
 h.congr λx hx=>e x (by obtain⟨ws,h1,_⟩:=h.Fm x hx;rw [h1];simp)
theorem SL(O:BN.A1 t)(e: ∀z,R z≠none->R1 z=R z)(key:ByteArray): ∀(a lo f:Nat) (s:Sb),At R t a lo s->(∀i∈s.Aa,i.At R)->AY (AI s.Aa)->a<f->Cb R1 t key f s.h=Cb R t key f s.h:=by
 intro a
 induction a with
 |zero=>
  intro lo f s h J d ai;obtain⟨f,rfl⟩: ∃g,f=g+1:=⟨f-1,by omega⟩;obtain⟨Z,ac⟩:=h.2.2.get O;obtain⟨ae,af⟩:=(h.Ef e).2.2.get O;rw [Dc Z ac (B4 J d),Dc ae af (B4 (λi hi=>(J i hi).Ef e) d),if_pos (show(Aq s.Aa).kids= [] from rfl)];rfl
 |succ a ih=>
  intro lo f s h J d ai;obtain⟨f,rfl⟩: ∃g,f=g+1:=⟨f-1,by omega⟩;obtain⟨c,l,h1,aq,ar,U,aa,ab⟩:=h;have aj :KO R1 t s.h (Aj c l):=⟨(e _ (by rw [U.1];simp)).trans U.1,U.2⟩;obtain⟨Z,ac⟩:=U.get O;obtain⟨ae,af⟩:=aj.get O;rw [h1] at J d;obtain⟨al,am,V,ag⟩:=Y3;have ah :=B4 (R:=R1) (key:=key) (λi hi=>(am i hi).Ef e) al;rw [List.map_map] at ag ah;generalize AH (AI (l.map (·.1))) key=k at V ag ah;obtain⟨I,an,ao⟩:=Yqk;rw [Dc Z ac ag,Dc ae af ah,ao,ih (t-1) f (Ap c l k) an (λi hi=>J i (Hj I hi)) (DH I d) (by omega)]
structure Dx(R R1:Zr)(t:Nat)(st:List Nat):Prop where
 new: ∀x∈st,R x=none/\x≠0/\Rec R1 t x
 nodup:st.Nodup
 old: ∀z,z∉st->R1 z=R z
theorem Dx.ext(f:Dx R R1 t st): ∀z,R z≠none->R1 z=R z:=λz d=>f.old z λhm=>d (f.new z hm).1
theorem VT{key:ByteArray}(ac:BN.A1 t): ∀(a lo f:Nat) (s:Sb),At R t a lo s->(∀i∈s.Aa,i.At R)->AY (AI s.Aa)->a<f->(Cb R t key f s.h).length=a+1:=by
 intro a
 induction a with
 |zero=>
  intro lo f s h J d ae;obtain⟨f,rfl⟩: ∃g,f=g+1:=⟨f-1,by omega⟩;obtain⟨O,U⟩:=h.2.2.get ac;rw [Dc O U (B4 J d),if_pos (show(Aq s.Aa).kids= [] from rfl)];rfl
 |succ a ih=>
  intro lo f s h J d ae;obtain⟨f,rfl⟩: ∃g,f=g+1:=⟨f-1,by omega⟩;obtain⟨c,l,h1,ai,aj,af,aa,ab⟩:=h;obtain⟨O,U⟩:=af.get ac;rw [h1] at J d;obtain⟨_,_,V,Z⟩:=Y3;rw [List.map_map] at Z;generalize AH (AI (l.map (·.1))) key=k at V Z;obtain⟨I,ag,ah⟩:=Yqk;rw [Dc O U Z,if_neg (show¬(Aj c l).kids= [] by simp [Aj]),ah,List.length_cons,ih (t-1) f (Ap c l k) ag (λi hi=>J i (Hj I hi)) (DH I d) (by omega)]
theorem OZ: ∀(p:List Bool),CM p<=p.length
 | []=>Nat.le_refl _
 |b::p=>by
  unfold CM;have:=OZ p
  split
  . split<;>simp
  . simp;omega
theorem RY(p:List Bool):IY p<=p.length+1:=by
 unfold IY;have:=OZ p
 split<;>omega
def Yop{P}(h:P:=by
 have h0:root≠0:=λe=>h.FD d (by have:=DA h;rw [<-e];exact this)
 exact h0):=h
theorem Tree.ZI(I:BN.A1 t)(h:Tree R t root Aa ns hg)(d:R 0=none)(J:Own R Aa ns)(O:Aa.length<549755813888)(key:ByteArray):Cz R t key root<=hg+1:=by
 unfold Cz;rcases h with ⟨rfl,_,_,rfl⟩|⟨a,rfl,h⟩
 . rw [if_pos rfl];omega
 . have h0:=Yop
   rw [if_neg h0];have:=RY (Cb R t key 40 root);have U:(Cb R t key 40 root).length=a+1:=VT I a 1 40 ⟨root,Aa,ns⟩ h J.at' J.Dn (h.high I O);omega
def Yec{P}(h:P:=by
 have d:=I x;have U:=List.count_pos_iff.2 hm;rw [List.count_eq_zero.2 J,List.count_eq_zero.2 O] at d;omega):=h
theorem TL(aa:BN.A1 t)(it:It)(h:Tree R t root Aa ns hg)(d:R 0=none)(ab:Own R Aa ns)(aA:Bb Aa it.k=none)(aB:Aa.length<549755813888)
 (U:Dx R R1 t st) (V:st.length=Cz R t it.k root):
 ∃R' now ag aC,DT t it.k it.kh it.vh R1 st root=(R',[],now)/\Tree R' t now (BF Aa it) ag aC /\(∀x,ag.count x=ns.count x+st.count x)/\(∀z,z∉ns->z∉st->R' z=R z):=by
 have ar:R1 0=none:=(U.old 0 λhm=>(U.new 0 hm).2.1 rfl).trans d;rcases h with ⟨rfl,rfl,rfl,rfl⟩|⟨a,rfl,h⟩
 . unfold Cz at V
   rw [if_pos rfl] at V;obtain⟨x,rfl⟩: ∃x,st= [x]:=List.length_eq_one_iff.1 V;obtain⟨aD,J,ws,ai,aj⟩:=U.new x (by simp);have ae:(Aq [it]).Fits t:=Co (by have:=aa.1;simp;omega);have e:DT t it.k it.kh it.vh R1 [x] 0=(AT R1 x (some ((Aq [it]).wd t)),[],x):=by
    unfold DT;rw [if_pos rfl]
    show(Bq R1 t x (Aq [it]),[],x)=_
    rw [B9 ae ai aj]
   refine⟨_,x,[x],1,e, .inr ⟨0,rfl,rfl, ?_,AR _ _ _,ae⟩,λy=> ?_,λz _ af=> ?_⟩
   . show 1<=(BF [] it).length
     rw [Gc];exact Nat.le_add_left _ _
   . simp
   . rw [As (by simpa using af),U.old z af]
 . have h0:=Yop
   have ha:=h.high aa aB;have au: ∀x∈ns,R x≠none:=(λx hx=>by obtain⟨ws,h1,_⟩:=h.Fm x hx;rw [h1];simp);have al: ∀x∈st,x≠0/\x∉ns/\Rec R1 t x:=(λx hx=>⟨(U.new x hx).2.1,λhm=>au x hm (U.new x hx).1,(U.new x hx).2.2⟩);unfold Cz at V;rw [if_neg h0] at V;have am:=SL aa U.ext it.k a 1 40 ⟨root,Aa,ns⟩ h ab.at' ab.Dn ha;dsimp only at am;have aE:CM (Cb R1 t it.k 40 root)<=st.length:=(by rw [am,V];unfold IY;omega);obtain⟨R2,used,st',up,g1,g2,g3,g4⟩:=TM (R:=R1) aa it a 1 40 ⟨root,Aa,ns⟩ st (h.Ef U.ext) ar (List.nodup_append.1 ab.nodup).1 (λi hi=>(ab.at' i hi).Ef U.ext) ab.Dn aA ha (by show Aa.length+1<_;omega) al U.nodup aE;dsimp only at g1 g2 g3 g4;rw [am] at g3 g4;have hlen:st.length=used.length+st'.length:=(by rw [g2,List.length_append]);have aw: ∀z,z∉ns->z∉st->R2 z=R z:=λz h1 ax=>(g4.frame z h1 λaF=>ax (by rw [g2];simp [aF])).trans (U.old z ax)
   cases up with
   |none=>
    obtain⟨q1,ag,aG,aH⟩:=g4.stays rfl;have aI:st' = []:=by
     unfold IY at V;rw [q1] at V;simp only [Bool.false_eq_true,if_false,Nat.add_zero] at V;exact List.eq_nil_of_length_eq_zero (by omega)
    subst aI;refine⟨R2,root,ag,a+1, ?_, .inr ⟨a,rfl,aG⟩,λx=> ?_,aw⟩
    . unfold DT
      rw [if_neg h0,g1];rfl
    . rw [aH x,g2,List.append_nil]
   |some u=>
    obtain⟨mk,mv,r⟩:=u;obtain⟨q1,L,Q,m,rfl,rfl,an,rfl,ah,Z,ao,I⟩:=g4.split _ _ _ rfl;dsimp only at an ao I;have aJ:st'.length=1:=by
     unfold IY at V;rw [q1] at V;simp only [if_true] at V;omega
    obtain⟨x,rfl⟩: ∃x,st' = [x]:=List.length_eq_one_iff.1 aJ;have ay:x∈st:=(by rw [g2];simp);obtain⟨aD,J,ai⟩:=al x ay;have O:x∉used:=λhm=>by
     have:=U.nodup;rw [g2] at this;exact(List.nodup_append.1 this).2.2 x hm x (by simp) rfl
    have ac:R2 0=none:=(g4.frame 0 (λhm=>au 0 hm d) (λhm=>(al 0 (by rw [g2];simp [hm])).1 rfl)).trans ar;have aK:L.h≠0:=(λe=>ah.FD ac (by rw [<-e];exact DA ah));have aL:=Ypd;have aM:x∉L.ns:=λhm=>by
     exact Yec
    have aN:x∉Q.ns:=λhm=>by
     exact Yec
    have az:BF Aa it=Ah L [(m,Q)]:=(by rw [ao];simp [Ah,rest]);have aq:=Gc Aa it;have aO:EB R2 t root Q.h=(Ah L [(m,Q)]).length:=by
     unfold EB;rw [<-an,ah.sizeOf aa,Z.sizeOf aa,<-az,aq];rw [ao] at aq;rw [List.length_append,List.length_cons] at aq;rw [Nat.mod_eq_of_lt (by omega)];omega
    have aP:(⟨[m.kh],[m.vh],[root,Q.h],EB R2 t root Q.h⟩:BN)=Aj L [(m,Q)]:=(by rw [aO,<-an];rfl);have ae:(Aj L [(m,Q)]).Fits t:=CB (by have:=aa.1;simp;omega) (by
     simp only [List.map_cons,List.map_nil,List.mem_cons,List.not_mem_nil,or_false,not_or];exact⟨λe=>aK e.symm,λe=>aL e.symm⟩)
    obtain⟨ws,aj,aQ⟩:=g4.L4 x ai;refine⟨AT R2 x (some ((Aj L [(m,Q)]).wd t)),x,x::Ax L [(m,Q)],a+2, ?_, .inr ⟨a+1,rfl,L,[(m,Q)],az,rfl,by simp,⟨AR _ _ _,ae⟩,CN ah aM,λp hp=> ?_⟩,λy=> ?_,λz aR af=> ?_⟩
    . unfold DT
      rw [if_neg h0,g1]
      show DG R2 t [x] ⟨[m.kh],[m.vh],[root,Q.h],EB R2 t root Q.h⟩=_
      rw [aP]
      show(Bq R2 t x _,[],x)=_
      rw [B9 ae aj aQ]
    . rw [List.mem_singleton] at hp
      rw [hp];exact CN Z aN
    . have aS:=I y
      rw [g2];simp only [Ax,List.flatMap_cons,List.flatMap_nil,List.append_nil,List.count_cons,List.count_append,List.count_nil];omega
    . rw [As (λe=>af (by rw [e];exact ay)),aw z aR af]
end
end Bt
def D6:List Bool->Nat->Bool->Nat
 | [],full,all=>full+(if all then 1 else 0)
 |b::p,full,all=>if b then D6 p (full+1) all else D6 p 0 false
theorem K8: ∀(p:List Bool) (full:Nat) (all:Bool),D6 p full all=if p.all id then full+p.length+(if all then 1 else 0) else CM p
 | [],full,all=>by simp [D6]
 |b::p,full,all=>by
  cases b with
  |true=>
   show D6 p (full+1) all=_
   rw [K8 p];have e:(true::p).all id=p.all id:=(by simp);rw [e];by_cases h:p.all id=true
   . rw [if_pos h,if_pos h,List.length_cons];omega
   . rw [if_neg h,if_neg h]
     conv=>rhs;unfold CM
     rw [if_neg h]
  |false=>
   show D6 p 0 false=_
   rw [K8 p];have e: ¬(false::p).all id=true:=(by simp);rw [if_neg e];by_cases h:p.all id=true
   . rw [if_pos h]
     conv=>rhs;unfold CM
     rw [if_pos h];simp
   . rw [if_neg h]
     conv=>rhs;unfold CM
     rw [if_neg h]
theorem Qy(p:List Bool):D6 p 0 true=IY p:=by
 rw [K8];unfold IY;by_cases h:p.all id=true
 . rw [if_pos h,if_pos h,J0 h];simp
 . rw [if_neg h,if_neg h];simp
section
variable {s N:Nat} {R:Zr} {nn:Nat}
def Yee{P}(h:P:=by
 rw [al.out,if_neg ah,show n.kids.getD k 0=n.kids[k] by simp [J],ag,show 40-(i+1)=m by have:=aq.out;omega]):=h
def ZP{P}(h:P:=by
 have d:=Zh (And.intro ae Z);have ac:=Zh ab;exact And.intro d ac):=h
def Yno{P}(h:P:=by
 have d:=Zh (λW (I:Below aj.heap.size aj W)=>by have:=ao W I;rw [ag] at this;exact this);exact d):=h
def Yqu{P}(h:P:=by
 have d:=V9;have d11:((n.kids.length:Int)==0)=false:=by simp;omega
 have J:k<n.kids.length:=by
  exact VD
 exact And.intro d (And.intro d11 J)):=h
theorem Ta{w:World}(h:Rd N w s R nn)(bm:Ba R){t:Nat}(aQ:BN.A1 t)(x:Nat)(hx:x<18446744073709551616)(key:ByteArray):
 Calls prog 47 #[.agg #[.pointer (some ⟨s,0,none⟩), .int .i64 t], .int .u64 x, .string key] w λe w' =>e= .returned (.int .i64 (Cz R t key x:Nat))/\Below w.heap.size w w' :=by
 have aW:=Zh h;have a8:=Zh aQ;have t1:=aQ.1;have t2:=aQ.2;obtain⟨O,ae⟩:=Zx (w.alloc (Obj.cells #[.pointer (some ⟨s,0,none⟩), .int .i64 t] 96));have ab:=G5;obtain⟨bo,Z⟩:=Zx w.heap.size;have a9:An O bo 96 [.pointer (some ⟨s,0,none⟩), .int .i64 t]:=by rw [ae,Z];exact An.new w _ _
 obtain⟨aX,ac⟩:=ZP;have bp:=Zh a9;have aF:Hid (∀(m:Nat) W,Cz R t key x=m->Below w.heap.size w W->(Ending.returned (.int .i64 (m:Nat))=Ending.returned (.int .i64 (Cz R t key x:Nat))/\Below w.heap.size w W)):=Zh (λm W h1 bq=>⟨by rw [h1],bq⟩);clear h aQ ae Z a9 ab;go_enter func47,ntmps47;by_cases aJ:x=0
 . have d0:((x:Int)==0)=true:=by rw [aJ];rfl
   have aB:=Zh (aF 1 O (by unfold Cz;rw [if_pos aJ]) ac);clear aJ;go_wp2;rw [<-aX.1];go_ret;exact aB.out
 . have d0:((x:Int)==0)=false:=by simp;omega
   obtain⟨D,aY⟩:=Zx (Cz R t key x);have aG:=Zh aY;have br:Hid (D=D6 (Cb R t key (40-0) x) 0 true):=Zh (by rw [aY,Qy];unfold Cz;rw [if_neg aJ]);clear aJ aY;go_upto_region 3 with (fail);rw [<-aX.1,<-aX.2];go_wp2
   go_loopw [1,7,8,15] (λbs bu av aZ wr=> ∃(i a0 full:Nat) (all:Bool),i<=40/\full<=i/\a0 <18446744073709551616/\bs= .int .u64 (a0 :Nat)/\bu= .int .i64 full/\av= .bool all/\aZ= .int .i64 i/\Hid (D=D6 (Cb R t key (40-i) a0) full all)/\Hid (Below O.heap.size O wr)) (λ_ _ _ aZ _=>40-(intOf aZ).toNat)
   case atStart=>exact⟨0,x,0,true,by omega,by omega,hx,rfl,rfl,rfl,rfl,br,Zh (Below.refl _ _)⟩
   case round=>
    obtain⟨i,y,full,all,hi,bH,bv,rfl,rfl,rfl,rfl,hd,I⟩:=hrel;have af:=DR;by_cases bI:i<40
    . have bb:=Zh (DQ (aW.below af) t a8 y bv)
      have a1:=Zh (bp.below I);obtain⟨bc,bd⟩:=A2 a1.out;obtain⟨m,hm⟩: ∃m,40-i=m+1:=⟨39-i,by omega⟩;go_wp2_with fail;refine bb.mono ?_;rintro e w2 ⟨v1,v2,v3,rfl,d,aS⟩;obtain⟨ay,q1,rfl⟩:=Ae d.r1;obtain⟨az,au,rfl⟩:=Ae d.r2;obtain⟨ar,am,rfl⟩:=Ae d.r3;obtain⟨n,aw⟩:=Zx (Ag R t y);rw [<-aw] at d;rw [<-aw];obtain⟨aj,an⟩:=Zx (w2.alloc (Obj.cells #[.slice ay n.keys.length q1, .slice az n.Ab.length au, .slice ar n.kids.length am, .int .u64 n.size] 100));obtain⟨ai,aD⟩:=Zx w2.heap.size;obtain⟨ba,aO⟩:=Yk;have V:=Ymq;have z3:=Zh (a1.below V);have aI:=Jt;have ax:=Zh (I.trans (V.mono I.size));obtain⟨aU,be⟩:=OC;obtain⟨a2,aN⟩:=YB;have aq:=Zh hm;clear bc bd bb aS d aw an aD ba V aO I a1 af hm;by_cases he:Bm R t y=0
      . rw [decide_eq_true he]
        have hw:=BR (aW.below aI) a8 he;rw [<-be.out] at hw;obtain⟨bw,bf,bz,wc,bA⟩:=hw;obtain⟨g1,g2,aT⟩:=bw;obtain⟨_,_,bg⟩:=Yhn;have aR:=GX (aW.below aI) bm bg t bf key;obtain⟨k,aL⟩:=Zx (DJ R n.keys key);generalize Gx R n.keys key=bJ at*;have bK:=YV;rw [<-aL] at aR;have aV:Hid (D=D6 (decide (2*t-1<=n.keys.length)::if n.kids= [] then [] else Cb R t key m (n.kids.getD k 0)) full all):=Zh (by
         rw [hd.out,aq.out]
         conv=>lhs;unfold Cb
         rw [if_neg (λh=>h he),<-be.out,<-aL])
        obtain⟨bh,bj⟩:=Yjx;have bi:=Zh wc;obtain⟨bc,bd⟩:=A2 z3.out;obtain⟨f0,f1,f2,f3⟩:=C5 a2.out;clear bg aR aL g2 aT bf bz wc bA he hd;go_upto_region 8 with (fail);rw [<-aU.1,<-aU.2];by_cases bk:2*t-1<=n.keys.length
        . have d8:decide ((n.keys.length:Int)<2*(t:Int)-1)=false:=decide_eq_false (by omega)
          have al:Hid (D=D6 (if n.kids= [] then [] else Cb R t key m (n.kids.getD k 0)) (full+1) all):=Zh (by rw [aV.out,decide_eq_true bk];rfl);clear aV;by_cases ah:n.kids= []
          . have bB:n.kids.length=0:=by rw [ah];rfl
            cases all with
            |true=>
             have aB:=Zh (aF (full+1+1) aj (by rw [<-aG.out,al.out,if_pos ah];rfl) aI);clear ah;go_wp2;go_ret;exact aB.out
            |false=>
             have aB:=Zh (aF (full+1) aj (by rw [<-aG.out,al.out,if_pos ah];rfl) aI);clear ah;go_wp2;go_ret;exact aB.out
          . obtain⟨bL,d11,J⟩:=Yqu
            obtain⟨bC,d3,a3,aK⟩:=A5 (F:=λ_=>False) aN.r3 (λ_ h=>h.elim)
            cases a3
            obtain⟨bD,bE,a4,bF,ao⟩:=aK.num J;have aM:=bi.out k J;obtain⟨aP,ag⟩: ∃a5,n.kids[k]=a5:=⟨_,rfl⟩;rw [ag] at aM;have hrel:Hid (D=D6 (Cb R t key (40-(i+1)) aP) (full+1) all):=Zh (by
             exact Yee)
            have a6:=Yno;subst a4;clear ah ag ao aK;go_wp2_with fail;refine bh.mono ?_;rintro e w4 ⟨rfl,U⟩;have bG:=a6.out w4 U;have f24:=(a2.below U).at' (i:=2) rfl;have a7:=QK;clear U;go_wp2;go_roundw
            case rel=>exact⟨i+1,aP,(full+1),all,by omega,by omega,aM,rfl,by first|rfl|go_num,rfl,by go_num,hrel,a7⟩
            case measure=>simp [intOf];omega
        . have d8:decide ((n.keys.length:Int)<2*(t:Int)-1)=true:=decide_eq_true (by omega)
          have al:Hid (D=D6 (if n.kids= [] then [] else Cb R t key m (n.kids.getD k 0)) 0 false):=Zh (by rw [aV.out,decide_eq_false bk];rfl);clear aV;by_cases ah:n.kids= []
          . have bB:n.kids.length=0:=by rw [ah];rfl
            have aB:=Zh (aF 0 aj (by rw [<-aG.out,al.out,if_pos ah];rfl) aI);clear ah;go_wp2;go_ret;exact aB.out
          . obtain⟨_,_,J⟩:=Yqu
            obtain⟨bC,d3,a3,aK⟩:=A5 (F:=λ_=>False) aN.r3 (λ_ h=>h.elim)
            cases a3
            obtain⟨bD,bE,a4,bF,ao⟩:=aK.num J;have aM:=bi.out k J;obtain⟨aP,ag⟩: ∃a5,n.kids[k]=a5:=⟨_,rfl⟩;rw [ag] at aM;have hrel:Hid (D=D6 (Cb R t key (40-(i+1)) aP) 0 false):=Zh (by
             exact Yee)
            have a6:=Yno;subst a4;clear ah ag ao aK;go_wp2_with fail;refine bh.mono ?_;rintro e w4 ⟨rfl,U⟩;have bG:=a6.out w4 U;have f24:=(a2.below U).at' (i:=2) rfl;have a7:=QK;clear U;go_wp2;go_roundw
            case rel=>exact⟨i+1,aP,0,false,by omega,by omega,aM,rfl,by first|rfl|go_num,rfl,by go_num,hrel,a7⟩
            case measure=>simp [intOf];omega
      . rw [decide_eq_false he]
        have aC:D=D6 [] full all:=by
         rw [hd.out,aq.out];unfold Cb;rw [if_pos he]
        clear he hd
        cases all with
        |true=>
         have aB:=Zh (aF (full+1) aj (by rw [<-aG.out,aC];rfl) aI);clear aC;go_wp2;rw [<-aU.1];go_ret;exact aB.out
        |false=>
         have aB:=Zh (aF full aj (by rw [<-aG.out,aC];rfl) aI);clear aC;go_wp2;rw [<-aU.1];go_ret;exact aB.out
    . obtain rfl:i=40:=by omega
      have aC:D=D6 [] full all:=(by rw [hd.out];rfl);clear hd
      cases all with
      |true=>
       have aB:=Zh (aF (full+1) wr (by rw [<-aG.out,aC];rfl) af);clear aC;go_wp2;go_ret;exact aB.out
      |false=>
       have aB:=Zh (aF full wr (by rw [<-aG.out,aC];rfl) af);clear aC;go_wp2;go_ret;exact aB.out
end
