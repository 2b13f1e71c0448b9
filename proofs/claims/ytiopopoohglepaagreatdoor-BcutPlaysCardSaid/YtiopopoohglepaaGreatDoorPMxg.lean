/- A part. -/
import Derived.Test.YtiopopoohglepaaGreatDoorPMxf
set_option linter.all false
set_option maxRecDepth 100000
set_option maxHeartbeats 8000000
namespace Go.Proofs.YtiopopoohglepaaGreatDoor
open Go.Proofs.Tryz
open Go.RowKit Go.Shelf
variable {F' FF:Nat->Prop}{G P a b g1 g2 last most q s t x y:Nat}{H':List Nat}{W w:World}
inductive Ff(w:World)(s t:Nat)(F:Nat->Prop)(R:Zr)(H:List Nat)(P q most last G x ak av:Nat):Ending->World->Prop
 |bad {w' :World} (h:De R ak≠0\/(x≠0/\Bk R t x≠0)) (hb:Below w.heap.size w w'):Ff w s t F R H P q most last G x ak av (.returned (.tuple #[.int .u64 0, .agg #[.int .u64 0, .int .u64 0], .bool false, .int .i64 8])) w'
 |here {w' :World} (h0:De R ak=0) (h1:x=0\/Bk R t x=0) (hf:(Bv R t (BG R ak) 40 x 0).1.isSome=true) (hs:Ah w' s F (Cu R t (BG R ak) ak av 40 x).1 H P q most last G) (hT:Ad w F w' F):
  Ff w s t F R H P q most last G x ak av (.returned (.tuple #[.int .u64 x,S7 (Cu R t (BG R ak) ak av 40 x).2, .bool true, .int .i64 0])) w'
 |full {w' :World} {er:Nat} {F' :Nat->Prop} (h0:De R ak=0) (h1:x=0\/Bk R t x=0) (hf:(Bv R t (BG R ak) 40 x 0).1.isSome=false)
  (he:(er=3/\q<(P+CA R t (BG R ak) x*CD (6*t+2))*64)\/(er=10/\(most<H.length+CA R t (BG R ak) x\/last<G+CA R t (BG R ak) x)))
  (hs:Ah w' s F' R H (P+CA R t (BG R ak) x*CD (6*t+2)) q most last (G+CA R t (BG R ak) x)) (hT:Ad w F w' F'):
  Ff w s t F R H P q most last G x ak av (.returned (.tuple #[.int .u64 0, .agg #[.int .u64 0, .int .u64 0], .bool false, .int .i64 er])) w'
 |put {w' :World} {st:List Nat} {R1:Zr} {F' :Nat->Prop} (h0:De R ak=0) (h1:x=0\/Bk R t x=0) (hf:(Bv R t (BG R ak) 40 x 0).1.isSome=false)
  (hl:st.length=CA R t (BG R ak) x) (hfr:Bt.DB R R1 t st) (h64: ∀z∈st,R1 z=some (BN.zero.wd t)/\z<18446744073709551616)
  (hs:Ah w' s F' (DU t (BG R ak) ak av R1 st.reverse x).1 (st.reverse++H) (P+CA R t (BG R ak) x*CD (6*t+2)) q most last (G+CA R t (BG R ak) x)) (hT:Ad w F w' F')
  (hn:(DU t (BG R ak) ak av R1 st.reverse x).2.2<18446744073709551616):
  Ff w s t F R H P q most last G x ak av (.returned (.tuple #[.int .u64 ((DU t (BG R ak) ak av R1 st.reverse x).2.2:Nat), .agg #[.int .u64 0, .int .u64 0], .bool false, .int .i64 0])) w'
theorem KS(R:Zr)(t:Nat)(key:ByteArray): ∀(f x:Nat),(Ca R t key f x).length<=f
 |0,_=>Nat.le_refl _
 |f+1,x=>by
  unfold Ca
  split
  . simp
  . rw [List.length_cons]
    split
    . simp
    . have:=KS R t key f ((Af R t x).kids.getD (DL R (Af R t x).keys key) 0)
      omega
theorem W8(R:Zr)(t:Nat)(key:ByteArray)(x:Nat):CA R t key x<=41:=by
 unfold CA
 split
 . omega
 . have h1:=Bt.Sq (Ca R t key 40 x)
   have I:=KS R t key 40 x;omega
theorem Zn{N bl b2:Nat}{I:World}{R R1:Zr}{v:Value}{st:List Nat}(V:BN.A0 t)(Z:A6 R)(aa:Bt.DB R R1 t st)(U: ∀x∈st,R1 x=some (BN.zero.wd t)/\x<18446744073709551616)
 (hs:Ah I s F' R1 H' P q most last G) (J:Mk N I s t F' bl b2 v st) (ab:N<=bl) (ac:bl≠b2) (hN:s<N/\1<N) (ae:st.length<=100000):G8 N I.heap.size I s t F' bl b2 v.ownBlock H' P q most last G R1 st where
 str:=hs
 lo:=hs.lo
 tk:=⟨v,rfl,J.tk ac⟩
 l1:=J.bx.lt
 l2:=J.Ju.lt
 l3:=λk af=>Br J.row k af
 sh:=λy ws O=>by
  by_cases hm:y∈st
  . rw [(U y hm).1] at O
    cases O
    rw [BN.B0];have:=V.2;omega
  . rw [aa.old y hm] at O
    exact Z y ws O
 Q0:=λx hx=>(U x hx).2
 len:=ae
 hN:=hN
 J7:=ab
def Ydo{P}(h:P:=by
 obtain rfl:I=k:=Option.some.inj U;refine⟨h1.1,h1.2,O,λp aa=> ?_⟩;rw [J.at' (i:=0) Z] at aa;exact V p (Option.some.inj aa)):=h
theorem Df{I:Nat}{F:Nat->Prop}{R' :Zr}{vs:List Value}(aa:Ah W s F' R' H' P q most last G)(ab:Ad w F W F')(ac:w.heap.size<=I)(J:An W I 31 vs)(ae: ∃v,vs[0]? =some v/\ ∀p,v≠ .pointer p)(O: ¬F' I)(h1:s<I/\1<I)(c d:Value):
 Ah ((W.setCell ⟨I,0,none⟩ c).setCell ⟨I,1,none⟩ d) s F' R' H' P q most last G/\Ad w F ((W.setCell ⟨I,0,none⟩ c).setCell ⟨I,1,none⟩ d) F' :=by
 obtain⟨v0,Z,V⟩:=ae;refine⟨aa.grown (Bi (A3 W I 0 _) (A3 _ I 1 _)) (λk U=> ?_),ab.minus ((Ad.GI W F' I 0 _).trans (Ad.GI _ F' I 1 _)) ac⟩;exact Ydo
theorem Ig(h:An W b 23 [.int .u64 x])(I: ¬FF b):AK W FF (some ⟨b,0,none⟩) (AF [x]):=
 .inr ⟨b,0,rfl,h.lt,I,λj u hu=>by
  rw [Nat.zero_add];exact h.at' hu⟩
theorem Ti(h:An W b 23 [.int .u64 x, .int .u64 y])(I: ¬FF b):AK W FF (some ⟨b,0,none⟩) (AF [x,y]):=
 .inr ⟨b,0,rfl,h.lt,I,λj u hu=>by
  rw [Nat.zero_add];exact h.at' hu⟩
theorem WJ(h1:An W g1 23 [.int .u64 a])(I:An W g2 23 [.int .u64 b])(f1: ¬FF g1)(f2: ¬FF g2):
 C3 W FF (.agg #[.slice (some ⟨g1,0,none⟩) 1 1, .slice (some ⟨g2,0,none⟩) 1 1, .slice none 0 0, .int .u64 1]) ⟨[a],[b],[],1⟩:=
 ⟨⟨_,1,_,1,none,0,rfl,Ig h1 f1,Ig I f2, .inl rfl⟩,by simp,by simp,by simp⟩
theorem Xy{g3 z:Nat}(h1:An W g1 23 [.int .u64 a])(I:An W g2 23 [.int .u64 b])(J:An W g3 23 [.int .u64 x, .int .u64 y])(f1: ¬FF g1)(f2: ¬FF g2)(f3: ¬FF g3):
 C3 W FF (.agg #[.slice (some ⟨g1,0,none⟩) 1 1, .slice (some ⟨g2,0,none⟩) 1 1, .slice (some ⟨g3,0,none⟩) 2 2, .int .u64 z]) ⟨[a],[b],[x,y],z⟩:=
 ⟨⟨_,1,_,1,_,2,rfl,Ig h1 f1,Ig I f2,Ti J f3⟩,by simp,by simp,by simp⟩
theorem VV(R:Zr)(t x r:Nat)(h1:(Af R t x).size<18446744073709551616)(I:(Af R t r).size<18446744073709551616):
 ∃u:Nat,IntKind.u64.wrap (wrap64 (Cq R t x+Cq R t r))=(u:Int)/\u<18446744073709551616/\IntKind.u64.wrap ((u:Int)+1)=((ED R t x r:Nat):Int)/\ED R t x r<18446744073709551616:=by
 refine⟨N1 (wrap64 (Cq R t x+Cq R t r)),IH _,Vx _, ?_,Nat.mod_lt _ (by decide)⟩;rw [IH];unfold ED Cq N1 wrap64;omega
section
variable  {F:Nat->Prop} {R:Zr} {H:List Nat} 
def Y9{P}(h:P:=by
 have aD:Below O.heap.size O az:=by rw [ac];exact aP.alloc aP.size _
 exact aD):=h
def V9{P}(h:P:=by
 have aD:Below aj.heap.size aj az:=by rw [ac];exact aP.alloc aP.size _
 exact aD):=h
def Yio{P}(h:P:=by
 have I:=λX:Au (λ_=>False) ag=>X.cell (aT.at' (i:=0) rfl) (λh=>h)
 have J:=λX:Au (λ_=>False) ag=>X.cell (aT.at' (i:=1) rfl) (λh=>h)
 exact And.intro I J):=h
def Yjm{P}(h:P:=by
 have I:Below O.heap.size O aG:=by rw [aH];exact((Below.refl _ O).alloc (Nat.le_refl _) _).drew
 exact I):=h
def Yjn{P}(h:P:=by
 have I:Below aj.heap.size aj aG:=by rw [aH];exact((Below.refl _ aj).alloc (Nat.le_refl _) _).drew
 exact I):=h
def W4{P}(h:P:=by
 have I:Below aj.heap.size aj V3:=by rw [aJ];exact aQ.alloc aQ.size _
 exact I):=h
def Yjr{P}(h:P:=by
 have I:=λX:Au (λ_=>False) ag=>X.cell (bb.at' (i:=0) rfl) (λh=>h)
 exact I):=h
def Zq{P}(h:P:=by
 have I:=bc.out;have a2:=bp.out;have J:=bo.out;exact And.intro I (And.intro a2 J)):=h
def ZH{P}(h:P:=by
 have an:An V3 g3 23 [.int .u64 x, .int .u64 r]:=by rw [aJ];exact an.alloc _
 exact an):=h
def Yli{P}(h:P:=by
 have I:=Zh (BE ((aT.set 0 (.int .u64 0)).set 1 (.int .u64 0)));exact I):=h
def ZS{P}(h:P:=by
 have ai:An V3 g1 23 [.int .u64 aS]:=by rw [aJ];exact ai.alloc _
 exact ai):=h
def Zj{P}(h:P:=by
 have ah:An V3 g2 23 [.int .u64 va]:=by rw [aJ];exact ah.alloc _
 exact ah):=h
def Ylp{P}(h:P:=by
 have J:Below a3.heap.size a3 ag:=by rw [a7];exact(Below.refl _ a3).alloc (Nat.le_refl _) _
 exact J):=h
def Ylu{P}(h:P:=by
 have J: ∃X:Au F a4,O=X.W:=⟨⟨O,Nat.le_trans bm.size am.size,λk I U=>(am.keep k (Nat.lt_of_lt_of_le I bm.size) U).trans (bm.block k I)⟩,rfl⟩;exact J):=h
def Ymy{P}(h:P:=by
 have I:=bq.take aO.out bg be bi bd a9 bh;have J:=Zh (aF.trans a9);have hex:=F7 (aF.trans a9);have ay:=bf.Aq a9 a2.out;have O:=Zh I;exact And.intro I (And.intro J (And.intro hex (And.intro ay O)))):=h
def Yor{P}(h:P:=by
 have an:An V3 g3 23 [.int .u64 x, .int .u64 r]:=by rw [aJ,aN];exact An.new _ _ _
 exact an):=h
def Yos{P}(h:P:=by
 have an:An az g3 23 [.int .u64 x, .int .u64 r]:=by rw [ac,aN];exact An.new _ _ _
 exact an):=h
def Ypb{P}(h:P:=by
 have an:An az g3 23 [.int .u64 x, .int .u64 r]:=by rw [ac];exact an.alloc _
 exact an):=h
def Ypm{P}(h:P:=by
 have ah:An az g2 23 [.int .u64 va]:=by rw [ac,ax];exact An.new _ _ _
 exact ah):=h
def Ypn{P}(h:P:=by
 have ah:An V3 g2 23 [.int .u64 va]:=by rw [aJ,ax];exact An.new _ _ _
 exact ah):=h
def Ypo{P}(h:P:=by
 have ai:An az g1 23 [.int .u64 aS]:=by rw [ac,aB];exact An.new _ _ _
 exact ai):=h
def Ypp{P}(h:P:=by
 have ai:An V3 g1 23 [.int .u64 aS]:=by rw [aJ,aB];exact An.new _ _ _
 exact ai):=h
def Yqd{P}(h:P:=by
 have I:=Zh (BE ((z9.set 0 (.int .u64 0)).set 1 (.int .u64 0)));exact I):=h
def Yqe{P}(h:P:=by
 have I:((x:Int)==0)=false:=by simp;omega
 have J:((x:Int) !=0)=true:=by simp;omega
 exact And.intro I J):=h
def Yqf{P}(h:P:=by
 have ai:An az g1 23 [.int .u64 aS]:=by rw [ac];exact ai.alloc _
 exact ai):=h
def Yqg{P}(h:P:=by
 have ah:An az g2 23 [.int .u64 va]:=by rw [ac];exact ah.alloc _
 exact ah):=h
def Yqq{P}(h:P:=by
 have an:=Zh an;have aY:=Zh aY;have I:=Zh aX;refine U _ _ (Ag (B:=FB F' bl) aX) ?_;clear U K aJ aN aX):=h
def Yqr{P}(h:P:=by
 have ah:=Zh ah;have aL:=Zh aL;have I:=Zh aX;refine U _ _ (Ag (B:=FB F' bl) aX) ?_;clear U K aJ ax aX):=h
def Yqs{P}(h:P:=by
 have ai:=Zh ai;have aR:=Zh aR;have I:=Zh aX;refine U _ _ (Ag (B:=FB F' bl) aX) ?_;clear U K aJ aB aX):=h
def Yrq{P}(h:P:=by
 have ai:=Zh ai;have aR:=Zh aR;have aQ:=Zh aD;exact And.intro ai (And.intro aR aQ)):=h
theorem Qs(hs:Ah w s F R H P q most last G)(bZ:A6 R)(cD:BN.A0 t)(x:Nat)(hx:x<18446744073709551616)(ak av:Nat)(cp:ak<18446744073709551616)(cF:av<18446744073709551616):
 Calls prog 16 #[.pointer (some ⟨s,0,none⟩), .int .i64 t, .int .u64 x, .agg #[.int .u64 ak, .int .u64 av]] w (Ff w s t F R H P q most last G x ak av):=by
 obtain⟨fd,h,-⟩:=hs.rd;have dA:=hs.FP;have dB:1<w.heap.size:=by
  obtain⟨_,_,_,_,_,_,_,_,_,_,_,_,_,_,_,_,_,_,_,ex⟩:=h;exact ex.2
 obtain⟨aq,aC⟩:=Zx ((w.alloc (Obj.cells #[.int .u64 ak, .int .u64 av] 31)).alloc (Obj.cells #[.int .u64 0, .int .u64 0] 31));obtain⟨cr,b3⟩:=Zx (aq.alloc (Obj.cells #[.pointer (some ⟨s,0,none⟩), .int .i64 t] 96));obtain⟨b7,bW⟩:=Zx w.heap.size;obtain⟨bs,cG⟩:=Zx (w.heap.size+1);obtain⟨b13,cs⟩:=Zx aq.heap.size;have b4:=Xa;have bJ:Below aq.heap.size aq cr:=by rw [b3];exact(Below.refl _ aq).alloc (Nat.le_refl _) _
 have bS:Below w.heap.size w cr:=b4.trans (bJ.mono b4.size);have x7:An aq b7 31 [.int .u64 ak, .int .u64 av]:=by rw [aC,bW];exact(An.new w 31 [.int .u64 ak, .int .u64 av]).alloc _
 have dC:An aq bs 31 [.int .u64 0, .int .u64 0]:=by
  rw [aC,cG];have:=An.new (w.alloc (Obj.cells #[.int .u64 ak, .int .u64 av] 31)) 31 [.int .u64 0, .int .u64 0]
  rwa [show(w.alloc (Obj.cells #[.int .u64 ak, .int .u64 av] 31)).heap.size=w.heap.size+1 by simp] at this
 have EJ:An cr b13 96 [.pointer (some ⟨s,0,none⟩), .int .i64 t]:=by rw [b3,cs];exact An.new aq _ _
 have hA:=Zh (GQ (h.below b4) cD);have J:=Hq (h.below bS) bZ ak cp;unfold G7 at J;rw [show(G6 R ak).getD ⟨#[]⟩=BG R ak from rfl] at J;obtain⟨key,ab⟩:=Zx (BG R ak);obtain⟨er,V⟩:=Zx (De R ak);rw [<-ab,<-V] at J;obtain⟨b5,bc,dD⟩:=EA;have bT:=Zh hs;have cH:=Zh h;have aO:=Zh cD;have bu:=Zh (show w.heap.size<=b7/\w.heap.size<=bs/\w.heap.size<=b13/\s<bs/\1<bs from⟨by omega,by omega,by rw [cs];exact b4.size,by omega,by omega⟩);have aU:=Zh (x7.below bJ);have aW:=Zh (dC.below bJ);have dE:=Zh EJ;have ae:=Zh bS;have b8:=Zh (And.intro aC (And.intro bW (And.intro cG (And.intro cs b3))));have dF:=Zh (And.intro dA dB);have c7:cr.cell? ⟨b7,0,none⟩=some (.int .u64 ak):=(x7.below bJ).at' (i:=0) rfl;rw [b3] at c7;clear hs h cD J ab V aC b3 bW cG cs b4 bJ bS x7 dC EJ dA dB;go_enter func16,ntmps16;go_wp2_with fail;rw [<-b8.1,<-b8.2.2.1,<-b8.2.1];refine hA.mono ?_;rintro e w' ⟨rfl,rfl⟩;go_wp2_with fail;rw [<-b8.2.2.2.2,<-b8.2.2.2.1];refine b5.mono ?_;rintro e w2 ⟨rfl,I⟩;clear c7;obtain⟨ao,aE⟩:=XX;have bK:=Zh (dE.below I);have af:=Dt;obtain⟨ey,ez⟩:=AX bK.out;have dG:=Zh (DS (cH.below af) t aO x hx);clear I aU aW dE b5 hA;go_wp2_with fail;refine dG.mono ?_;rintro e w3 ⟨v1,v2,v3,rfl,cu,cI⟩;obtain⟨eA,q1,rfl⟩:=Ae cu.r1;obtain⟨eB,eC,rfl⟩:=Ae cu.r2;obtain⟨eD,eE,rfl⟩:=Ae cu.r3;obtain⟨n1,dH⟩:=Zx ((Af R t x).keys.length);obtain⟨n2,dI⟩:=Zx ((Af R t x).Ab.length);obtain⟨n3,dJ⟩:=Zx ((Af R t x).kids.length);obtain⟨eF,dK⟩:=Zx ((Af R t x).size);rw [<-dH,<-dI,<-dJ,<-dK];obtain⟨cJ,cK⟩:=Zx (w3.alloc (Obj.cells #[.slice eA n1 q1, .slice eB n2 eC, .slice eD n3 eE, .int .u64 eF] 100));have aa:Below w2.heap.size w2 cJ:=cI.trans (by rw [cK];exact((Below.refl _ w3).alloc (Nat.le_refl _) _).mono cI.size);have dL:=Zh (ao.below aa);have z9:=Zh (aE.below aa);have dM:=Zh (bK.below aa);have al:=K8;have eG:=Zh cK;clear cI aa cu cK dH dI dJ dK ey ez ao aE bK dG af;obtain⟨bn,cL⟩:=Zx (decide (Bk R t x=0));rw [<-cL];have dN:=Zh cL;clear cL;go_upto_region 7 with (fail);rw [<-eG.out];have dO:Hid (¬(er=0/\(x=0\/bn=true))-> ∀W,Below w.heap.size w W->Ff w s t F R H P q most last G x ak av (.returned (.tuple #[.int .u64 0, .agg #[.int .u64 0, .int .u64 0], .bool false, .int .i64 8])) W):=Zh λb9 W eH => .bad (by
  rw [dD.out,dN.out] at b9;by_cases h1:De R ak=0
  . refine .inr ⟨λbM=>b9 ⟨h1, .inl bM⟩,λbM=>b9 ⟨h1, .inr (by simp [bM])⟩⟩
  . exact .inl h1) eH
 by_cases bN:er=0/\(x=0\/bn=true)
 . have dP:=Zh bN
   clear dO;go_cut [54] from 45 (λcM wd=>cM= .bool false/\wd=cJ)
   case first=>
    obtain⟨rfl,ax⟩:=bN;by_cases bU:x=0
    . subst bU
      go_wp2_with fail;go_meet
      case rel=>exact⟨rfl,rfl⟩
    . have bS:bn=true:=ax.resolve_left bU
      subst bS;obtain⟨eI,fe⟩:=Yqe;clear ax;go_wp2_with fail;go_meet
      case rel=>exact⟨rfl,rfl⟩
   case rest=>
    clear bN;obtain⟨rfl,rfl⟩:=hcut;have cb:Hid (De R ak=0):=Zh (dD.symm.trans dP.1);have bJ:Hid (x=0\/Bk R t x=0):=Zh (dP.2.imp id λbr=>by rw [dN.out] at br;exact of_decide_eq_true br);have bC:=M0 (cH.below al) bZ aO x hx key;obtain⟨eJ,eK,dQ⟩:=Li (Bv R t key 40 x 0).1;obtain⟨eL,cN⟩:=Zx ((Bv R t key 40 x 0).1.isSome);rw [dQ,<-cN] at bC;have dR:=Zh bC;have bo:=Zh cN;clear bC dQ cN;go_wp2_with fail;refine dR.mono ?_;rintro e dS ⟨rfl,cO⟩;obtain⟨a4,cP⟩:=Zx (dS.alloc (Obj.cells #[.int .u64 eJ, .int .u64 eK] 31));have Z:Below wc.heap.size wc a4:=cO.trans (by rw [cP];exact((Below.refl _ dS).alloc (Nat.le_refl _) _).mono cO.size);have ao:=Zh (dL.below Z);have aE:=Zh (z9.below Z);have bK:=Zh (dM.below Z);have aA:=OZ;have eM:=Zh cP;clear cO Z cP dR dL z9 dM;go_upto_region 10 with (fail);rw [<-eM.out]
    cases dT:eL with
    |true=>
     as_aux_lemma=>
     subst dT;have dU:=Zh (TH (bT.below aA) bZ aO x hx key ak av cp cF);obtain⟨d0,d1⟩:=AX bK.out;obtain⟨d2,d3⟩:=AX ao.out;go_wp2_with fail;refine dU.mono ?_;rintro e cv ⟨rfl,dV,cQ⟩;obtain⟨cR,cT,cU⟩:=Li (Cu R t key ak av 40 x).2;have cV: ¬F bs:=(λbr=>by have:=bT.lt br;have:=bu.2.1;omega);have ay:=aE.Aq cQ cV;have cc:=(Ad.below (F:=F) aA).trans cQ;have bw:=Zh (Df dV cc bu.2.1 ay ⟨_,rfl,λp br=>by cases br⟩ cV bu.2.2.2 (.int .u64 cR) (.int .u64 cT));obtain⟨⟨c0,c1⟩,f0,f1⟩:=CV ay;have bB:=Zh ((ay.set 0 (.int .u64 cR)).set 1 (.int .u64 cT));rw [cU];have eN:=Zh cU;clear dV cQ ay cc cV dU d0 d1 d2 d3 cU;go_wp2;obtain⟨bF,r1⟩:=AX bB.out;refine bodyPost_ret (v:= .tuple #[.int .u64 x, .agg #[.int .u64 cR, .int .u64 cT], .bool true, .int .i64 0]) (by simp [results,f16,go_sem,bF,r1]) rfl ?_;have bO:=bc.out;have eO:=eN.out;have bP:=bo.out;subst bO;rw [<-eO];exact .here cb.out bJ bP.symm bw.1 bw.2
    |false=>
     subst dT;obtain⟨n,cw⟩:=Zx (CA R t key x);have ff:n<=41:=(by rw [cw];exact W8 _ _ _ _);have cW:=Zh (Tu (cH.below (aA.trans ((Ac a4).mono aA.size))) bZ aO x hx key);rw [<-cw] at cW;have bp:=Zh cw;have dW: ¬F b13:=(λbr=>by have:=bT.lt br;have:=bu.2.2.1;omega);have bD:=(λX:Au F a4=>X.cell (bK.at' (i:=0) rfl) dW);have bE:=(λX:Au F a4=>X.cell (bK.at' (i:=1) rfl) dW);clear cw;go_upto_region 12 with (fail);refine AB (λw' => ∃X:Au F a4,w' =X.W) [] (.r 0<| .r 1<| .r 2<| .r 3<| .a 4<| .a 5<| .r 6<| .r 7<| .r 8<| .r 9<| .r 10<| .nil) (Ay _ _) ?_
     iterate 4 (refine AD ?_;go_simp)
     refine Ao _ rfl (λK U=> ?_);go_wp2_with fail;refine cW.mono ?_;rintro e cv ⟨rfl,bW⟩;have aw:Below a4.heap.size a4 cv:=(Ac a4).trans (bW.mono (Nat.le_refl _));have hex:=Ag (B:=F) aw;obtain⟨cX,bX⟩:=Yhl;have cY:=Zh (bK.below aw);have aM:=ZA;have dX:=Zh (RW (bT.below aM) t aO n (by omega));have dY :=aw;clear bW aw ao aE bK cW aA;go_wp2;refine U _ _ hex ?_;clear U K hex;have bm:=Zh dY;clear dY;refine Ao _ rfl (λK U=> ?_);go_wp2_with fail;refine dX.mono ?_;rintro e O eP;clear dX;rcases eP with ⟨st,F',R1,bl,b2,v,rfl,dZ,cZ,c8,cd,am,d4,c9,ax,d5⟩|⟨er,F',rfl,da,cd,am⟩
     ·
      as_aux_lemma=>
      have d6:s<cv.heap.size/\1<cv.heap.size:=⟨Nat.lt_of_lt_of_le dF.1 aM.size,Nat.lt_of_lt_of_le dF.2 aM.size⟩;have d7:st.length<=100000:=(by omega);have cx:=Zh (Zn aO.out bZ cZ c8 cd d4 c9 d5 d6 d7);have bC: ∀z,w.heap.size<=z-> ¬F z:=(λz h1 bM=>by have:=bT.lt bM;omega);have db:=Zh (cX.Aq am (bC _ bu.1));have v9:=Zh (bX.Aq am (bC _ bu.2.1));have d8:=Zh (cY.Aq am (bC _ bu.2.2.1));have bY:=Zh (am.not bX.lt (bC _ bu.2.1));have d9:Hid (¬FB F' bl b7):=(Zh λbr=>br.elim (am.not cX.lt (bC _ bu.1)) λce=>by have:=cX.lt;omega);have a2:Hid (¬FB F' bl bs):=(Zh λbr=>br.elim (am.not bX.lt (bC _ bu.2.1)) λce=>by have:=bX.lt;omega);have eQ:Hid (¬FB F' bl b13):=(Zh λbr=>br.elim (am.not cY.lt (bC _ bu.2.2.1)) λce=>by have:=cY.lt;omega);have dc:=Uk;have dd:Hid (w.heap.size<=bl):=Zh (Nat.le_trans aM.size c9);have de:Hid (st.length=CA R t key x):=Zh (dZ.trans bp);have df:=Zh cZ;have dg:=Zh c8;have cf:=Ylu;clear d6 d7 dZ cZ c8 cd am d4 c9 ax d5 bC;go_wp2;refine U _ _ cf ?_;clear U K cf bD bE
      iterate 5 (refine AD ?_;go_simp)
      refine AG ?_;have eR:Hid ((BN.mk [ak] [av] [] 1).Ok):=Zh ⟨λz bG=>(by rw [List.mem_singleton.1 bG];exact cp),λz bG=>(by rw [List.mem_singleton.1 bG];exact cF),λz bG=>absurd bG (by simp),show 1<18446744073709551616 by decide⟩;by_cases bU:x=0
      . subst bU
        as_aux_lemma=>
        have bD:=(λX:Au (FB F' bl) O=>X.cell (db.at' (i:=0) rfl) d9.out);have bE:=(λX:Au (FB F' bl) O=>X.cell (db.at' (i:=1) rfl) d9.out);have cg:=(λX:Au (FB F' bl) O=>X.cell (v9.at' (i:=0) rfl) a2.out);have dh:=(λX:Au (FB F' bl) O=>X.cell (v9.at' (i:=1) rfl) a2.out);go_upto_region 16 with (fail);refine AB (λw' => ∃X:Au (FB F' bl) O,w' =X.W) [11,12,13] (.r 0<| .r 1<| .r 2<| .r 4<| .r 5<| .r 9<| .two 3 (.a 6<| .r 7<| .a 8<| .r 10<| .a 11<| .a 12<| .a 13<| .nil) 6 (.a 3<| .r 7<| .a 8<| .r 10<| .a 11<| .a 12<| .a 13<| .nil)) (Ay _ _) ?_
        iterate 6 (refine AD ?_;go_simp)
        clear bD bE cg dh;refine Bf _ _ rfl rfl (λK U=> ?_) (λK U=> ?_)
        focus
         go_wp2;obtain⟨g1,aB⟩:=Zx O.heap.size;obtain⟨aG,aH⟩:=Zx ((O.alloc (Obj.cells #[.int .u64 ak] 23)).drew);rw [<-aH,<-aB];have bv:=Yjm;have ai:An aG g1 23 [.int .u64 ak]:=(by rw [aH,aB];exact BE (An.new _ _ _));have aR:O.heap.size<=g1:=(by rw [aB];exact Nat.le_refl _);have ai:=Zh ai;have aR:=Zh aR;have aP:=Zh bv;refine U _ _ (Ag (B:=FB F' bl) bv) ?_;clear U K aH aB bv;refine Ao _ rfl (λK U=> ?_);go_wp2;obtain⟨g2,ax⟩:=Zx aG.heap.size;obtain⟨az,ac⟩:=Zx (aG.alloc (Obj.cells #[.int .u64 av] 23));rw [<-ac,<-ax];have aD:=Y9;have ah:An az g2 23 [.int .u64 av]:=(by rw [ac,ax];exact An.new _ _ _);have ai:An az g1 23 [.int .u64 ak]:=(by rw [ac];exact ai.alloc _);have aL:O.heap.size<=g2:=(by rw [ax];exact aP.size);obtain⟨ai,ah,aL,aQ⟩:=Yia;refine U _ _ (Ag (B:=FB F' bl) aD) ?_;clear U K ac ax aD
        rotate_left
        focus
         go_wp2;obtain⟨g2,ax⟩:=Zx O.heap.size;obtain⟨aG,aH⟩:=Zx ((O.alloc (Obj.cells #[.int .u64 av] 23)).drew);rw [<-aH,<-ax];have bv:=Yjm;have ah:An aG g2 23 [.int .u64 av]:=(by rw [aH,ax];exact BE (An.new _ _ _));have aL:O.heap.size<=g2:=(by rw [ax];exact Nat.le_refl _);have ah:=Zh ah;have aL:=Zh aL;have aP:=Zh bv;refine U _ _ (Ag (B:=FB F' bl) bv) ?_;clear U K aH ax bv;refine Ao _ rfl (λK U=> ?_);go_wp2;obtain⟨g1,aB⟩:=Zx aG.heap.size;obtain⟨az,ac⟩:=Zx (aG.alloc (Obj.cells #[.int .u64 ak] 23));rw [<-ac,<-aB];have aD:=Y9;have ai:An az g1 23 [.int .u64 ak]:=(by rw [ac,aB];exact An.new _ _ _);have ah:An az g2 23 [.int .u64 av]:=(by rw [ac];exact ah.alloc _);have aR:O.heap.size<=g1:=(by rw [aB];exact aP.size);have ah:=Zh ah;obtain⟨ai,aR,aQ⟩:=Yrq;refine U _ _ (Ag (B:=FB F' bl) aD) ?_;clear U K ac aB aD
        all_goals
         refine AD ?_;go_simp;have ar:=cx.low (aQ.mono (Nat.le_refl _))
         as_aux_lemma=>
         obtain⟨vt,di,ci⟩:=ar.tk;have bQ: ∀{g},O.heap.size<=g-> ¬FB F' bl g:=(λ{g} h1 bM=>by have:=cx.fb g bM;have:=Nat.le_refl O.heap.size;omega);have au:=J2 ar.str aO ci ar.hN ar.J7 ar.Q0 ar.len (WJ ai ah (bQ aR) (bQ aL)) eR.out;obtain⟨pp,aK⟩:=Zx (DI R1 t st.reverse ⟨[ak],[av],[],1⟩);rw [<-aK,di] at au;obtain⟨cj,bq,bg⟩:=OT;have aF:=Zh (Ad.below (F:=FB F' bl) aQ);have bf:=Zh (v9.below aQ);clear au ar ci aK bQ;refine Ao _ rfl (λK U=> ?_);go_wp2_with fail;refine cj.mono ?_;rintro e eS ⟨v',st',be,rfl,bi,bd,a9,bh⟩;obtain⟨ck,dj,hex,ay,dk⟩:=Ymy;obtain⟨dl,dm,cl⟩:=pp;dsimp only;obtain⟨⟨c0,c1⟩,f0,f1⟩:=CV ay;have bB:=Se;have bw:=Zh (Df ck.1.str (dc.minus dj dd) bu.2.1 ay ⟨_,rfl,λp br=>by cases br⟩ bY bu.2.2.2 (.int .u64 0) (.int .u64 0));clear ck a9 bd bh ay cj bi be bf;go_wp2;refine U _ _ hex ?_;clear U K hex;refine AD ?_;go_simp;refine AA _ rfl (by decide) (λK U=> ?_);go_wp2;refine U _ _ ?_;clear U K;refine AA _ rfl (by decide) (λK U=> ?_);go_wp2;refine U _ _ ?_;clear U K;refine AA _ rfl (by decide) (λK U=> ?_);go_wp2;refine U _ _ (AG ?_);clear U K;go_wp2;obtain⟨bF,r1⟩:=AX bB.out;refine bodyPost_ret (v:= .tuple #[.int .u64 cl, .agg #[.int .u64 0, .int .u64 0], .bool false, .int .i64 0]) (by simp [results,f16,go_sem,bF,r1]) rfl ?_;obtain⟨bO,a2,bP⟩:=Zq;have dn:=bg.out;subst bO;subst a2;have bH:DU t (BG R ak) ak av R1 st.reverse 0=(dl,dm,cl):=dn.symm;have cn:=bw.1;have br:=Ff.put (w:=w) (F:=F) (x:=0) cb (.inl rfl) bP.symm de df dg (by rw [bH];exact cn) bw.2 (by rw [bH];exact dk.2);rw [bH] at br;exact br
      . have eI:((x:Int)==0)=false:=by simp;omega
        have cy:=Xv aO.out key cp cF 40 (Nat.le_refl _) O R1 st x cx (Nat.le_refl _) hx;rw [show((40-40:Nat):Int)=0 from rfl] at cy;obtain⟨p,hp⟩:=Zx (D6 t key ak av 40 R1 st.reverse x);rw [<-hp] at cy;have ea:=Zh cy;have eb:=Zh bU;have fg:=Zh bc.out;have ec:Hid (p=D6 t (BG R ak) ak av 40 R1 st.reverse x):=Zh (by rw [<-bc.out];exact hp);obtain⟨d130,d131⟩:=AX d8.out;obtain⟨d70,d71⟩:=AX db.out;clear cy hp bU;go_wp2_with fail;refine ea.mono ?_;rintro e a3 ⟨rfl,a0,aF,a5⟩;clear d130 d131 d70 d71 ea;obtain⟨R2,L2,o⟩:=p;have t9:=Zh (v9.Aq aF a2);have t13:=Zh (d8.Aq aF eQ);obtain⟨ed,ee,eT⟩:=Xq;have ef:O.heap.size<=a3.heap.size:=aF.size;have co:=Zh ef;clear a0 aF a5 ef;rcases o with _|⟨aS,va,r⟩
        . simp only [Rt]
          as_aux_lemma=>
          go_upto_region 18 with (fail);obtain⟨ag,a7⟩:=Zx (a3.alloc (Obj.cells #[.bool false, .int .u64 0, .int .u64 0, .int .u64 0] 109));obtain⟨bV,bR⟩:=Zx a3.heap.size;rw [<-a7,<-bR];have J:=Ylp;have bI:An ag bV 109 [.bool false, .int .u64 0, .int .u64 0, .int .u64 0]:=(by rw [a7,bR];exact An.new a3 _ _);have aT:=t9.below J;have eU:=bI.at' (i:=0) rfl;obtain⟨bD,bE⟩:=Yio;obtain⟨⟨c0,c1⟩,f0,f1⟩:=CV aT;have bB:=Yli;have bw:=Zh (Df (ed.low (J.mono co)).str (dc.minus (ee.trans (Ad.below J)) dd) bu.2.1 aT ⟨_,rfl,λp br=>by cases br⟩ bY bu.2.2.2 (.int .u64 0) (.int .u64 0));clear a7 bR J bI aT;go_upto_region 19 with (fail);refine AB (λw' => ∃X:Au (λ_=>False) ag,w' =X.W) [3,4,5] (.r 0<| .r 1<| .r 2<| .a 3<| .a 4<| .a 5<| .nil) (Ay _ _) ?_
          iterate 3 (refine AD ?_;go_simp)
          clear bD bE;refine AA _ rfl (by decide) (λK U=> ?_);go_wp2;refine U _ _ ?_;clear U K;refine AA _ rfl (by decide) (λK U=> ?_);go_wp2;refine U _ _ ?_;clear U K;refine AA _ rfl (by decide) (λK U=> ?_);go_wp2;refine U _ _ (AG ?_);clear U K;go_wp2;obtain⟨bF,r1⟩:=AX bB.out;refine bodyPost_ret (v:= .tuple #[.int .u64 x, .agg #[.int .u64 0, .int .u64 0], .bool false, .int .i64 0]) (by simp [results,f16,go_sem,bF,r1]) rfl ?_;obtain⟨bO,dp,bP⟩:=Zq;subst bO;subst dp;have bH:DU t (BG R ak) ak av R1 st.reverse x=(R2,L2,x):=by
           unfold DU;rw [if_neg eb.out,<-ec.out];rfl
          have cn:=bw.1.below (Ac _);have br:=Ff.put (w:=w) (F:=F) (x:=x) cb bJ bP.symm de df dg (by rw [bH];exact cn) (bw.2.trans (Ad.below (Ac _))) (by rw [bH];exact hx);rw [bH] at br;exact br
        . simp only [Rt]
          go_upto_region 18 with (fail);obtain⟨ag,a7⟩:=Zx (a3.alloc (Obj.cells #[.bool true, .int .u64 aS, .int .u64 va, .int .u64 r] 109));obtain⟨bV,bR⟩:=Zx a3.heap.size;rw [<-a7,<-bR];have J:=Ylp;have bI:An ag bV 109 [.bool true, .int .u64 aS, .int .u64 va, .int .u64 r]:=(by rw [a7,bR];exact An.new a3 _ _);have bj:=ed.low (J.mono co);obtain⟨eg,eh,ei⟩:=eT.out aS va r rfl;have ej:Hid (∀W,Below ag.heap.size ag W-> ∀y,y<18446744073709551616->Calls prog 49 #[.agg #[.pointer (some ⟨s,0,none⟩), .int .i64 t], .int .u64 (y:Nat)] W λe w' =>e= .returned (.int .i64 (Cq R2 t y))/\Below W.heap.size W w'):=Zh λW aI y bA=>by
           exact Ygg
          have dq: ∀y,(Af R2 t y).size<18446744073709551616:=λy=>by
           exact Ydq
          obtain⟨u1,dr,fh,ek,ds⟩:=VV R2 t x r (dq x) (dq r);obtain⟨el,dt⟩:=Zx (ED R2 t x r);rw [<-dt] at ek ds;obtain⟨du,dv⟩:=Zx (Cq R2 t x);obtain⟨z2,dw⟩:=Zx (Cq R2 t r);rw [<-dv,<-dw] at dr;obtain⟨z3,cz⟩:=Zx (wrap64 (du+z2));rw [<-cz] at dr;have eV:IntKind.i64.wrap (du+z2)=z3:=(by rw [cz];exact IntWalk.i64_left _);have eW :wrap64 (du+z2)=z3:=cz.symm;have dx:=ej.out ag.drew (Ac ag) x hx;rw [<-dv] at dx;have eX:=Zh dx;have eY:Hid (∀W,Below ag.heap.size ag W->Calls prog 49 #[.agg #[.pointer (some ⟨s,0,none⟩), .int .i64 t], .int .u64 r] W λe w' =>e= .returned (.int .i64 z2)/\Below W.heap.size W w'):=(Zh λW aI=>by rw [dw];exact ej.out W aI r ei);have eZ:=Zh dt;have e0:Hid ((BN.mk [aS] [va] [x,r] el).Ok):=Zh ⟨λz bG=>(by rw [List.mem_singleton.1 bG];exact eg),λz bG=>(by rw [List.mem_singleton.1 bG];exact eh),λz bG=>(by rcases List.mem_cons.1 bG with br|br;rw [br];exact hx;rw [List.mem_singleton.1 br];exact ei),ds⟩;have aT:=Zh (t9.below J);have bb:=t13.below J;have e1:=Zh bI;have e2:=Zh bj;have b5:=Zh J;have eU:=bI.at' (i:=0) rfl;have bD:=Yjr;have bE:=(λX:Au (λ_=>False) ag=>X.cell (bb.at' (i:=1) rfl) (λh=>h));have cg:=(λX:Au (λ_=>False) ag=>X.cell (bI.at' (i:=3) rfl) (λh=>h));have e3:Hid (a3.heap.size<=bV):=Zh (Nat.le_of_eq bR.symm);clear dv dw cz dt dx dq bj a7 bR J bI bb eg eh ds;go_upto_region 20 with (fail);refine AB (λw' => ∃X:Au (λ_=>False) ag,w' =X.W) [6,7,8,9,10] (.r 0<| .r 1<| .r 3<| .r 4<| .r 5<| .a 2<| .a 6<| .a 7<| .a 8<| .a 9<| .a 10<| .nil) (Ay _ _) ?_
          iterate 5 (refine AD ?_;go_simp)
          clear bD bE cg;refine Ao _ rfl (λK U=> ?_);go_wp2_with fail;refine eX.mono ?_;rintro e em ⟨rfl,en⟩;have cB:Below ag.heap.size ag em:=(Ac ag).trans (en.mono (Nat.le_refl _));have hex:=Ag (B:=λ_=>False) cB;have e4:=Zh (eY em cB);have eo:=Zh cB;clear en cB;go_wp2;refine U _ _ hex ?_;clear U K hex;refine AA _ rfl (by decide) (λK U=> ?_);go_wp2_with fail;refine e4.mono ?_;rintro e aj ⟨rfl,ep⟩;have eq:Below ag.heap.size ag aj:=eo.trans (ep.mono eo.size);have a1:=Zh eq;clear ep eq;go_wp2;refine U _ _ ?_;clear U K;refine AA _ rfl (by decide) (λK U=> ?_);go_wp2;refine U _ _ ?_;clear U K;refine AA _ rfl (by decide) (λK U=> ?_);go_wp2;refine U _ _ ?_;clear U K;refine AA _ rfl (by decide) (λK U=> ?_);go_wp2;refine U _ _ ?_;clear U K;refine AA _ rfl (by decide) (λK U=> ?_);go_wp2;refine U _ _ (AG ?_);clear U K;have ba:O.heap.size<=ag.heap.size:=Nat.le_trans co b5.size;have es:=Zh (e2.low (a1.mono ba));have et:=Yph;have e5:=Zh ((ee.trans (Ad.below b5)).trans (Ad.below a1));have v9:=Zh (aT.below a1);have bI:=Zh (e1.below a1);have cC: ¬FB F' bl bV:=λbr=>by
           have ce:=cx.fb bV br;have:bV<O.heap.size:=ce;have:=co.out;exact absurd ce (Nat.not_lt.2 (Nat.le_trans co e3))
          clear ba;have bD:=(λX:Au (FB F' bl) aj=>X.cell (bI.at' (i:=1) rfl) cC);have bE:=(λX:Au (FB F' bl) aj=>X.cell (bI.at' (i:=2) rfl) cC);have cg:=(λX:Au (FB F' bl) aj=>X.cell (bI.at' (i:=3) rfl) cC);have dh:=(λX:Au (FB F' bl) aj=>X.cell (v9.at' (i:=0) rfl) a2.out);have e6:=(λX:Au (FB F' bl) aj=>X.cell (v9.at' (i:=1) rfl) a2.out);go_upto_region 21 with (fail);refine AB (λw' => ∃X:Au (FB F' bl) aj,w' =X.W) [18,19,20] (.r 0<| .r 1<| .r 2<| .r 3<| .r 5<| .r 6<| .r 7<| .r 9<| .r 10<| .r 11<| .r 13<| .r 16<| .three 4 (.two 8 (.a 12<| .r 14<| .a 15<| .r 17<| .a 18<| .a 19<| .a 20<| .nil) 12 (.a 8<| .r 14<| .a 15<| .r 17<| .a 18<| .a 19<| .a 20<| .nil)) 8 (.two 4 (.a 12<| .r 14<| .a 15<| .r 17<| .a 18<| .a 19<| .a 20<| .nil) 12 (.a 4<| .r 14<| .a 15<| .r 17<| .a 18<| .a 19<| .a 20<| .nil)) 12 (.two 4 (.a 8<| .r 14<| .a 15<| .r 17<| .a 18<| .a 19<| .a 20<| .nil) 8 (.a 4<| .r 14<| .a 15<| .r 17<| .a 18<| .a 19<| .a 20<| .nil))) (Ay _ _) ?_
          iterate 12 (refine AD ?_;go_simp)
          clear bD bE cg dh e6 cC dr ek eV eW;refine G4 _ _ _ rfl rfl rfl (λK U=> ?_) (λK U=> ?_) (λK U=> ?_)
          focus
           go_wp2;obtain⟨g1,aB⟩:=Zx aj.heap.size;obtain⟨aG,aH⟩:=Zx ((aj.alloc (Obj.cells #[.int .u64 aS] 23)).drew);rw [<-aH,<-aB];have bv:=Yjn;have ai:An aG g1 23 [.int .u64 aS]:=(by rw [aH,aB];exact BE (An.new _ _ _));have aR:aj.heap.size<=g1:=(by rw [aB];exact Nat.le_refl _);have ai:=Zh ai;have aR:=Zh aR;have aP:=Zh bv;refine U _ _ (Ag (B:=FB F' bl) bv) ?_;clear U K aH aB bv;refine Bf _ _ rfl rfl (λK U=> ?_) (λK U=> ?_)
           focus
            go_wp2;obtain⟨g2,ax⟩:=Zx aG.heap.size;obtain⟨az,ac⟩:=Zx (aG.alloc (Obj.cells #[.int .u64 va] 23));rw [<-ac,<-ax];have aD:=V9;have ah:=Ypm;have ai:=Yqf;have aL:aj.heap.size<=g2:=(by rw [ax];exact aP.size);obtain⟨ai,ah,aL,aQ⟩:=Yia;refine U _ _ (Ag (B:=FB F' bl) aD) ?_;clear U K ac ax aD;refine Ao _ rfl (λK U=> ?_);go_wp2;obtain⟨g3,aN⟩:=Zx az.heap.size;obtain⟨V3,aJ⟩:=Zx (az.alloc (Obj.cells #[.int .u64 x, .int .u64 r] 23));rw [<-aJ,<-aN];have aX:=W4;have an:=Yor;have ai:=ZS;have ah:=Zj;have aY:aj.heap.size<=g3:=(by rw [aN];exact aQ.size);have ai:=Zh ai;have ah:=Zh ah;have an:=Zh an;have aY:=Zh aY;have hB3H:=Zh aX;refine U _ _ (Ag (B:=FB F' bl) aX) ?_;clear U K aJ aN aX
           rotate_left
           focus
            go_wp2;obtain⟨g3,aN⟩:=Zx aG.heap.size;obtain⟨az,ac⟩:=Zx (aG.alloc (Obj.cells #[.int .u64 x, .int .u64 r] 23));rw [<-ac,<-aN];have aD:=V9;have an:=Yos;have ai:=Yqf;have aY:aj.heap.size<=g3:=(by rw [aN];exact aP.size);have ai:=Zh ai;have an:=Zh an;have aY:=Zh aY;have aQ:=Zh aD;refine U _ _ (Ag (B:=FB F' bl) aD) ?_;clear U K ac aN aD;refine Ao _ rfl (λK U=> ?_);go_wp2;obtain⟨g2,ax⟩:=Zx az.heap.size;obtain⟨V3,aJ⟩:=Zx (az.alloc (Obj.cells #[.int .u64 va] 23));rw [<-aJ,<-ax];have aX:=W4;have ah:=Ypn;have ai:=ZS;have an:=ZH;have aL:aj.heap.size<=g2:=(by rw [ax];exact aQ.size);have ai:=Zh ai;have an:=Zh an;have ah:=Zh ah;have aL:=Zh aL;have hB3H:=Zh aX;refine U _ _ (Ag (B:=FB F' bl) aX) ?_;clear U K aJ ax aX
          rotate_left 2
          focus
           go_wp2;obtain⟨g2,ax⟩:=Zx aj.heap.size;obtain⟨aG,aH⟩:=Zx ((aj.alloc (Obj.cells #[.int .u64 va] 23)).drew);rw [<-aH,<-ax];have bv:=Yjn;have ah:An aG g2 23 [.int .u64 va]:=(by rw [aH,ax];exact BE (An.new _ _ _));have aL:aj.heap.size<=g2:=(by rw [ax];exact Nat.le_refl _);have ah:=Zh ah;have aL:=Zh aL;have aP:=Zh bv;refine U _ _ (Ag (B:=FB F' bl) bv) ?_;clear U K aH ax bv;refine Bf _ _ rfl rfl (λK U=> ?_) (λK U=> ?_)
           focus
            go_wp2;obtain⟨g1,aB⟩:=Zx aG.heap.size;obtain⟨az,ac⟩:=Zx (aG.alloc (Obj.cells #[.int .u64 aS] 23));rw [<-ac,<-aB];have aD:=V9;have ai:=Ypo;have ah:=Yqg;have aR:aj.heap.size<=g1:=(by rw [aB];exact aP.size);have ah:=Zh ah;obtain⟨ai,aR,aQ⟩:=Yrq;refine U _ _ (Ag (B:=FB F' bl) aD) ?_;clear U K ac aB aD;refine Ao _ rfl (λK U=> ?_);go_wp2;obtain⟨g3,aN⟩:=Zx az.heap.size;obtain⟨V3,aJ⟩:=Zx (az.alloc (Obj.cells #[.int .u64 x, .int .u64 r] 23));rw [<-aJ,<-aN];have aX:=W4;have an:=Yor;have ah:=Zj;have ai:=ZS;have aY:aj.heap.size<=g3:=(by rw [aN];exact aQ.size);have ah:=Zh ah;have ai:=Zh ai;have an:=Zh an;have aY:=Zh aY;have hB3H:=Zh aX;refine U _ _ (Ag (B:=FB F' bl) aX) ?_;clear U K aJ aN aX
           rotate_left
           focus
            go_wp2;obtain⟨g3,aN⟩:=Zx aG.heap.size;obtain⟨az,ac⟩:=Zx (aG.alloc (Obj.cells #[.int .u64 x, .int .u64 r] 23));rw [<-ac,<-aN];have aD:=V9;have an:=Yos;have ah:=Yqg;have aY:aj.heap.size<=g3:=(by rw [aN];exact aP.size);have ah:=Zh ah;have an:=Zh an;have aY:=Zh aY;have aQ:=Zh aD;refine U _ _ (Ag (B:=FB F' bl) aD) ?_;clear U K ac aN aD;refine Ao _ rfl (λK U=> ?_);go_wp2;obtain⟨g1,aB⟩:=Zx az.heap.size;obtain⟨V3,aJ⟩:=Zx (az.alloc (Obj.cells #[.int .u64 aS] 23));rw [<-aJ,<-aB];have aX:=W4;have ai:=Ypp;have ah:=Zj;have an:=ZH;have aR:aj.heap.size<=g1:=(by rw [aB];exact aQ.size);have ah:=Zh ah;have an:=Zh an;have ai:=Zh ai;have aR:=Zh aR;have hB3H:=Zh aX;refine U _ _ (Ag (B:=FB F' bl) aX) ?_;clear U K aJ aB aX
          rotate_left 2
          focus
           go_wp2;obtain⟨g3,aN⟩:=Zx aj.heap.size;obtain⟨aG,aH⟩:=Zx ((aj.alloc (Obj.cells #[.int .u64 x, .int .u64 r] 23)).drew);rw [<-aH,<-aN];have bv:=Yjn;have an:An aG g3 23 [.int .u64 x, .int .u64 r]:=(by rw [aH,aN];exact BE (An.new _ _ _));have aY:aj.heap.size<=g3:=(by rw [aN];exact Nat.le_refl _);have an:=Zh an;have aY:=Zh aY;have aP:=Zh bv;refine U _ _ (Ag (B:=FB F' bl) bv) ?_;clear U K aH aN bv;refine Bf _ _ rfl rfl (λK U=> ?_) (λK U=> ?_)
           focus
            go_wp2;obtain⟨g1,aB⟩:=Zx aG.heap.size;obtain⟨az,ac⟩:=Zx (aG.alloc (Obj.cells #[.int .u64 aS] 23));rw [<-ac,<-aB];have aD:=V9;have ai:=Ypo;have an:=Ypb;have aR:aj.heap.size<=g1:=(by rw [aB];exact aP.size);have an:=Zh an;obtain⟨ai,aR,aQ⟩:=Yrq;refine U _ _ (Ag (B:=FB F' bl) aD) ?_;clear U K ac aB aD;refine Ao _ rfl (λK U=> ?_);go_wp2;obtain⟨g2,ax⟩:=Zx az.heap.size;obtain⟨V3,aJ⟩:=Zx (az.alloc (Obj.cells #[.int .u64 va] 23));rw [<-aJ,<-ax];have aX:=W4;have ah:=Ypn;have an:=ZH;have ai:=ZS;have aL:aj.heap.size<=g2:=(by rw [ax];exact aQ.size);have an:=Zh an;have ai:=Zh ai;have ah:=Zh ah;have aL:=Zh aL;have hB3H:=Zh aX;refine U _ _ (Ag (B:=FB F' bl) aX) ?_;clear U K aJ ax aX
           rotate_left
           focus
            go_wp2;obtain⟨g2,ax⟩:=Zx aG.heap.size;obtain⟨az,ac⟩:=Zx (aG.alloc (Obj.cells #[.int .u64 va] 23));rw [<-ac,<-ax];have aD:=V9;have ah:=Ypm;have an:=Ypb;have aL:aj.heap.size<=g2:=(by rw [ax];exact aP.size);have an:=Zh an;have ah:=Zh ah;have aL:=Zh aL;have aQ:=Zh aD;refine U _ _ (Ag (B:=FB F' bl) aD) ?_;clear U K ac ax aD;refine Ao _ rfl (λK U=> ?_);go_wp2;obtain⟨g1,aB⟩:=Zx az.heap.size;obtain⟨V3,aJ⟩:=Zx (az.alloc (Obj.cells #[.int .u64 aS] 23));rw [<-aJ,<-aB];have aX:=W4;have ai:=Ypp;have an:=ZH;have ah:=Zj;have aR:aj.heap.size<=g1:=(by rw [aB];exact aQ.size);have an:=Zh an;have ah:=Zh ah;have ai:=Zh ai;have aR:=Zh aR;have hB3H:=Zh aX;refine U _ _ (Ag (B:=FB F' bl) aX) ?_;clear U K aJ aB aX
          all_goals
           all_goals
            refine AD ?_;go_simp;have ar:=es.low (hB3H.mono et)
            as_aux_lemma=>
            obtain⟨vt,di,ci⟩:=ar.tk;have bQ: ∀{g},aj.heap.size<=g-> ¬FB F' bl g:=(λ{g} h1 bM=>by have:=es.fb g bM;have:=et.out;omega);have au:=J2 ar.str aO ci ar.hN ar.J7 ar.Q0 ar.len (Xy ai ah an (bQ aR) (bQ aL) (bQ aY)) e0.out;obtain⟨pp,aK⟩:=Zx (DI R2 t L2.reverse.reverse ⟨[aS],[va],[x,r],el⟩);rw [<-aK,di] at au;obtain⟨cj,bq,bg⟩:=OT;have aF:=Zh (Ad.below (F:=FB F' bl) hB3H);have bf:=Zh (v9.below hB3H);clear au ar ci aK bQ;refine Ao _ rfl (λK U=> ?_);go_wp2_with fail;refine cj.mono ?_;rintro e eS ⟨v',st',be,rfl,bi,bd,a9,bh⟩;obtain⟨ck,dj,hex,ay,dk⟩:=Ymy;obtain⟨dl,dm,cl⟩:=pp;dsimp only;obtain⟨⟨c0,c1⟩,f0,f1⟩:=CV ay;have bB:=Se;have bw:=Zh (Df ck.1.str (dc.minus (e5.trans dj) dd) bu.2.1 ay ⟨_,rfl,λp br=>by cases br⟩ bY bu.2.2.2 (.int .u64 0) (.int .u64 0));clear ck a9 bd bh ay cj bi be bf;go_wp2;refine U _ _ hex ?_;clear U K hex;refine AD ?_;go_simp;refine AA _ rfl (by decide) (λK U=> ?_);go_wp2;refine U _ _ ?_;clear U K;refine AA _ rfl (by decide) (λK U=> ?_);go_wp2;refine U _ _ ?_;clear U K;refine AA _ rfl (by decide) (λK U=> ?_);go_wp2;refine U _ _ (AG ?_);clear U K;go_wp2;obtain⟨bF,r1⟩:=AX bB.out;refine bodyPost_ret (v:= .tuple #[.int .u64 cl, .agg #[.int .u64 0, .int .u64 0], .bool false, .int .i64 0]) (by simp [results,f16,go_sem,bF,r1]) rfl ?_;obtain⟨bO,dp,bP⟩:=Zq;have dn:=bg.out;subst bO;subst dp;have bH:DU t (BG R ak) ak av R1 st.reverse x=(dl,dm,cl):=by
             unfold DU;rw [if_neg eb.out,<-ec.out,dn,List.reverse_reverse,eZ.out];rfl
            have cn:=bw.1;have br:=Ff.put (w:=w) (F:=F) (x:=x) cb bJ bP.symm de df dg (by rw [bH];exact cn) bw.2 (by rw [bH];exact dk.2);rw [bH] at br;exact br
     ·
      as_aux_lemma=>
      have bY: ¬F' bs:=am.not bX.lt (λbr=>by have:=bT.lt br;have:=bu.2.1;omega);have v9:=Zh (bX.Aq am (λbr=>by have:=bT.lt br;have:=bu.2.1;omega));have eu:Hid (er≠0):=Zh (by rcases da with br|br<;>omega)
      have cc:=(Ad.below (F:=F) aM).trans am;have bw:=Zh (Df cd cc bu.2.1 v9 ⟨_,rfl,λp br=>by cases br⟩ bY bu.2.2.2 (.int .u64 0) (.int .u64 0));have e7:=Zh da;have e8:((er:Int)==0)=false:=(by have:=eu.out;simp;omega);have e9:((er:Int) !=0)=true:=(by have:=eu.out;simp;omega);have cf:=Ylu;clear cd am cc bY da;go_wp2;refine U _ _ cf ?_;clear U K cf bD bE
      iterate 5 (refine AD ?_;go_simp)
      refine AG ?_;obtain⟨⟨c0,c1⟩,f0,f1⟩:=CV v9.out;have bB:=Zh (BE ((v9.set 0 (.int .u64 0)).set 1 (.int .u64 0)));have ev: ∃X:Au (λz=>z=bs) O,((O.setCell ⟨bs,0,none⟩ (.int .u64 0)).setCell ⟨bs,1,none⟩ (.int .u64 0)).drew=X.W/\X.W.cell? ⟨bs,0,none⟩=some (.int .u64 0)/\X.W.cell? ⟨bs,1,none⟩=some (.int .u64 0):=by
       obtain⟨X,dy⟩:=Ck (Bj (B:=λz=>z=bs) (p:=⟨bs,1,none⟩) (Bj (B:=λz=>z=bs) (p:=⟨bs,0,none⟩) (Ag (Below.refl _ O)) rfl (.int .u64 0)) rfl (.int .u64 0)) (Ac _);exact⟨X,dy,by rw [<-dy];exact bB.at' (i:=0) rfl,by rw [<-dy];exact bB.at' (i:=1) rfl⟩
      have fa:=Zh ev;have ew: ∃X:Au (λz=>z=bs) O,{ O with drawn:=O.drawn+1 }=X.W/\X.W.cell? ⟨bs,0,none⟩=some (.int .u64 0)/\X.W.cell? ⟨bs,1,none⟩=some (.int .u64 0):=⟨⟨{ O with drawn:=O.drawn+1 },Nat.le_refl _,λ_ _ _=>rfl⟩,rfl,c0,c1⟩;have fc:=Zh ew;clear ev ew;go_upto_region 14 with (fail);refine AB (λw' => ∃X:Au (λz=>z=bs) O,w' =X.W/\X.W.cell? ⟨bs,0,none⟩=some (.int .u64 0)/\X.W.cell? ⟨bs,1,none⟩=some (.int .u64 0)) [] (.r 0<| .r 1<| .r 2<| .a 3<| .r 4<| .r 5<| .nil) fc ?_
      iterate 3 (refine Eu _ _ rfl rfl (by rintro _ ⟨X,rfl,h0,h1⟩;go_simp;exact rfl) ?_;go_simp)
      refine Ao _ rfl (λK U=> ?_);go_wp2;refine U _ _ fa ?_;clear U K
      iterate 2 (refine Eu _ _ rfl rfl (by rintro _ ⟨X,rfl,h0,h1⟩;go_simp;exact rfl) ?_;go_simp)
      refine AG ?_;go_wp2;obtain⟨bF,r1⟩:=AX bB.out;refine bodyPost_ret (v:= .tuple #[.int .u64 0, .agg #[.int .u64 0, .int .u64 0], .bool false, .int .i64 er]) (by simp [results,f16,go_sem,bF,r1]) rfl ?_;obtain⟨bO,a2,bP⟩:=Zq;have bz:=e7.out;subst bO;subst a2;exact .full cb bJ bP.symm bz (bw.1.below (Ac _)) (bw.2.trans (Ad.below (Ac _)))
 . have b9:=Zh (dO bN)
   go_cut [54] from 45 (λcM wd=>cM= .bool true/\wd=cJ)
   case first=>
    by_cases dz:er=0
    . have bU: ¬x=0:=λbr=>bN ⟨dz, .inl br⟩
      have bS:bn=false:=(by cases bn with|false=>rfl|true=>exact absurd ⟨dz, .inr rfl⟩ bN);subst bS dz;obtain⟨_,_⟩:=Yqe;clear bN;go_wp2_with fail;go_meet
      case rel=>exact⟨rfl,rfl⟩
    . have e8:((er:Int)==0)=false:=by simp;omega
      have e9:((er:Int) !=0)=true:=(by simp;omega);clear bN;go_wp2_with fail;go_meet
      case rel=>exact⟨rfl,rfl⟩
   case rest=>
    clear bN;obtain⟨rfl,rfl⟩:=hcut;have bD:=(λX:Au (λ_=>False) wc=>X.cell (z9.at' (i:=0) rfl) (λh=>h));have bE:=(λX:Au (λ_=>False) wc=>X.cell (z9.at' (i:=1) rfl) (λh=>h));obtain⟨⟨c0,c1⟩,f0,f1⟩:=CV z9.out;have bw:=Zh (b9 _ ((al.setCell (p:=⟨bs,0,none⟩) bu.2.1 (.int .u64 0)).setCell (p:=⟨bs,1,none⟩) bu.2.1 (.int .u64 0)).drew);have bB:=Yqd;go_upto_region 8 with (fail);refine AB (λw' => ∃X:Au (λ_=>False) wc,w' =X.W) [2,3,4] (.r 0<| .r 1<| .a 2<| .a 3<| .a 4<| .nil) (Ay _ _) ?_
    iterate 2 (refine AD ?_;go_simp)
    clear bD bE;refine AA _ rfl (by decide) (λK U=> ?_);go_wp2;refine U _ _ ?_;clear U K;refine AA _ rfl (by decide) (λK U=> ?_);go_wp2;refine U _ _ ?_;clear U K;refine AA _ rfl (by decide) (λK U=> ?_);go_wp2;refine U _ _ (AG ?_);clear U K;go_wp2;obtain⟨bF,r1⟩:=AX bB.out;refine bodyPost_ret (v:= .tuple #[.int .u64 0, .agg #[.int .u64 0, .int .u64 0], .bool false, .int .i64 8]) (by simp [results,f16,go_sem,bF,r1]) rfl bw.out
end
