/- A part. -/
import Derived.Test.YtiopopoohglepaaGreatDoorVMxf
set_option linter.all false
set_option maxRecDepth 100000
set_option maxHeartbeats 8000000
namespace Go.Proofs.YtiopopoohglepaaGreatDoor
open Go.Proofs.Tryz
open Go.RowKit Go.Shelf
variable {F' FF:Nat->Prop}{G P a b g1 g2 last most q s t x y:Nat}{H':List Nat}{W w:World}
inductive Fc(w:World)(s t:Nat)(F:Nat->Prop)(R:Zr)(H:List Nat)(P q most last G x ak av:Nat):Ending->World->Prop
 |bad {w' :World} (h:C8 R ak≠0\/(x≠0/\Bm R t x≠0)) (hb:Below w.heap.size w w'):Fc w s t F R H P q most last G x ak av (.returned (.tuple #[.int .u64 0, .agg #[.int .u64 0, .int .u64 0], .bool false, .int .i64 8])) w'
 |here {w' :World} (h0:C8 R ak=0) (h1:x=0\/Bm R t x=0) (hf:(Bx R t (BH R ak) 40 x 0).1.isSome=true) (hs:Am w' s F (Ct R t (BH R ak) ak av 40 x).1 H P q most last G) (hT:Ad w F w' F):
  Fc w s t F R H P q most last G x ak av (.returned (.tuple #[.int .u64 x,SO (Ct R t (BH R ak) ak av 40 x).2, .bool true, .int .i64 0])) w'
 |full {w' :World} {er:Nat} {F' :Nat->Prop} (h0:C8 R ak=0) (h1:x=0\/Bm R t x=0) (hf:(Bx R t (BH R ak) 40 x 0).1.isSome=false)
  (he:(er=3/\q<(P+Cz R t (BH R ak) x*CC (6*t+2))*64)\/(er=10/\(most<H.length+Cz R t (BH R ak) x\/last<G+Cz R t (BH R ak) x)))
  (hs:Am w' s F' R H (P+Cz R t (BH R ak) x*CC (6*t+2)) q most last (G+Cz R t (BH R ak) x)) (hT:Ad w F w' F'):
  Fc w s t F R H P q most last G x ak av (.returned (.tuple #[.int .u64 0, .agg #[.int .u64 0, .int .u64 0], .bool false, .int .i64 er])) w'
 |put {w' :World} {st:List Nat} {R1:Zr} {F' :Nat->Prop} (h0:C8 R ak=0) (h1:x=0\/Bm R t x=0) (hf:(Bx R t (BH R ak) 40 x 0).1.isSome=false)
  (hl:st.length=Cz R t (BH R ak) x) (hfr:Bt.Dx R R1 t st) (h64: ∀z∈st,R1 z=some (BN.zero.wd t)/\z<18446744073709551616)
  (hs:Am w' s F' (DT t (BH R ak) ak av R1 st.reverse x).1 (st.reverse++H) (P+Cz R t (BH R ak) x*CC (6*t+2)) q most last (G+Cz R t (BH R ak) x)) (hT:Ad w F w' F')
  (hn:(DT t (BH R ak) ak av R1 st.reverse x).2.2<18446744073709551616):
  Fc w s t F R H P q most last G x ak av (.returned (.tuple #[.int .u64 ((DT t (BH R ak) ak av R1 st.reverse x).2.2:Nat), .agg #[.int .u64 0, .int .u64 0], .bool false, .int .i64 0])) w'
theorem KS(R:Zr)(t:Nat)(key:ByteArray): ∀(f x:Nat),(Cb R t key f x).length<=f
 |0,_=>Nat.le_refl _
 |f+1,x=>by
  unfold Cb
  split
  . simp
  . rw [List.length_cons]
    split
    . simp
    . have:=KS R t key f ((Ag R t x).kids.getD (DJ R (Ag R t x).keys key) 0)
      omega
theorem WI(R:Zr)(t:Nat)(key:ByteArray)(x:Nat):Cz R t key x<=41:=by
 unfold Cz
 split
 . omega
 . have h1:=Bt.RY (Cb R t key 40 x)
   have d:=KS R t key 40 x;omega
theorem YW{N bl b2:Nat}{d:World}{R R1:Zr}{v:Value}{st:List Nat}(U:BN.A1 t)(V:Ba R)(Z:Bt.Dx R R1 t st)(O: ∀x∈st,R1 x=some (BN.zero.wd t)/\x<18446744073709551616)
 (hs:Am d s F' R1 H' P q most last G) (I:Mk N d s t F' bl b2 v st) (aa:N<=bl) (ab:bl≠b2) (hN:s<N/\1<N) (ac:st.length<=100000):Ha N d.heap.size d s t F' bl b2 v.ownBlock H' P q most last G R1 st where
 str:=hs
 lo:=hs.lo
 tk:=⟨v,rfl,I.tk ab⟩
 l1:=I.bx.lt
 l2:=I.Jv.lt
 l3:=λk ae=>Bs I.row k ae
 sh:=λy ws J=>by
  by_cases hm:y∈st
  . rw [(O y hm).1] at J
    cases J
    rw [BN.B6];have:=U.2;omega
  . rw [Z.old y hm] at J
    exact V y ws J
 QS:=λx hx=>(O x hx).2
 len:=ac
 hN:=hN
 J5:=aa
def Ydk{P}(h:P:=by
 obtain rfl:I=k:=Option.some.inj O;refine⟨h1.1,h1.2,V,λp d=> ?_⟩;rw [U.at' (i:=0) J] at d;exact Z p (Option.some.inj d)):=h
theorem C9{I:Nat}{F:Nat->Prop}{R' :Zr}{vs:List Value}(aa:Am W s F' R' H' P q most last G)(ab:Ad w F W F')(ac:w.heap.size<=I)(U:An W I 31 vs)(ae: ∃v,vs[0]? =some v/\ ∀p,v≠ .pointer p)(V: ¬F' I)(h1:s<I/\1<I)(c d:Value):
 Am ((W.setCell ⟨I,0,none⟩ c).setCell ⟨I,1,none⟩ d) s F' R' H' P q most last G/\Ad w F ((W.setCell ⟨I,0,none⟩ c).setCell ⟨I,1,none⟩ d) F' :=by
 obtain⟨v0,J,Z⟩:=ae;refine⟨aa.grown (Bh (A3 W I 0 _) (A3 _ I 1 _)) (λk O=> ?_),ab.minus ((Ad.GK W F' I 0 _).trans (Ad.GK _ F' I 1 _)) ac⟩;exact Ydk
theorem Ij(h:An W b 23 [.int .u64 x])(d: ¬FF b):AJ W FF (some ⟨b,0,none⟩) (AG [x]):=
 .inr ⟨b,0,rfl,h.lt,d,λj u hu=>by
  rw [Nat.zero_add];exact h.at' hu⟩
theorem S1(h:An W b 23 [.int .u64 x, .int .u64 y])(d: ¬FF b):AJ W FF (some ⟨b,0,none⟩) (AG [x,y]):=
 .inr ⟨b,0,rfl,h.lt,d,λj u hu=>by
  rw [Nat.zero_add];exact h.at' hu⟩
theorem Wn(h1:An W g1 23 [.int .u64 a])(d:An W g2 23 [.int .u64 b])(f1: ¬FF g1)(f2: ¬FF g2):
 CX W FF (.agg #[.slice (some ⟨g1,0,none⟩) 1 1, .slice (some ⟨g2,0,none⟩) 1 1, .slice none 0 0, .int .u64 1]) ⟨[a],[b],[],1⟩:=
 ⟨⟨_,1,_,1,none,0,rfl,Ij h1 f1,Ij d f2, .inl rfl⟩,by simp,by simp,by simp⟩
theorem W7{g3 z:Nat}(h1:An W g1 23 [.int .u64 a])(d:An W g2 23 [.int .u64 b])(I:An W g3 23 [.int .u64 x, .int .u64 y])(f1: ¬FF g1)(f2: ¬FF g2)(f3: ¬FF g3):
 CX W FF (.agg #[.slice (some ⟨g1,0,none⟩) 1 1, .slice (some ⟨g2,0,none⟩) 1 1, .slice (some ⟨g3,0,none⟩) 2 2, .int .u64 z]) ⟨[a],[b],[x,y],z⟩:=
 ⟨⟨_,1,_,1,_,2,rfl,Ij h1 f1,Ij d f2,S1 I f3⟩,by simp,by simp,by simp⟩
theorem Vz(R:Zr)(t x r:Nat)(h1:(Ag R t x).size<18446744073709551616)(d:(Ag R t r).size<18446744073709551616):
 ∃u:Nat,IntKind.u64.wrap (wrap64 (Cq R t x+Cq R t r))=(u:Int)/\u<18446744073709551616/\IntKind.u64.wrap ((u:Int)+1)=((EB R t x r:Nat):Int)/\EB R t x r<18446744073709551616:=by
 refine⟨NW (wrap64 (Cq R t x+Cq R t r)),IL _,Va _, ?_,Nat.mod_lt _ (by decide)⟩;rw [IL];unfold EB Cq NW wrap64;omega
section
variable  {F:Nat->Prop} {R:Zr} {H:List Nat} 
def Yhx{P}(h:P:=by
 have d:=λX:Au (λ_=>False) O=>X.cell (aS.at' (i:=0) rfl) (λh=>h)
 have I:=λX:Au (λ_=>False) O=>X.cell (aS.at' (i:=1) rfl) (λh=>h)
 exact And.intro d I):=h
def Yit{P}(h:P:=by
 have d:=λX:Au (λ_=>False) O=>X.cell (a6.at' (i:=0) rfl) (λh=>h)
 exact d):=h
def Yiu{P}(h:P:=by
 have ay:Below an.heap.size an aD:=by rw [aw];exact aQ.alloc aQ.size _
 exact ay):=h
def V1{P}(h:P:=by
 have ay:Below d.heap.size d aD:=by rw [aw];exact aQ.alloc aQ.size _
 exact ay):=h
def Yiw{P}(h:P:=by
 have d:Below an.heap.size an aE:=by rw [aO];exact((Below.refl _ an).alloc (Nat.le_refl _) _).drew
 exact d):=h
def Yix{P}(h:P:=by
 have I:Below d.heap.size d aE:=by rw [aO];exact((Below.refl _ d).alloc (Nat.le_refl _) _).drew
 exact I):=h
def Vu{P}(h:P:=by
 have I:Below d.heap.size d V3:=by rw [aF];exact aP.alloc aP.size _
 exact I):=h
def YS{P}(h:P:=by
 have d:=a8.out;have aX:=bg.out;have I:=bh.out;exact And.intro d (And.intro aX I)):=h
def YK{P}(h:P:=by
 have aa:An V3 g3 23 [.int .u64 x, .int .u64 r]:=by rw [aF];exact aa.alloc _
 exact aa):=h
def YU{P}(h:P:=by
 have ag:An V3 g1 23 [.int .u64 aR]:=by rw [aF];exact ag.alloc _
 exact ag):=h
def YJ{P}(h:P:=by
 have ae:An V3 g2 23 [.int .u64 va]:=by rw [aF];exact ae.alloc _
 exact ae):=h
def Ylf{P}(h:P:=by
 have J:Below aY.heap.size aY O:=by rw [a2];exact(Below.refl _ aY).alloc (Nat.le_refl _) _
 exact J):=h
def Ylk{P}(h:P:=by
 have I: ∃X:Au F a1,an=X.W:=⟨⟨an,Nat.le_trans bf.size am.size,λk d J=>(am.keep k (Nat.lt_of_lt_of_le d bf.size) J).trans (bf.block k d)⟩,rfl⟩;exact I):=h
def Yml{P}(h:P:=by
 have d:=bi.take aN.out bb bd ba a9 a4 bc;have I:=Zh (aG.trans a4);have hex:=F3 (aG.trans a4);have aq:=be.Ar a4 aX.out;have J:=Zh d;exact And.intro d (And.intro I (And.intro hex (And.intro aq J)))):=h
def Ymr{P}(h:P:=by
 have I:Below O.heap.size O d:=aC.trans (a7.mono aC.size);exact I):=h
def Yoc{P}(h:P:=by
 have aa:An V3 g3 23 [.int .u64 x, .int .u64 r]:=by rw [aF,aH];exact An.new _ _ _
 exact aa):=h
def Yod{P}(h:P:=by
 have aa:An aD g3 23 [.int .u64 x, .int .u64 r]:=by rw [aw,aH];exact An.new _ _ _
 exact aa):=h
def Yom{P}(h:P:=by
 have aa:An aD g3 23 [.int .u64 x, .int .u64 r]:=by rw [aw];exact aa.alloc _
 exact aa):=h
def Yow{P}(h:P:=by
 have ae:An aD g2 23 [.int .u64 va]:=by rw [aw,aj];exact An.new _ _ _
 exact ae):=h
def Yox{P}(h:P:=by
 have ae:An V3 g2 23 [.int .u64 va]:=by rw [aF,aj];exact An.new _ _ _
 exact ae):=h
def Yoy{P}(h:P:=by
 have ag:An aD g1 23 [.int .u64 aR]:=by rw [aw,az];exact An.new _ _ _
 exact ag):=h
def Yoz{P}(h:P:=by
 have ag:An V3 g1 23 [.int .u64 aR]:=by rw [aF,az];exact An.new _ _ _
 exact ag):=h
def Ypm{P}(h:P:=by
 have d:=Zh (BG ((aS.set 0 (.int .u64 0)).set 1 (.int .u64 0)));exact d):=h
def Ypn{P}(h:P:=by
 have d:=Zh (BG ((z9.set 0 (.int .u64 0)).set 1 (.int .u64 0)));exact d):=h
def Ypo{P}(h:P:=by
 have d:((x:Int)==0)=false:=by simp;omega
 have I:((x:Int) !=0)=true:=by simp;omega
 exact And.intro d I):=h
def Ypp{P}(h:P:=by
 have ag:An aD g1 23 [.int .u64 aR]:=by rw [aw];exact ag.alloc _
 exact ag):=h
def Ypq{P}(h:P:=by
 have ae:An aD g2 23 [.int .u64 va]:=by rw [aw];exact ae.alloc _
 exact ae):=h
def Yqw{P}(h:P:=by
 have ae:=Zh ae;have ag:=Zh ag;have aM:=Zh aM;exact And.intro ae (And.intro ag aM)):=h
theorem Qk(hs:Am w s F R H P q most last G)(bY:Ba R)(cF:BN.A1 t)(x:Nat)(hx:x<18446744073709551616)(ak av:Nat)(cp:ak<18446744073709551616)(cG:av<18446744073709551616):
 Calls prog 16 #[.pointer (some ⟨s,0,none⟩), .int .i64 t, .int .u64 x, .agg #[.int .u64 ak, .int .u64 av]] w (Fc w s t F R H P q most last G x ak av):=by
 obtain⟨fe,h,-⟩:=hs.rd;have dC:=hs.FN;have dD:1<w.heap.size:=by
  obtain⟨_,_,_,_,_,_,_,_,_,_,_,_,_,_,_,_,_,_,_,ey⟩:=h;exact ey.2
 obtain⟨ai,aB⟩:=Zx ((w.alloc (Obj.cells #[.int .u64 ak, .int .u64 av] 31)).alloc (Obj.cells #[.int .u64 0, .int .u64 0] 31));obtain⟨cr,bZ⟩:=Zx (ai.alloc (Obj.cells #[.pointer (some ⟨s,0,none⟩), .int .i64 t] 96));obtain⟨b7,bV⟩:=Zx w.heap.size;obtain⟨bo,cH⟩:=Zx (w.heap.size+1);obtain⟨b13,cu⟩:=Zx ai.heap.size;have b3:=VC;have bH:Below ai.heap.size ai cr:=by rw [bZ];exact(Below.refl _ ai).alloc (Nat.le_refl _) _
 have bR:Below w.heap.size w cr:=b3.trans (bH.mono b3.size);have x7:An ai b7 31 [.int .u64 ak, .int .u64 av]:=by rw [aB,bV];exact(An.new w 31 [.int .u64 ak, .int .u64 av]).alloc _
 have dE:An ai bo 31 [.int .u64 0, .int .u64 0]:=by
  rw [aB,cH];have:=An.new (w.alloc (Obj.cells #[.int .u64 ak, .int .u64 av] 31)) 31 [.int .u64 0, .int .u64 0]
  rwa [show(w.alloc (Obj.cells #[.int .u64 ak, .int .u64 av] 31)).heap.size=w.heap.size+1 by simp] at this
 have EH:An cr b13 96 [.pointer (some ⟨s,0,none⟩), .int .i64 t]:=by rw [bZ,cu];exact An.new ai _ _
 have dF:=Zh (GU (h.below b3) cF);have J:=Hs (h.below bR) bY ak cp;unfold G9 at J;rw [show(G8 R ak).getD ⟨#[]⟩=BH R ak from rfl] at J;obtain⟨key,ab⟩:=Zx (BH R ak);obtain⟨er,Z⟩:=Zx (C8 R ak);rw [<-ab,<-Z] at J;obtain⟨b4,a8,dG⟩:=EW;have bS:=Zh hs;have cI:=Zh h;have aN:=Zh cF;have bp:=Zh (show w.heap.size<=b7/\w.heap.size<=bo/\w.heap.size<=b13/\s<bo/\1<bo from⟨by omega,by omega,by rw [cu];exact b3.size,by omega,by omega⟩);have aU:=Zh (x7.below bH);have aW:=Zh (dE.below bH);have dH:=Zh EH;have ac:=Zh bR;have b5:=Zh (And.intro aB (And.intro bV (And.intro cH (And.intro cu bZ))));have dI:=Zh (And.intro dC dD);have c7:cr.cell? ⟨b7,0,none⟩=some (.int .u64 ak):=(x7.below bH).at' (i:=0) rfl;rw [bZ] at c7;clear hs h cF J ab Z aB bZ bV cH cu b3 bH bR x7 dE EH dC dD;go_enter func16,ntmps16;go_wp2_with fail;rw [<-b5.1,<-b5.2.2.1,<-b5.2.1];refine dF.mono ?_;rintro e w' ⟨rfl,rfl⟩;go_wp2_with fail;rw [<-b5.2.2.2.2,<-b5.2.2.2.1];refine b4.mono ?_;rintro e w2 ⟨rfl,I⟩;clear c7;obtain⟨ao,aA⟩:=Xx;have bI:=Zh (dH.below I);have af:=DR;obtain⟨ez,eA⟩:=A2 bI.out;have dJ:=Zh (DQ (cI.below af) t aN x hx);clear I aU aW dH b4 dF;go_wp2_with fail;refine dJ.mono ?_;rintro e w3 ⟨v1,v2,v3,rfl,cv,cJ⟩;obtain⟨eB,q1,rfl⟩:=Ae cv.r1;obtain⟨eC,eD,rfl⟩:=Ae cv.r2;obtain⟨eE,eF,rfl⟩:=Ae cv.r3;obtain⟨n1,dK⟩:=Zx ((Ag R t x).keys.length);obtain⟨n2,dL⟩:=Zx ((Ag R t x).Ab.length);obtain⟨n3,dM⟩:=Zx ((Ag R t x).kids.length);obtain⟨eG,dN⟩:=Zx ((Ag R t x).size);rw [<-dK,<-dL,<-dM,<-dN];obtain⟨cK,cL⟩:=Zx (w3.alloc (Obj.cells #[.slice eB n1 q1, .slice eC n2 eD, .slice eE n3 eF, .int .u64 eG] 100));have V:Below w2.heap.size w2 cK:=cJ.trans (by rw [cL];exact((Below.refl _ w3).alloc (Nat.le_refl _) _).mono cJ.size);have dO:=Zh (ao.below V);have z9:=Zh (aA.below V);have dP:=Zh (bI.below V);have ax:=Jt;have eH:=Zh cL;clear cJ V cv cL dK dL dM dN ez eA ao aA bI dJ af;obtain⟨bn,cM⟩:=Zx (decide (Bm R t x=0));rw [<-cM];have dQ:=Zh cM;clear cM;go_upto_region 7 with (fail);rw [<-eH.out];have dR:Hid (¬(er=0/\(x=0\/bn=true))-> ∀W,Below w.heap.size w W->Fc w s t F R H P q most last G x ak av (.returned (.tuple #[.int .u64 0, .agg #[.int .u64 0, .int .u64 0], .bool false, .int .i64 8])) W):=Zh λb8 W eI => .bad (by
  rw [dG.out,dQ.out] at b8;by_cases h1:C8 R ak=0
  . refine .inr ⟨λbJ=>b8 ⟨h1, .inl bJ⟩,λbJ=>b8 ⟨h1, .inr (by simp [bJ])⟩⟩
  . exact .inl h1) eI
 by_cases bK:er=0/\(x=0\/bn=true)
 . have dS:=Zh bK
   clear dR;go_cut [54] from 45 (λcN wd=>cN= .bool false/\wd=cK)
   case first=>
    obtain⟨rfl,aj⟩:=bK;by_cases bT:x=0
    . subst bT
      go_wp2_with fail;go_meet
      case rel=>exact⟨rfl,rfl⟩
    . have bR:bn=true:=aj.resolve_left bT
      subst bR;obtain⟨eJ,ff⟩:=Ypo;clear aj;go_wp2_with fail;go_meet
      case rel=>exact⟨rfl,rfl⟩
   case rest=>
    clear bK;obtain⟨rfl,rfl⟩:=hcut;have b9:Hid (C8 R ak=0):=Zh (dG.symm.trans dS.1);have bH:Hid (x=0\/Bm R t x=0):=Zh (dS.2.imp id λbm=>by rw [dQ.out] at bm;exact of_decide_eq_true bm);have bw:=MX (cI.below ax) bY aN x hx key;obtain⟨eK,eL,dT⟩:=Ld (Bx R t key 40 x 0).1;obtain⟨eM,cO⟩:=Zx ((Bx R t key 40 x 0).1.isSome);rw [dT,<-cO] at bw;have dU:=Zh bw;have bh:=Zh cO;clear bw dT cO;go_wp2_with fail;refine dU.mono ?_;rintro e dV ⟨rfl,cP⟩;obtain⟨a1,cQ⟩:=Zx (dV.alloc (Obj.cells #[.int .u64 eK, .int .u64 eL] 31));have U:Below wc.heap.size wc a1:=cP.trans (by rw [cQ];exact((Below.refl _ dV).alloc (Nat.le_refl _) _).mono cP.size);have ao:=Zh (dO.below U);have aA:=Zh (z9.below U);have bI:=Zh (dP.below U);have al:=QK;have eN:=Zh cQ;clear cP U cQ dU dO z9 dP;go_upto_region 10 with (fail);rw [<-eN.out]
    cases dW:eM with
    |true=>
     as_aux_lemma=>
     subst dW;have dX:=Zh (Tm (bS.below al) bY aN x hx key ak av cp cG);obtain⟨d0,d1⟩:=A2 bI.out;obtain⟨d2,d3⟩:=A2 ao.out;go_wp2_with fail;refine dX.mono ?_;rintro e cw ⟨rfl,dY,cR⟩;obtain⟨cT,cU,cV⟩:=Ld (Ct R t key ak av 40 x).2;have cW: ¬F bo:=(λbm=>by have:=bS.lt bm;have:=bp.2.1;omega);have aq:=aA.Ar cR cW;have cb:=(Ad.below (F:=F) al).trans cR;have bs:=Zh (C9 dY cb bp.2.1 aq ⟨_,rfl,λp bm=>by cases bm⟩ cW bp.2.2.2 (.int .u64 cT) (.int .u64 cU));obtain⟨⟨c0,c1⟩,f0,f1⟩:=Dl aq;have bv:=Zh ((aq.set 0 (.int .u64 cT)).set 1 (.int .u64 cU));rw [cV];have eO:=Zh cV;clear dY cR aq cb cW dX d0 d1 d2 d3 cV;go_wp2;obtain⟨bD,r1⟩:=A2 bv.out;refine bodyPost_ret (v:= .tuple #[.int .u64 x, .agg #[.int .u64 cT, .int .u64 cU], .bool true, .int .i64 0]) (by simp [results,f16,go_sem,bD,r1]) rfl ?_;have bM:=a8.out;have eP:=eO.out;have bN:=bh.out;subst bM;rw [<-eP];exact .here b9.out bH bN.symm bs.1 bs.2
    |false=>
     subst dW;obtain⟨n,cx⟩:=Zx (Cz R t key x);have fg:n<=41:=(by rw [cx];exact WI _ _ _ _);have cX:=Zh (Ta (cI.below (al.trans ((Ac a1).mono al.size))) bY aN x hx key);rw [<-cx] at cX;have bg:=Zh cx;have dZ: ¬F b13:=(λbm=>by have:=bS.lt bm;have:=bp.2.2.1;omega);have bz:=(λX:Au F a1=>X.cell (bI.at' (i:=0) rfl) dZ);have bC:=(λX:Au F a1=>X.cell (bI.at' (i:=1) rfl) dZ);clear cx;go_upto_region 12 with (fail);refine AD (λw' => ∃X:Au F a1,w' =X.W) [] (.r 0<| .r 1<| .r 2<| .r 3<| .a 4<| .a 5<| .r 6<| .r 7<| .r 8<| .r 9<| .r 10<| .nil) (Ay _ _) ?_
     iterate 4 (refine AB ?_;go_simp)
     refine Ao _ rfl (λK bj=> ?_);go_wp2_with fail;refine cX.mono ?_;rintro e cw ⟨rfl,bV⟩;have ah:Below a1.heap.size a1 cw:=(Ac a1).trans (bV.mono (Nat.le_refl _));have hex:=Af (B:=F) ah;obtain⟨cY,bW⟩:=Yhj;have cZ:=Zh (bI.below ah);have aL:=Ym;have d4:=Zh (RI (bS.below aL) t aN n (by omega));have d5 :=ah;clear bV ah ao aA bI cX al;go_wp2;refine bj _ _ hex ?_;clear bj K hex;have bf:=Zh d5;clear d5;refine Ao _ rfl (λK bj=> ?_);go_wp2_with fail;refine d4.mono ?_;rintro e an eQ;clear d4;rcases eQ with ⟨st,F',R1,bl,b2,v,rfl,d6,c8,c9,cc,am,d7,da,aj,d8⟩|⟨er,F',rfl,db,cc,am⟩
     ·
      as_aux_lemma=>
      have d9:s<cw.heap.size/\1<cw.heap.size:=⟨Nat.lt_of_lt_of_le dI.1 aL.size,Nat.lt_of_lt_of_le dI.2 aL.size⟩;have ea:st.length<=100000:=(by omega);have cy:=Zh (YW aN.out bY c8 c9 cc d7 da d8 d9 ea);have bw: ∀z,w.heap.size<=z-> ¬F z:=(λz h1 bJ=>by have:=bS.lt bJ;omega);have dc:=Zh (cY.Ar am (bw _ bp.1));have v9:=Zh (bW.Ar am (bw _ bp.2.1));have eb:=Zh (cZ.Ar am (bw _ bp.2.2.1));have bX:=Zh (am.not bW.lt (bw _ bp.2.1));have ec:Hid (¬FB F' bl b7):=(Zh λbm=>bm.elim (am.not cY.lt (bw _ bp.1)) λcd=>by have:=cY.lt;omega);have aX:Hid (¬FB F' bl bo):=(Zh λbm=>bm.elim (am.not bW.lt (bw _ bp.2.1)) λcd=>by have:=bW.lt;omega);have eR:Hid (¬FB F' bl b13):=(Zh λbm=>bm.elim (am.not cZ.lt (bw _ bp.2.2.1)) λcd=>by have:=cZ.lt;omega);have dd:=Un;have de:Hid (w.heap.size<=bl):=Zh (Nat.le_trans aL.size da);have df:Hid (st.length=Cz R t key x):=Zh (d6.trans bg);have dg:=Zh c8;have dh:=Zh c9;have ce:=Ylk;clear d9 ea d6 c8 c9 cc am d7 da aj d8 bw;go_wp2;refine bj _ _ ce ?_;clear bj K ce bz bC
      iterate 5 (refine AB ?_;go_simp)
      refine AF ?_;have eS:Hid ((BN.mk [ak] [av] [] 1).Ok):=Zh ⟨λz bE=>(by rw [List.mem_singleton.1 bE];exact cp),λz bE=>(by rw [List.mem_singleton.1 bE];exact cG),λz bE=>absurd bE (by simp),show 1<18446744073709551616 by decide⟩;by_cases bT:x=0
      . subst bT
        as_aux_lemma=>
        have bz:=(λX:Au (FB F' bl) an=>X.cell (dc.at' (i:=0) rfl) ec.out);have bC:=(λX:Au (FB F' bl) an=>X.cell (dc.at' (i:=1) rfl) ec.out);have cf:=(λX:Au (FB F' bl) an=>X.cell (v9.at' (i:=0) rfl) aX.out);have di:=(λX:Au (FB F' bl) an=>X.cell (v9.at' (i:=1) rfl) aX.out);go_upto_region 16 with (fail);refine AD (λw' => ∃X:Au (FB F' bl) an,w' =X.W) [11,12,13] (.r 0<| .r 1<| .r 2<| .r 4<| .r 5<| .r 9<| .two 3 (.a 6<| .r 7<| .a 8<| .r 10<| .a 11<| .a 12<| .a 13<| .nil) 6 (.a 3<| .r 7<| .a 8<| .r 10<| .a 11<| .a 12<| .a 13<| .nil)) (Ay _ _) ?_
        iterate 6 (refine AB ?_;go_simp)
        clear bz bC cf di;refine Be _ _ rfl rfl (λK bj=> ?_) (λK bj=> ?_)
        focus
         go_wp2;obtain⟨g1,az⟩:=Zx an.heap.size;obtain⟨aE,aO⟩:=Zx ((an.alloc (Obj.cells #[.int .u64 ak] 23)).drew);rw [<-aO,<-az];have br:=Yiw;have ag:An aE g1 23 [.int .u64 ak]:=(by rw [aO,az];exact BG (An.new _ _ _));have aM:an.heap.size<=g1:=(by rw [az];exact Nat.le_refl _);have ag:=Zh ag;have aM:=Zh aM;have aQ:=Zh br;refine bj _ _ (Af (B:=FB F' bl) br) ?_;clear bj K aO az br;refine Ao _ rfl (λK bj=> ?_);go_wp2;obtain⟨g2,aj⟩:=Zx aE.heap.size;obtain⟨aD,aw⟩:=Zx (aE.alloc (Obj.cells #[.int .u64 av] 23));rw [<-aw,<-aj];have ay:=Yiu;have ae:An aD g2 23 [.int .u64 av]:=(by rw [aw,aj];exact An.new _ _ _);have ag:An aD g1 23 [.int .u64 ak]:=(by rw [aw];exact ag.alloc _);have aK:an.heap.size<=g2:=(by rw [aj];exact aQ.size);obtain⟨ag,ae,aK,aP⟩:=Yic;refine bj _ _ (Af (B:=FB F' bl) ay) ?_;clear bj K aw aj ay
        rotate_left
        focus
         go_wp2;obtain⟨g2,aj⟩:=Zx an.heap.size;obtain⟨aE,aO⟩:=Zx ((an.alloc (Obj.cells #[.int .u64 av] 23)).drew);rw [<-aO,<-aj];have br:=Yiw;have ae:An aE g2 23 [.int .u64 av]:=(by rw [aO,aj];exact BG (An.new _ _ _));have aK:an.heap.size<=g2:=(by rw [aj];exact Nat.le_refl _);have ae:=Zh ae;have aK:=Zh aK;have aQ:=Zh br;refine bj _ _ (Af (B:=FB F' bl) br) ?_;clear bj K aO aj br;refine Ao _ rfl (λK bj=> ?_);go_wp2;obtain⟨g1,az⟩:=Zx aE.heap.size;obtain⟨aD,aw⟩:=Zx (aE.alloc (Obj.cells #[.int .u64 ak] 23));rw [<-aw,<-az];have ay:=Yiu;have ag:An aD g1 23 [.int .u64 ak]:=(by rw [aw,az];exact An.new _ _ _);have ae:An aD g2 23 [.int .u64 av]:=(by rw [aw];exact ae.alloc _);have aM:an.heap.size<=g1:=(by rw [az];exact aQ.size);obtain⟨ae,ag,aM⟩:=Yqw;have aP:=Zh ay;refine bj _ _ (Af (B:=FB F' bl) ay) ?_;clear bj K aw az ay
        all_goals
         refine AB ?_;go_simp;have ar:=cy.low (aP.mono (Nat.le_refl _))
         as_aux_lemma=>
         obtain⟨vt,dj,cg⟩:=ar.tk;have bO: ∀{g},an.heap.size<=g-> ¬FB F' bl g:=(λ{g} h1 bJ=>by have:=cy.fb g bJ;have:=Nat.le_refl an.heap.size;omega);have au:=J1 ar.str aN cg ar.hN ar.J5 ar.QS ar.len (Wn ag ae (bO aM) (bO aK)) eS.out;obtain⟨pp,aJ⟩:=Zx (DG R1 t st.reverse ⟨[ak],[av],[],1⟩);rw [<-aJ,dj] at au;obtain⟨ci,bi,bb⟩:=OT;have aG:=Zh (Ad.below (F:=FB F' bl) aP);have be:=Zh (v9.below aP);clear au ar cg aJ bO;refine Ao _ rfl (λK bj=> ?_);go_wp2_with fail;refine ci.mono ?_;rintro e eT ⟨v',st',bd,rfl,ba,a9,a4,bc⟩;obtain⟨cj,dk,hex,aq,dl⟩:=Yml;obtain⟨dm,dn,ck⟩:=pp;dsimp only;obtain⟨⟨c0,c1⟩,f0,f1⟩:=Dl aq;have bv:=PU;have bs:=Zh (C9 cj.1.str (dd.minus dk de) bp.2.1 aq ⟨_,rfl,λp bm=>by cases bm⟩ bX bp.2.2.2 (.int .u64 0) (.int .u64 0));clear cj a4 a9 bc aq ci ba bd be;go_wp2;refine bj _ _ hex ?_;clear bj K hex;refine AB ?_;go_simp;refine AA _ rfl (by decide) (λK bj=> ?_);go_wp2;refine bj _ _ ?_;clear bj K;refine AA _ rfl (by decide) (λK bj=> ?_);go_wp2;refine bj _ _ ?_;clear bj K;refine AA _ rfl (by decide) (λK bj=> ?_);go_wp2;refine bj _ _ (AF ?_);clear bj K;go_wp2;obtain⟨bD,r1⟩:=A2 bv.out;refine bodyPost_ret (v:= .tuple #[.int .u64 ck, .agg #[.int .u64 0, .int .u64 0], .bool false, .int .i64 0]) (by simp [results,f16,go_sem,bD,r1]) rfl ?_;obtain⟨bM,aX,bN⟩:=YS;have dp:=bb.out;subst bM;subst aX;have bF:DT t (BH R ak) ak av R1 st.reverse 0=(dm,dn,ck):=dp.symm;have cl:=bs.1;have bm:=Fc.put (w:=w) (F:=F) (x:=0) b9 (.inl rfl) bN.symm df dg dh (by rw [bF];exact cl) bs.2 (by rw [bF];exact dl.2);rw [bF] at bm;exact bm
      . have eJ:((x:Int)==0)=false:=by simp;omega
        have cz:=WZ aN.out key cp cG 40 (Nat.le_refl _) an R1 st x cy (Nat.le_refl _) hx;rw [show((40-40:Nat):Int)=0 from rfl] at cz;obtain⟨p,hp⟩:=Zx (D4 t key ak av 40 R1 st.reverse x);rw [<-hp] at cz;have ed:=Zh cz;have ee:=Zh bT;have fh:=Zh a8.out;have ef:Hid (p=D4 t (BH R ak) ak av 40 R1 st.reverse x):=Zh (by rw [<-a8.out];exact hp);obtain⟨d130,d131⟩:=A2 eb.out;obtain⟨d70,d71⟩:=A2 dc.out;clear cz hp bT;go_wp2_with fail;refine ed.mono ?_;rintro e aY ⟨rfl,aZ,aG,a5⟩;clear d130 d131 d70 d71 ed;obtain⟨R2,L2,o⟩:=p;have t9:=Zh (v9.Ar aG aX);have t13:=Zh (eb.Ar aG eR);obtain⟨eg,eh,eU⟩:=Wd;have ei:an.heap.size<=aY.heap.size:=aG.size;have cn:=Zh ei;clear aZ aG a5 ei;rcases o with _|⟨aR,va,r⟩
        . simp only [Rg]
          as_aux_lemma=>
          go_upto_region 18 with (fail);obtain⟨O,a2⟩:=Zx (aY.alloc (Obj.cells #[.bool false, .int .u64 0, .int .u64 0, .int .u64 0] 109));obtain⟨bU,bP⟩:=Zx aY.heap.size;rw [<-a2,<-bP];have J:=Ylf;have bG:An O bU 109 [.bool false, .int .u64 0, .int .u64 0, .int .u64 0]:=(by rw [a2,bP];exact An.new aY _ _);have aS:=t9.below J;have eV:=bG.at' (i:=0) rfl;obtain⟨bz,bC⟩:=Yhx;obtain⟨⟨c0,c1⟩,f0,f1⟩:=Dl aS;have bv:=Ypm;have bs:=Zh (C9 (eg.low (J.mono cn)).str (dd.minus (eh.trans (Ad.below J)) de) bp.2.1 aS ⟨_,rfl,λp bm=>by cases bm⟩ bX bp.2.2.2 (.int .u64 0) (.int .u64 0));clear a2 bP J bG aS;go_upto_region 19 with (fail);refine AD (λw' => ∃X:Au (λ_=>False) O,w' =X.W) [3,4,5] (.r 0<| .r 1<| .r 2<| .a 3<| .a 4<| .a 5<| .nil) (Ay _ _) ?_
          iterate 3 (refine AB ?_;go_simp)
          clear bz bC;refine AA _ rfl (by decide) (λK bj=> ?_);go_wp2;refine bj _ _ ?_;clear bj K;refine AA _ rfl (by decide) (λK bj=> ?_);go_wp2;refine bj _ _ ?_;clear bj K;refine AA _ rfl (by decide) (λK bj=> ?_);go_wp2;refine bj _ _ (AF ?_);clear bj K;go_wp2;obtain⟨bD,r1⟩:=A2 bv.out;refine bodyPost_ret (v:= .tuple #[.int .u64 x, .agg #[.int .u64 0, .int .u64 0], .bool false, .int .i64 0]) (by simp [results,f16,go_sem,bD,r1]) rfl ?_;obtain⟨bM,dq,bN⟩:=YS;subst bM;subst dq;have bF:DT t (BH R ak) ak av R1 st.reverse x=(R2,L2,x):=by
           unfold DT;rw [if_neg ee.out,<-ef.out];rfl
          have cl:=bs.1.below (Ac _);have bm:=Fc.put (w:=w) (F:=F) (x:=x) b9 bH bN.symm df dg dh (by rw [bF];exact cl) (bs.2.trans (Ad.below (Ac _))) (by rw [bF];exact hx);rw [bF] at bm;exact bm
        . simp only [Rg]
          go_upto_region 18 with (fail);obtain⟨O,a2⟩:=Zx (aY.alloc (Obj.cells #[.bool true, .int .u64 aR, .int .u64 va, .int .u64 r] 109));obtain⟨bU,bP⟩:=Zx aY.heap.size;rw [<-a2,<-bP];have J:=Ylf;have bG:An O bU 109 [.bool true, .int .u64 aR, .int .u64 va, .int .u64 r]:=(by rw [a2,bP];exact An.new aY _ _);have bk:=eg.low (J.mono cn);obtain⟨ej,ek,el⟩:=eU.out aR va r rfl;have em:Hid (∀W,Below O.heap.size O W-> ∀y,y<18446744073709551616->Calls prog 49 #[.agg #[.pointer (some ⟨s,0,none⟩), .int .i64 t], .int .u64 (y:Nat)] W λe w' =>e= .returned (.int .i64 (Cq R2 t y))/\Below W.heap.size W w'):=Zh λW aI y bB=>by
           exact Ygd
          have dr: ∀y,(Ag R2 t y).size<18446744073709551616:=λy=>by
           exact Ydm
          obtain⟨u1,ds,fi,en,dt⟩:=Vz R2 t x r (dr x) (dr r);obtain⟨eo,du⟩:=Zx (EB R2 t x r);rw [<-du] at en dt;obtain⟨dv,dw⟩:=Zx (Cq R2 t x);obtain⟨z2,dx⟩:=Zx (Cq R2 t r);rw [<-dw,<-dx] at ds;obtain⟨z3,cB⟩:=Zx (wrap64 (dv+z2));rw [<-cB] at ds;have eW:IntKind.i64.wrap (dv+z2)=z3:=(by rw [cB];exact IntWalk.i64_left _);have eX :wrap64 (dv+z2)=z3:=cB.symm;have dy:=em.out O.drew (Ac O) x hx;rw [<-dw] at dy;have eY:=Zh dy;have eZ:Hid (∀W,Below O.heap.size O W->Calls prog 49 #[.agg #[.pointer (some ⟨s,0,none⟩), .int .i64 t], .int .u64 r] W λe w' =>e= .returned (.int .i64 z2)/\Below W.heap.size W w'):=(Zh λW aI=>by rw [dx];exact em.out W aI r el);have e0:=Zh du;have e1:Hid ((BN.mk [aR] [va] [x,r] eo).Ok):=Zh ⟨λz bE=>(by rw [List.mem_singleton.1 bE];exact ej),λz bE=>(by rw [List.mem_singleton.1 bE];exact ek),λz bE=>(by rcases List.mem_cons.1 bE with bm|bm;rw [bm];exact hx;rw [List.mem_singleton.1 bm];exact el),dt⟩;have aS:=Zh (t9.below J);have a6:=t13.below J;have e2:=Zh bG;have e3:=Zh bk;have b4:=Zh J;have eV:=bG.at' (i:=0) rfl;have bz:=Yit;have bC:=(λX:Au (λ_=>False) O=>X.cell (a6.at' (i:=1) rfl) (λh=>h));have cf:=(λX:Au (λ_=>False) O=>X.cell (bG.at' (i:=3) rfl) (λh=>h));have e4:Hid (aY.heap.size<=bU):=Zh (Nat.le_of_eq bP.symm);clear dw dx cB du dy dr bk a2 bP J bG a6 ej ek dt;go_upto_region 20 with (fail);refine AD (λw' => ∃X:Au (λ_=>False) O,w' =X.W) [6,7,8,9,10] (.r 0<| .r 1<| .r 3<| .r 4<| .r 5<| .a 2<| .a 6<| .a 7<| .a 8<| .a 9<| .a 10<| .nil) (Ay _ _) ?_
          iterate 5 (refine AB ?_;go_simp)
          clear bz bC cf;refine Ao _ rfl (λK bj=> ?_);go_wp2_with fail;refine eY.mono ?_;rintro e ep ⟨rfl,eq⟩;have cC:Below O.heap.size O ep:=(Ac O).trans (eq.mono (Nat.le_refl _));have hex:=Af (B:=λ_=>False) cC;have e5:=Zh (eZ ep cC);have aC:=Zh cC;clear eq cC;go_wp2;refine bj _ _ hex ?_;clear bj K hex;refine AA _ rfl (by decide) (λK bj=> ?_);go_wp2_with fail;refine e5.mono ?_;rintro e d ⟨rfl,a7⟩;have es:=Ymr;have co:=Zh es;clear a7 es;go_wp2;refine bj _ _ ?_;clear bj K;refine AA _ rfl (by decide) (λK bj=> ?_);go_wp2;refine bj _ _ ?_;clear bj K;refine AA _ rfl (by decide) (λK bj=> ?_);go_wp2;refine bj _ _ ?_;clear bj K;refine AA _ rfl (by decide) (λK bj=> ?_);go_wp2;refine bj _ _ ?_;clear bj K;refine AA _ rfl (by decide) (λK bj=> ?_);go_wp2;refine bj _ _ (AF ?_);clear bj K;have dz:an.heap.size<=O.heap.size:=Nat.le_trans cn b4.size;have et:=Zh (e3.low (co.mono dz));have eu:Hid (an.heap.size<=d.heap.size):=Zh (Nat.le_trans dz co.size);have e6:=Zh ((eh.trans (Ad.below b4)).trans (Ad.below co));have v9:=Zh (aS.below co);have bG:=Zh (e2.below co);have cD: ¬FB F' bl bU:=λbm=>by
           have cd:=cy.fb bU bm;have:bU<an.heap.size:=cd;have:=cn.out;exact absurd cd (Nat.not_lt.2 (Nat.le_trans cn e4))
          clear dz;have bz:=(λX:Au (FB F' bl) d=>X.cell (bG.at' (i:=1) rfl) cD);have bC:=(λX:Au (FB F' bl) d=>X.cell (bG.at' (i:=2) rfl) cD);have cf:=(λX:Au (FB F' bl) d=>X.cell (bG.at' (i:=3) rfl) cD);have di:=(λX:Au (FB F' bl) d=>X.cell (v9.at' (i:=0) rfl) aX.out);have e7:=(λX:Au (FB F' bl) d=>X.cell (v9.at' (i:=1) rfl) aX.out);go_upto_region 21 with (fail);refine AD (λw' => ∃X:Au (FB F' bl) d,w' =X.W) [18,19,20] (.r 0<| .r 1<| .r 2<| .r 3<| .r 5<| .r 6<| .r 7<| .r 9<| .r 10<| .r 11<| .r 13<| .r 16<| .three 4 (.two 8 (.a 12<| .r 14<| .a 15<| .r 17<| .a 18<| .a 19<| .a 20<| .nil) 12 (.a 8<| .r 14<| .a 15<| .r 17<| .a 18<| .a 19<| .a 20<| .nil)) 8 (.two 4 (.a 12<| .r 14<| .a 15<| .r 17<| .a 18<| .a 19<| .a 20<| .nil) 12 (.a 4<| .r 14<| .a 15<| .r 17<| .a 18<| .a 19<| .a 20<| .nil)) 12 (.two 4 (.a 8<| .r 14<| .a 15<| .r 17<| .a 18<| .a 19<| .a 20<| .nil) 8 (.a 4<| .r 14<| .a 15<| .r 17<| .a 18<| .a 19<| .a 20<| .nil))) (Ay _ _) ?_
          iterate 12 (refine AB ?_;go_simp)
          clear bz bC cf di e7 cD ds en eW eX;refine G6 _ _ _ rfl rfl rfl (λK bj=> ?_) (λK bj=> ?_) (λK bj=> ?_)
          focus
           go_wp2;obtain⟨g1,az⟩:=Zx d.heap.size;obtain⟨aE,aO⟩:=Zx ((d.alloc (Obj.cells #[.int .u64 aR] 23)).drew);rw [<-aO,<-az];have br:=Yix;have ag:An aE g1 23 [.int .u64 aR]:=(by rw [aO,az];exact BG (An.new _ _ _));have aM:d.heap.size<=g1:=(by rw [az];exact Nat.le_refl _);have ag:=Zh ag;have aM:=Zh aM;have aQ:=Zh br;refine bj _ _ (Af (B:=FB F' bl) br) ?_;clear bj K aO az br;refine Be _ _ rfl rfl (λK bj=> ?_) (λK bj=> ?_)
           focus
            go_wp2;obtain⟨g2,aj⟩:=Zx aE.heap.size;obtain⟨aD,aw⟩:=Zx (aE.alloc (Obj.cells #[.int .u64 va] 23));rw [<-aw,<-aj];have ay:=V1;have ae:=Yow;have ag:=Ypp;have aK:d.heap.size<=g2:=(by rw [aj];exact aQ.size);obtain⟨ag,ae,aK,aP⟩:=Yic;refine bj _ _ (Af (B:=FB F' bl) ay) ?_;clear bj K aw aj ay;refine Ao _ rfl (λK bj=> ?_);go_wp2;obtain⟨g3,aH⟩:=Zx aD.heap.size;obtain⟨V3,aF⟩:=Zx (aD.alloc (Obj.cells #[.int .u64 x, .int .u64 r] 23));rw [<-aF,<-aH];have bq:=Vu;have aa:=Yoc;have ag:=YU;have ae:=YJ;have bu:d.heap.size<=g3:=(by rw [aH];exact aP.size);have ag:=Zh ag;have ae:=Zh ae;have aa:=Zh aa;have bu:=Zh bu;have bQ:=Zh bq;refine bj _ _ (Af (B:=FB F' bl) bq) ?_;clear bj K aF aH bq
           rotate_left
           focus
            go_wp2;obtain⟨g3,aH⟩:=Zx aE.heap.size;obtain⟨aD,aw⟩:=Zx (aE.alloc (Obj.cells #[.int .u64 x, .int .u64 r] 23));rw [<-aw,<-aH];have ay:=V1;have aa:=Yod;have ag:=Ypp;have bu:d.heap.size<=g3:=(by rw [aH];exact aQ.size);have ag:=Zh ag;have aa:=Zh aa;have bu:=Zh bu;have aP:=Zh ay;refine bj _ _ (Af (B:=FB F' bl) ay) ?_;clear bj K aw aH ay;refine Ao _ rfl (λK bj=> ?_);go_wp2;obtain⟨g2,aj⟩:=Zx aD.heap.size;obtain⟨V3,aF⟩:=Zx (aD.alloc (Obj.cells #[.int .u64 va] 23));rw [<-aF,<-aj];have bq:=Vu;have ae:=Yox;have ag:=YU;have aa:=YK;have aK:d.heap.size<=g2:=(by rw [aj];exact aP.size);have ag:=Zh ag;have aa:=Zh aa;have ae:=Zh ae;have aK:=Zh aK;have bQ:=Zh bq;refine bj _ _ (Af (B:=FB F' bl) bq) ?_;clear bj K aF aj bq
          rotate_left 2
          focus
           go_wp2;obtain⟨g2,aj⟩:=Zx d.heap.size;obtain⟨aE,aO⟩:=Zx ((d.alloc (Obj.cells #[.int .u64 va] 23)).drew);rw [<-aO,<-aj];have br:=Yix;have ae:An aE g2 23 [.int .u64 va]:=(by rw [aO,aj];exact BG (An.new _ _ _));have aK:d.heap.size<=g2:=(by rw [aj];exact Nat.le_refl _);have ae:=Zh ae;have aK:=Zh aK;have aQ:=Zh br;refine bj _ _ (Af (B:=FB F' bl) br) ?_;clear bj K aO aj br;refine Be _ _ rfl rfl (λK bj=> ?_) (λK bj=> ?_)
           focus
            go_wp2;obtain⟨g1,az⟩:=Zx aE.heap.size;obtain⟨aD,aw⟩:=Zx (aE.alloc (Obj.cells #[.int .u64 aR] 23));rw [<-aw,<-az];have ay:=V1;have ag:=Yoy;have ae:=Ypq;have aM:d.heap.size<=g1:=(by rw [az];exact aQ.size);obtain⟨ae,ag,aM⟩:=Yqw;have aP:=Zh ay;refine bj _ _ (Af (B:=FB F' bl) ay) ?_;clear bj K aw az ay;refine Ao _ rfl (λK bj=> ?_);go_wp2;obtain⟨g3,aH⟩:=Zx aD.heap.size;obtain⟨V3,aF⟩:=Zx (aD.alloc (Obj.cells #[.int .u64 x, .int .u64 r] 23));rw [<-aF,<-aH];have bq:=Vu;have aa:=Yoc;have ae:=YJ;have ag:=YU;have bu:d.heap.size<=g3:=(by rw [aH];exact aP.size);have ae:=Zh ae;have ag:=Zh ag;have aa:=Zh aa;have bu:=Zh bu;have bQ:=Zh bq;refine bj _ _ (Af (B:=FB F' bl) bq) ?_;clear bj K aF aH bq
           rotate_left
           focus
            go_wp2;obtain⟨g3,aH⟩:=Zx aE.heap.size;obtain⟨aD,aw⟩:=Zx (aE.alloc (Obj.cells #[.int .u64 x, .int .u64 r] 23));rw [<-aw,<-aH];have ay:=V1;have aa:=Yod;have ae:=Ypq;have bu:d.heap.size<=g3:=(by rw [aH];exact aQ.size);have ae:=Zh ae;have aa:=Zh aa;have bu:=Zh bu;have aP:=Zh ay;refine bj _ _ (Af (B:=FB F' bl) ay) ?_;clear bj K aw aH ay;refine Ao _ rfl (λK bj=> ?_);go_wp2;obtain⟨g1,az⟩:=Zx aD.heap.size;obtain⟨V3,aF⟩:=Zx (aD.alloc (Obj.cells #[.int .u64 aR] 23));rw [<-aF,<-az];have bq:=Vu;have ag:=Yoz;have ae:=YJ;have aa:=YK;have aM:d.heap.size<=g1:=(by rw [az];exact aP.size);have ae:=Zh ae;have aa:=Zh aa;have ag:=Zh ag;have aM:=Zh aM;have bQ:=Zh bq;refine bj _ _ (Af (B:=FB F' bl) bq) ?_;clear bj K aF az bq
          rotate_left 2
          focus
           go_wp2;obtain⟨g3,aH⟩:=Zx d.heap.size;obtain⟨aE,aO⟩:=Zx ((d.alloc (Obj.cells #[.int .u64 x, .int .u64 r] 23)).drew);rw [<-aO,<-aH];have br:=Yix;have aa:An aE g3 23 [.int .u64 x, .int .u64 r]:=(by rw [aO,aH];exact BG (An.new _ _ _));have bu:d.heap.size<=g3:=(by rw [aH];exact Nat.le_refl _);have aa:=Zh aa;have bu:=Zh bu;have aQ:=Zh br;refine bj _ _ (Af (B:=FB F' bl) br) ?_;clear bj K aO aH br;refine Be _ _ rfl rfl (λK bj=> ?_) (λK bj=> ?_)
           focus
            go_wp2;obtain⟨g1,az⟩:=Zx aE.heap.size;obtain⟨aD,aw⟩:=Zx (aE.alloc (Obj.cells #[.int .u64 aR] 23));rw [<-aw,<-az];have ay:=V1;have ag:=Yoy;have aa:=Yom;have aM:d.heap.size<=g1:=(by rw [az];exact aQ.size);have aa:=Zh aa;have ag:=Zh ag;have aM:=Zh aM;have aP:=Zh ay;refine bj _ _ (Af (B:=FB F' bl) ay) ?_;clear bj K aw az ay;refine Ao _ rfl (λK bj=> ?_);go_wp2;obtain⟨g2,aj⟩:=Zx aD.heap.size;obtain⟨V3,aF⟩:=Zx (aD.alloc (Obj.cells #[.int .u64 va] 23));rw [<-aF,<-aj];have bq:=Vu;have ae:=Yox;have aa:=YK;have ag:=YU;have aK:d.heap.size<=g2:=(by rw [aj];exact aP.size);have aa:=Zh aa;have ag:=Zh ag;have ae:=Zh ae;have aK:=Zh aK;have bQ:=Zh bq;refine bj _ _ (Af (B:=FB F' bl) bq) ?_;clear bj K aF aj bq
           rotate_left
           focus
            go_wp2;obtain⟨g2,aj⟩:=Zx aE.heap.size;obtain⟨aD,aw⟩:=Zx (aE.alloc (Obj.cells #[.int .u64 va] 23));rw [<-aw,<-aj];have ay:=V1;have ae:=Yow;have aa:=Yom;have aK:d.heap.size<=g2:=(by rw [aj];exact aQ.size);have aa:=Zh aa;have ae:=Zh ae;have aK:=Zh aK;have aP:=Zh ay;refine bj _ _ (Af (B:=FB F' bl) ay) ?_;clear bj K aw aj ay;refine Ao _ rfl (λK bj=> ?_);go_wp2;obtain⟨g1,az⟩:=Zx aD.heap.size;obtain⟨V3,aF⟩:=Zx (aD.alloc (Obj.cells #[.int .u64 aR] 23));rw [<-aF,<-az];have bq:=Vu;have ag:=Yoz;have aa:=YK;have ae:=YJ;have aM:d.heap.size<=g1:=(by rw [az];exact aP.size);have aa:=Zh aa;obtain⟨ae,ag,aM⟩:=Yqw;have bQ:=Zh bq;refine bj _ _ (Af (B:=FB F' bl) bq) ?_;clear bj K aF az bq
          all_goals
           all_goals
            refine AB ?_;go_simp;have ar:=et.low (bQ.mono eu)
            as_aux_lemma=>
            obtain⟨vt,dj,cg⟩:=ar.tk;have bO: ∀{g},d.heap.size<=g-> ¬FB F' bl g:=(λ{g} h1 bJ=>by have:=et.fb g bJ;have:=eu.out;omega);have au:=J1 ar.str aN cg ar.hN ar.J5 ar.QS ar.len (W7 ag ae aa (bO aM) (bO aK) (bO bu)) e1.out;obtain⟨pp,aJ⟩:=Zx (DG R2 t L2.reverse.reverse ⟨[aR],[va],[x,r],eo⟩);rw [<-aJ,dj] at au;obtain⟨ci,bi,bb⟩:=OT;have aG:=Zh (Ad.below (F:=FB F' bl) bQ);have be:=Zh (v9.below bQ);clear au ar cg aJ bO;refine Ao _ rfl (λK bj=> ?_);go_wp2_with fail;refine ci.mono ?_;rintro e eT ⟨v',st',bd,rfl,ba,a9,a4,bc⟩;obtain⟨cj,dk,hex,aq,dl⟩:=Yml;obtain⟨dm,dn,ck⟩:=pp;dsimp only;obtain⟨⟨c0,c1⟩,f0,f1⟩:=Dl aq;have bv:=PU;have bs:=Zh (C9 cj.1.str (dd.minus (e6.trans dk) de) bp.2.1 aq ⟨_,rfl,λp bm=>by cases bm⟩ bX bp.2.2.2 (.int .u64 0) (.int .u64 0));clear cj a4 a9 bc aq ci ba bd be;go_wp2;refine bj _ _ hex ?_;clear bj K hex;refine AB ?_;go_simp;refine AA _ rfl (by decide) (λK bj=> ?_);go_wp2;refine bj _ _ ?_;clear bj K;refine AA _ rfl (by decide) (λK bj=> ?_);go_wp2;refine bj _ _ ?_;clear bj K;refine AA _ rfl (by decide) (λK bj=> ?_);go_wp2;refine bj _ _ (AF ?_);clear bj K;go_wp2;obtain⟨bD,r1⟩:=A2 bv.out;refine bodyPost_ret (v:= .tuple #[.int .u64 ck, .agg #[.int .u64 0, .int .u64 0], .bool false, .int .i64 0]) (by simp [results,f16,go_sem,bD,r1]) rfl ?_;obtain⟨bM,dq,bN⟩:=YS;have dp:=bb.out;subst bM;subst dq;have bF:DT t (BH R ak) ak av R1 st.reverse x=(dm,dn,ck):=by
             unfold DT;rw [if_neg ee.out,<-ef.out,dp,List.reverse_reverse,e0.out];rfl
            have cl:=bs.1;have bm:=Fc.put (w:=w) (F:=F) (x:=x) b9 bH bN.symm df dg dh (by rw [bF];exact cl) bs.2 (by rw [bF];exact dl.2);rw [bF] at bm;exact bm
     ·
      as_aux_lemma=>
      have bX: ¬F' bo:=am.not bW.lt (λbm=>by have:=bS.lt bm;have:=bp.2.1;omega);have v9:=Zh (bW.Ar am (λbm=>by have:=bS.lt bm;have:=bp.2.1;omega));have ev:Hid (er≠0):=Zh (by rcases db with bm|bm<;>omega)
      have cb:=(Ad.below (F:=F) aL).trans am;have bs:=Zh (C9 cc cb bp.2.1 v9 ⟨_,rfl,λp bm=>by cases bm⟩ bX bp.2.2.2 (.int .u64 0) (.int .u64 0));have e8:=Zh db;have e9:((er:Int)==0)=false:=(by have:=ev.out;simp;omega);have fa:((er:Int) !=0)=true:=(by have:=ev.out;simp;omega);have ce:=Ylk;clear cc am cb bX db;go_wp2;refine bj _ _ ce ?_;clear bj K ce bz bC
      iterate 5 (refine AB ?_;go_simp)
      refine AF ?_;obtain⟨⟨c0,c1⟩,f0,f1⟩:=Dl v9.out;have bv:=Zh (BG ((v9.set 0 (.int .u64 0)).set 1 (.int .u64 0)));have ew: ∃X:Au (λz=>z=bo) an,((an.setCell ⟨bo,0,none⟩ (.int .u64 0)).setCell ⟨bo,1,none⟩ (.int .u64 0)).drew=X.W/\X.W.cell? ⟨bo,0,none⟩=some (.int .u64 0)/\X.W.cell? ⟨bo,1,none⟩=some (.int .u64 0):=by
       obtain⟨X,dA⟩:=Cl (Bi (B:=λz=>z=bo) (p:=⟨bo,1,none⟩) (Bi (B:=λz=>z=bo) (p:=⟨bo,0,none⟩) (Af (Below.refl _ an)) rfl (.int .u64 0)) rfl (.int .u64 0)) (Ac _);exact⟨X,dA,by rw [<-dA];exact bv.at' (i:=0) rfl,by rw [<-dA];exact bv.at' (i:=1) rfl⟩
      have fc:=Zh ew;have ex: ∃X:Au (λz=>z=bo) an,{ an with drawn:=an.drawn+1 }=X.W/\X.W.cell? ⟨bo,0,none⟩=some (.int .u64 0)/\X.W.cell? ⟨bo,1,none⟩=some (.int .u64 0):=⟨⟨{ an with drawn:=an.drawn+1 },Nat.le_refl _,λ_ _ _=>rfl⟩,rfl,c0,c1⟩;have fd:=Zh ex;clear ew ex;go_upto_region 14 with (fail);refine AD (λw' => ∃X:Au (λz=>z=bo) an,w' =X.W/\X.W.cell? ⟨bo,0,none⟩=some (.int .u64 0)/\X.W.cell? ⟨bo,1,none⟩=some (.int .u64 0)) [] (.r 0<| .r 1<| .r 2<| .a 3<| .r 4<| .r 5<| .nil) fd ?_
      iterate 3 (refine Et _ _ rfl rfl (by rintro _ ⟨X,rfl,h0,h1⟩;go_simp;exact rfl) ?_;go_simp)
      refine Ao _ rfl (λK bj=> ?_);go_wp2;refine bj _ _ fc ?_;clear bj K
      iterate 2 (refine Et _ _ rfl rfl (by rintro _ ⟨X,rfl,h0,h1⟩;go_simp;exact rfl) ?_;go_simp)
      refine AF ?_;go_wp2;obtain⟨bD,r1⟩:=A2 bv.out;refine bodyPost_ret (v:= .tuple #[.int .u64 0, .agg #[.int .u64 0, .int .u64 0], .bool false, .int .i64 er]) (by simp [results,f16,go_sem,bD,r1]) rfl ?_;obtain⟨bM,aX,bN⟩:=YS;have bA:=e8.out;subst bM;subst aX;exact .full b9 bH bN.symm bA (bs.1.below (Ac _)) (bs.2.trans (Ad.below (Ac _)))
 . have b8:=Zh (dR bK)
   go_cut [54] from 45 (λcN wd=>cN= .bool true/\wd=cK)
   case first=>
    by_cases dB:er=0
    . have bT: ¬x=0:=λbm=>bK ⟨dB, .inl bm⟩
      have bR:bn=false:=(by cases bn with|false=>rfl|true=>exact absurd ⟨dB, .inr rfl⟩ bK);subst bR dB;obtain⟨_,_⟩:=Ypo;clear bK;go_wp2_with fail;go_meet
      case rel=>exact⟨rfl,rfl⟩
    . have e9:((er:Int)==0)=false:=by simp;omega
      have fa:((er:Int) !=0)=true:=(by simp;omega);clear bK;go_wp2_with fail;go_meet
      case rel=>exact⟨rfl,rfl⟩
   case rest=>
    clear bK;obtain⟨rfl,rfl⟩:=hcut;have bz:=(λX:Au (λ_=>False) wc=>X.cell (z9.at' (i:=0) rfl) (λh=>h));have bC:=(λX:Au (λ_=>False) wc=>X.cell (z9.at' (i:=1) rfl) (λh=>h));obtain⟨⟨c0,c1⟩,f0,f1⟩:=Dl z9.out;have bs:=Zh (b8 _ ((ax.setCell (p:=⟨bo,0,none⟩) bp.2.1 (.int .u64 0)).setCell (p:=⟨bo,1,none⟩) bp.2.1 (.int .u64 0)).drew);have bv:=Ypn;go_upto_region 8 with (fail);refine AD (λw' => ∃X:Au (λ_=>False) wc,w' =X.W) [2,3,4] (.r 0<| .r 1<| .a 2<| .a 3<| .a 4<| .nil) (Ay _ _) ?_
    iterate 2 (refine AB ?_;go_simp)
    clear bz bC;refine AA _ rfl (by decide) (λK bj=> ?_);go_wp2;refine bj _ _ ?_;clear bj K;refine AA _ rfl (by decide) (λK bj=> ?_);go_wp2;refine bj _ _ ?_;clear bj K;refine AA _ rfl (by decide) (λK bj=> ?_);go_wp2;refine bj _ _ (AF ?_);clear bj K;go_wp2;obtain⟨bD,r1⟩:=A2 bv.out;refine bodyPost_ret (v:= .tuple #[.int .u64 0, .agg #[.int .u64 0, .int .u64 0], .bool false, .int .i64 8]) (by simp [results,f16,go_sem,bD,r1]) rfl bs.out
end
