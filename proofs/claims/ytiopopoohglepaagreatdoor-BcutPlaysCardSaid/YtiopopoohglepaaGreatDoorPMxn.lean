import Derived.Test.YtiopopoohglepaaGreatDoorPMxm
set_option linter.all false
set_option maxRecDepth 100000
set_option maxHeartbeats 4000000
namespace Go.Proofs.YtiopopoohglepaaGreatDoor
def jA{P}(h:P:=by omega):=h
def jB{P}[Decidable P](h: ¬P:=by omega):decide P=false:=decide_eq_false h
def jD{P}(h:P:=by decide):=h
def jE{P}(h:P:=by exact⟨_,rfl,λp h=>by cases h⟩):=h
open Go.Proofs.Tryz
open Go.RowKit Go.Shelf
namespace Bt
variable {m:It}{n:BN}{sz x:Nat}
section
variable {R R1 R2:Zr} {t a lo:Nat}
theorem HJ{α β:Type}(f:α->β): ∀(l:List α) (k:Nat),(l.map f).eraseIdx k=(l.eraseIdx k).map f
 | [],_=>rfl
 |x::l,0=>rfl
 |x::l,k+1=>by simp [HJ f l k]
theorem Xc{y:Nat}{m:BN}(hx:Rec R t x)(I:Rec R t y)(J:x≠y)(f1:n.Fits t)(f2:m.Fits t):Bp (Bp R t x n) t y m=AQ (AQ R x (some (n.wd t))) y (some (m.wd t)):=by
 obtain⟨w1,h1,O⟩:=hx;obtain⟨w2,U,V⟩:=I;rw [B8 f1 h1 O,B8 (R:=AQ R x _) f2 ((Aw (Ne.symm J)).trans U) V]
def Yaw{P}(h:P:=by
 show(c.h::(A++(m,d)::B).map (·.2.h)).getD A.length 0=_
 rw [List.getD_eq_getElem?_getD,ER c _ A.length (by simp),DQ _ _ _ _ (Nat.le_refl _)];rfl):=h
def Yax{P}(h:P:=by
 show(c.h::(A++(m,d)::B).map (·.2.h)).getD (A.length+1) 0=_
 rw [List.getD_eq_getElem?_getD,ER c _ (A.length+1) (by simp),DT];rfl):=h
def Ybe{P}(h:P:=by
 rw [List.nodup_iff_count];intro x;have h1:=List.nodup_iff_count.1 Z x;have I:=NV c A A.length x (Nat.le_refl _);rw [aj] at h1;simp only [Ax,List.count_append] at h1 I ⊢;omega):=h
def Yco{P}(h:P:=by
 simp only [ac,af,ag,ae,<-ah];rw [Xc (aa.rec) (ab.rec) U g5 g6,<-I,<-g1,<-g2,MV (L:=⟨(Ap c A A.length).h,il,nl⟩) (D:=d) (D' :=⟨d.h,id,nd⟩) rfl rfl];rfl):=h
def Y3{P}(h:P:=by
 have aa:At R t a (t-1) (Ap c A A.length):=Hy A.length V (λp hp=>J p (List.mem_append.2 (.inl hp)));have ab:At R t a (t-1) d:=J (m,d) (by simp);exact And.intro aa ab):=h
def Yju{P}(h:P:=by
 have ag:(AV c (A++(m,d)::B) sz).keys.getD A.length 0=m.kh:=by simp [AV]
 have ae:(AV c (A++(m,d)::B) sz).Ab.getD A.length 0=m.vh:=by simp [AV]
 exact And.intro ag ae):=h
def Ykr{P}(h:P:=by
 have J: ∀z,z≠(Ap c A A.length).h->z≠d.h->R1 z=R z:=λz h1 O=>by rw [I,Aw O,Aw h1]
 exact J):=h
def Ylb{P}(h:P:=by
 have U:(Ap c A A.length).h≠d.h:=λe=>(List.nodup_append.1 O).2.2 _ (DE aa) _ (DE ab) e
 exact U):=h
def Yra{P}(h:P:=by
 have aj:=Yh;have O:((Ap c A A.length).ns++d.ns).Nodup:=by
  exact Ybe
 have U:=Ylb;have ac:(AV c (A++(m,d)::B) sz).kids.getD A.length 0=(Ap c A A.length).h:=by
  exact Yaw
 have af:(AV c (A++(m,d)::B) sz).kids.getD (A.length+1) 0=d.h:=by
  exact Yax
 exact And.intro aj (And.intro O (And.intro U (And.intro ac af)))):=h
def Yrg{P}(h:P:=by
 have I:(Ap c A A.length).Aa.length+1+d.Aa.length<18446744073709551616:=by
  rw [HF] at ai;simp only [List.length_append,List.length_cons] at ai;omega
 exact I):=h
theorem TY(al:BN.A0 t){c d:Sb}{A B:List Lk}(Z:(Ax c (A++(m,d)::B)).Nodup)(V:At R t a (t-1) c)(J: ∀p∈A++(m,d)::B,At R t a (t-1) p.2)(aq:(Al c (A++(m,d)::B)).Fits t)(ai:(Aj c (A++(m,d)::B)).length<18446744073709551616)
 (aH:t<=(Af R t (Ap c A A.length).h).keys.length) (aI:(Af R t d.h).keys.length<t):
 ∃R1 c2 l2 m' il id,E1 R t (AV c (A++(m,d)::B) sz) A.length=(R1,AV c2 l2 sz)/\(Ap c A A.length).Aa++m::d.Aa=il++m' ::id/\d.Aa.length<id.length/\
  (∀x,(Ax c2 l2).count x=(Ax c (A++(m,d)::B)).count x)/\At R1 t a (t-1) c2/\(∀p∈l2,At R1 t a (t-1) p.2)/\(∀z,z∉Ax c (A++(m,d)::B)->R1 z=R z)/\(Al c2 l2).Fits t/\l2.length=(A++(m,d)::B).length/\
  Aj c2 l2=pre c A A.length++(il++m' ::(id++rest B))/\(Ap c2 l2 (A.length+1)).Aa=id/\At R1 t a t (Ap c2 l2 (A.length+1))/\pre c2 l2 (A.length+1)=pre c A A.length++(il++ [m']):=by
 have t1:=al.1;obtain⟨aa,ab⟩:=Y3;have ar:At R t a (t-1+1) (Ap c A A.length):=aa.up al jA;have au:=Yrg;obtain⟨m',il,id,nl,nd,g1,g2,g3,g4,g5,g6,g7,g8,g9,g10⟩:=V5 al m ar ab jA au rfl;obtain⟨more,ah⟩:=Zx ((CI R t (Af R t (Ap c A A.length).h).kids ((Af R t (Ap c A A.length).h).kids.length-1)+1)%18446744073709551616);rw [<-ah] at g5 g6 g10;obtain⟨_,O,U,ac,af⟩:=Yra;obtain⟨ag,ae⟩:=Yju;obtain⟨R1,I⟩:=Zx (AQ (AQ R (Ap c A A.length).h (some ((Ik (Af R t (Ap c A A.length).h) more).wd t))) d.h (some ((Ih (Af R t (Ap c A A.length).h) (Af R t d.h) m.kh m.vh more).wd t)));have aw:R1 (Ap c A A.length).h=some ((Ik (Af R t (Ap c A A.length).h) more).wd t):=by rw [I,Aw U,AT]
 have ax:R1 d.h=some ((Ih (Af R t (Ap c A A.length).h) (Af R t d.h) m.kh m.vh more).wd t):=by rw [I,AT]
 have an:=Ykr;obtain⟨ay,a2⟩:=g10 R1 aw ax (λz _ h1 am=>an z h1 am) O;obtain⟨az,aA,aB,aC,aD,aE,aF,aJ,ao,aK,aG⟩:=NZ (R1:=R1) (m' :=m') Z V J aq g7 (λz h1 am=>an z (λe=>h1 (by rw [e];exact DE aa)) (λe=>am (by rw [e];exact DE ab))) ay (a2.lower jA) _ _ rfl;refine⟨R1,_,_,m',il,id, ?_,g3,g4,az,aA,aB,aC,aD,aE,aF,by rw [ao],by rw [ao];exact a2.lower jA,aG⟩;unfold E1;exact Yco
theorem S0(al:BN.A0 t){c d:Sb}{A B:List Lk}(Z:(Ax c (A++(m,d)::B)).Nodup)(V:At R t a (t-1) c)(J: ∀p∈A++(m,d)::B,At R t a (t-1) p.2)(ar:(Al c (A++(m,d)::B)).Fits t)(ai:(Aj c (A++(m,d)::B)).length<18446744073709551616)
 (aH:t<=(Af R t d.h).keys.length) (aI:(Af R t (Ap c A A.length).h).keys.length<t):
 ∃R1 c2 l2 m' il id,DF R t (AV c (A++(m,d)::B) sz) A.length=(R1,AV c2 l2 sz)/\(Ap c A A.length).Aa++m::d.Aa=il++m' ::id/\(Ap c A A.length).Aa.length<il.length/\
  (∀x,(Ax c2 l2).count x=(Ax c (A++(m,d)::B)).count x)/\At R1 t a (t-1) c2/\(∀p∈l2,At R1 t a (t-1) p.2)/\(∀z,z∉Ax c (A++(m,d)::B)->R1 z=R z)/\(Al c2 l2).Fits t/\l2.length=(A++(m,d)::B).length/\
  Aj c2 l2=pre c A A.length++(il++m' ::(id++rest B))/\(Ap c2 l2 A.length).Aa=il/\At R1 t a t (Ap c2 l2 A.length)/\pre c2 l2 A.length=pre c A A.length:=by
 have t1:=al.1;obtain⟨aa,ab⟩:=Y3;have au:At R t a (t-1+1) d:=ab.up al jA;have aw:=Yrg;obtain⟨m',il,id,nl,nd,g1,g2,g3,g4,g5,g6,g7,g8,g9,g10⟩:=TA al m aa au jA aw rfl;obtain⟨more,ah⟩:=Zx ((CI R t (Af R t d.h).kids 0+1)%18446744073709551616);rw [<-ah] at g5 g6 g10;obtain⟨_,O,U,ac,af⟩:=Yra;obtain⟨ag,ae⟩:=Yju;obtain⟨R1,I⟩:=Zx (AQ (AQ R (Ap c A A.length).h (some ((Il (Af R t (Ap c A A.length).h) (Af R t d.h) m.kh m.vh more).wd t))) d.h (some ((Iq (Af R t d.h) more).wd t)));have ax:R1 (Ap c A A.length).h=some ((Il (Af R t (Ap c A A.length).h) (Af R t d.h) m.kh m.vh more).wd t):=by rw [I,Aw U,AT]
 have ay:R1 d.h=some ((Iq (Af R t d.h) more).wd t):=by rw [I,AT]
 have an:=Ykr;obtain⟨ao,a2⟩:=g10 R1 ax ay (λz _ h1 am=>an z h1 am) O;obtain⟨az,aA,aB,aC,aD,aE,aF,aq,aJ,aG,aK⟩:=NZ (R1:=R1) (m' :=m') Z V J ar g7 (λz h1 am=>an z (λe=>h1 (by rw [e];exact DE aa)) (λe=>am (by rw [e];exact DE ab))) (ao.lower jA) a2 _ _ rfl;refine⟨R1,_,_,m',il,id, ?_,g3,g4,az,aA,aB,aC,aD,aE,aF,by rw [aq],by rw [aq];exact ao.lower jA,aG⟩;unfold DF;exact Yco
theorem Iz(af:BN.A0 t){c d:Sb}{A B:List Lk}(Z:(Ax c (A++(m,d)::B)).Nodup)(V:At R t a (t-1) c)(J: ∀p∈A++(m,d)::B,At R t a (t-1) p.2)(ao:(Al c (A++(m,d)::B)).Fits t)(ai:(Aj c (A++(m,d)::B)).length<18446744073709551616)(aq:R 0=none)
 (aK:(Af R t d.h).keys.length<t) (aL:(Af R t (Ap c A A.length).h).keys.length<t):
 ∃R1 c2 l2,BO R t (AV c (A++(m,d)::B) sz) A.length=(R1,AV c2 l2 sz)/\(AV c (A++(m,d)::B) sz).kids.getD (A.length+1) 0=d.h/\
  (∀x,(Ax c2 l2).count x+ [d.h].count x=(Ax c (A++(m,d)::B)).count x)/\At R1 t a (t-1) c2/\(∀p∈l2,At R1 t a (t-1) p.2)/\(∀z,z∉Ax c (A++(m,d)::B)->R1 z=R z)/\R1 d.h=none/\(Al c2 l2).Fits t/\l2.length+1=(A++(m,d)::B).length/\
  Aj c2 l2=Aj c (A++(m,d)::B)/\(Ap c2 l2 A.length).Aa=(Ap c A A.length).Aa++m::d.Aa/\At R1 t a t (Ap c2 l2 A.length)/\pre c2 l2 A.length=pre c A A.length:=by
 have t1:=af.1;obtain⟨aa,ab⟩:=Y3;have ar:=Yrg;obtain⟨nl,g5,g7,g10⟩:=TL af m aa ab aq jA ar;have aj:=Yh;have O:((Ap c A A.length).ns++d.ns).Nodup:=by
  exact Ybe
 have au:=Ylb;have aw:(AV c (A++(m,d)::B) sz).kids.getD A.length 0=(Ap c A A.length).h:=by
  exact Yaw
 have ah:(AV c (A++(m,d)::B) sz).kids.getD (A.length+1) 0=d.h:=by
  exact Yax
 obtain⟨ax,ay⟩:=Yju;obtain⟨R1,I⟩:=Zx (AQ (AQ R (Ap c A A.length).h (some ((Ip (Af R t (Ap c A A.length).h) (Af R t d.h) m.kh m.vh).wd t))) d.h none);have az:R1 (Ap c A A.length).h=some ((Ip (Af R t (Ap c A A.length).h) (Af R t d.h) m.kh m.vh).wd t):=by rw [I,Aw au,AT]
 have aA:R1 d.h=none:=by rw [I,AT]
 have al:=Ykr;have aB:d.h∉nl:=λhm=>by
  have h1:=g7 d.h;have ac:=List.nodup_iff_count.1 O d.h;have aM:=List.count_pos_iff.2 hm;rw [List.count_append] at ac;simp only [List.count_cons_self,List.count_nil] at h1;omega
 have am:=g10 R1 az (λz h0 h1=>al z h1 (λe=>aB (by rw [<-e];exact h0))) O;obtain⟨aC,aD,aE,aF,aG,aH,aI,an,aJ⟩:=T2 (R1:=R1) Z V J ao g7 (λz h1 ac=>al z (λe=>h1 (by rw [e];exact DE aa)) (λe=>ac (by rw [e];exact DE ab))) (am.lower jA) _ _ rfl;refine⟨R1,_,_, ?_,ah,aC,aD,aE,aF,aA,aG,aH, ?_,by rw [an],by rw [an];exact am.lower jA,aJ⟩
 . unfold BO
   obtain⟨ws,w1,w2⟩:=aa.rec;simp only [aw,ah,ax,ay];rw [B8 g5 w1 w2,<-I,XV (M:=⟨(Ap c A A.length).h,(Ap c A A.length).Aa++m::d.Aa,nl⟩) rfl];rfl
 . rw [aI,HF];simp
theorem Gz{g:Wh}{f k:Nat}{b:Bool}(I:Af R t x=n)(hg:g R n=(k,b)):AR t (f+1) R x g=AR.tkGo t R x n k b (λR x=>AR t f R x g) (λR x=>AR t f R x Ci) (λR x=>AR t f R x Cv):=by
 subst I
 conv=>lhs;unfold AR
 rw [hg]
def YR{P}(h:P:=by
 exact Pf Z hw al ay an nn hA aq am ar ae ag aA aB O):=h
def Ydh{P}(h:P:=by
 rw [ao,HF];have:(Ap c A A.length).Aa++m::(d.Aa++rest B)=il++m' ::(id++rest B):=by
  have:=congrArg (· ++rest B) g2
  simpa using this
 rw [this]):=h
def Yel{P}(h:P:=by
 rw [af,ac];refine Rg ah.2 (by rw [Hn];simp) λx hx=> ?_
 rw [Ki (by rfl)] at hx
 simpa using hx):=h
def Yfp{P}(h:P:=by
 unfold AR.tkIn;dsimp only;rw [au,B8 (Sv az) (aC.trans w1) w2]):=h
def Yfv{P}(h:P:=by
 have:=aw x;have ai:=List.count_pos_iff.2 hx;exact List.count_pos_iff.1 jA):=h
def Ygj{P}(h:P:=by
 have I:l2.length=A.length+(B.length+1):=by rw [ac,Hn];simp
 omega):=h
def Ylc{P}(h:P:=by
 have au:(AV c (A++(m,d)::B) ((Aj c (A++(m,d)::B)).length-1)).Dm A.length b.kh b.vh=AV c2 l2 ((Aj c (A++(m,d)::B)).length-1):=by
  rw [af,ac];exact MV (by rfl) (by rfl)
 exact au):=h
def Ynv{P}(h:P:=by
 have hle:(Aj c2 l2).length=(Aj c (A++(m,d)::B)).length-1:=by rw [ax,List.length_eraseIdx,if_pos O]
 exact hle):=h
def Yri{P}(h:P:=by
 have J: ∀z,z∈Ax c2 l2->z∈Ax c (A++(m,d)::B):=λz I=>by
  exact Yde
 have O:U∉Ax c2 l2:=λhm=>an (J _ hm)
 exact And.intro J O):=h
def Yrt{P}(h:P:=by
 have au:=Ylc;have ax:Aj c2 l2=(Aj c (A++(m,d)::B)).eraseIdx j:=by
  rw [af,ac,Of,aE,BU];dsimp only
  conv=>rhs;rw [aD]
  simp
 have hle:=Ynv;exact And.intro au (And.intro ax hle)):=h
theorem UJ(Z:BN.A0 t): ∀(a lo f:Nat) (s:Sb) (j:Nat) (R:Zr) (g:Wh) (T:List It->Nat->Prop),P9 g T->At R t a lo s->R 0=none->s.ns.Nodup->(∀i∈s.Aa,i.At R)->(∀i∈s.Aa,∀z∈i.hs,z∉s.ns)->AZ (AJ s.Aa)->T s.Aa j->(O:j<s.Aa.length)->s.Aa.length<18446744073709551616->1<=lo->lo<=t->a<f->
 ∃R' D,AR t f R s.h g=(R',D,(s.Aa[j].kh,s.Aa[j].vh))/\HP R R' t a (lo-1) s j D:=by
 intro a
 induction a with
 |zero=>
  intro lo f s j R g T hw h ag a9 hA aq am ar O ae h1 aU bu;obtain⟨f,rfl⟩: ∃g,f=g+1:=⟨f-1,jA⟩;obtain⟨a0,bi⟩:=h.2.2.get Z;rw [Gz a0 (hw.leaf R s.Aa j hA am ar O)];have bv:(Ar s.Aa).less.HI j=Ar (s.Aa.eraseIdx j):=by
   unfold BN.less BN.HI Ar;simp only [HJ,List.length_eraseIdx,if_pos O,BN.mk.injEq,true_and];omega
  have bj:(Ar (s.Aa.eraseIdx j)).Fits t:=Co (by
   have:=h.2.2.2.1;simp only [Ar,List.length_map] at this;rw [List.length_eraseIdx,if_pos O];omega)
  refine⟨AQ R s.h (some ((Ar (s.Aa.eraseIdx j)).wd t)),[], ?_,⟨s.ns,⟨h.1, ?_,AT _ _ _,bj⟩,λx=>by simp⟩,λz bw=>Aw λe=>bw (by rw [h.1,e];simp),λz I=>absurd I (by simp)⟩
  . unfold AR.tkGo
    rw [if_pos (show(Ar s.Aa).kids= [] from rfl),cond_true,bv,B8 bj h.2.2.1 (BN.B0 _ _)];simp [Ar,O]
  . show lo-1<=(s.Aa.eraseIdx j).length
    have:=h.2.1;rw [List.length_eraseIdx,if_pos O];omega
 |succ a ih=>
  intro lo f s j R g T hw h ag a9 hA aq am ar O ae bV bW bu;obtain⟨f,rfl⟩: ∃g,f=g+1:=⟨f-1,jA⟩;have t1:=Z.1;have aA:=h.FH ag;have ay:=h.rec;obtain⟨c,l,h1,aU,bX,ah,V,J⟩:=h;obtain⟨a0,bi⟩:=ah.get Z;obtain⟨U,bY,bZ⟩:=s;dsimp only at h1 aU ah hA aq am ar O ae a9 a0 bi aA ay ⊢;subst h1 aU;obtain⟨an,nn⟩:=List.nodup_cons.1 a9;have bz: ∀s∈EV c l,s.Aa≠ []:=Ji (FX Z jA V) (λp hp=>FX Z jA (J p hp));have aY:=hw.inner R c l j hA am bz ar O;have bk:(Al c l).less=AV c l ((Aj c l).length-1):=XS jA ae;have bm:(Al c l).kids≠ []:=by simp [Al]
  have aB: ∀(s:Sb) (j:Nat) (R:Zr),At R t a t s->R 0=none->s.ns.Nodup->(∀i∈s.Aa,i.At R)->(∀i∈s.Aa,∀z∈i.hs,z∉s.ns)->AZ (AJ s.Aa)->T s.Aa j->(O:j<s.Aa.length)->s.Aa.length<18446744073709551616-> ∃R' D,AR t f R s.h g=(R',D,(s.Aa[j].kh,s.Aa[j].vh))/\HP R R' t a (t-1) s j D:=
   λs j R q1 aw aG a1 bA bB bC bD bE=>ih t f s j R g T hw q1 aw aG a1 bA bB bC bD bE jA (Nat.le_refl _) jA
  rcases PI c l j O with ⟨k,aV,aR,aK,aF,ba⟩|⟨k,aR,aF,ba⟩
  . rw [ba] at aY
    rw [Gz a0 aY];unfold AR.tkGo;rw [if_neg bm,cond_false,bk];by_cases r1:Bl R t (AV c l ((Aj c l).length-1)) k=true
    . have al:Kg R R t a U c l c l k aV j [] lo:=⟨rfl,aR,aF,aK,λx=>by simp,V,J,(Hy k V J).up Z (by rw [Cm aR] at r1;simpa using r1),λz _=>rfl,λz I=>absurd I (by simp),ah.2,jA⟩
      have e:Bw R t (AV c l ((Aj c l).length-1)) k=(R,AV c l ((Aj c l).length-1),[],k):=(by unfold Bw;rw [if_pos r1]);rw [e];exact YR
    . by_cases r2:0<k/\Bl R t (AV c l ((Aj c l).length-1)) (k-1)=true
      . have e:Bw R t (AV c l ((Aj c l).length-1)) k=((E1 R t (AV c l ((Aj c l).length-1)) (k-1)).1,(E1 R t (AV c l ((Aj c l).length-1)) (k-1)).2,[],k):=by unfold Bw;rw [if_neg r1,if_pos r2]
        rw [e];obtain⟨r3,aS⟩:=r2;rw [Cm aR] at r1;rw [Cm jA] at aS;obtain⟨A,m,d,B,rfl,aW⟩:=FD (l:=l) (i:=k-1) jA;obtain rfl:k=A.length+1:=jA
        rw [show A.length+1-1=A.length from rfl] at aS ⊢;rw [DQ _ _ _ _ (Nat.le_refl _)] at aS;rw [DT] at r1 aK;replace aK :aV <d.Aa.length:=aK;rw [Lt] at aF;obtain⟨R1,c2,l2,m',il,id,g1,g2,g3,aL,aM,aN,aO,aP,aH,ao,aQ,aI,aJ⟩:=TY (sz:=(Aj c (A++(m,d)::B)).length-1) Z nn V J ah.2 ae (by simpa using aS) (by simpa using r1);rw [g1];have aY:=congrArg List.length g2;simp only [List.length_append,List.length_cons] at aY;have al:Kg R R1 t a U c (A++(m,d)::B) c2 l2 (A.length+1) (id.length-d.Aa.length+aV) j [] lo:=by
         refine⟨?_,by rw [aH];simp, ?_,by rw [aQ];omega,λx=>by rw [aL];simp,aM,aN,aI,aO,λz I=>absurd I (by simp),aP,by rw [aH];omega⟩
         . exact Ydh
         . rw [aJ,aF]
           exact YU
        exact YR
      . by_cases r3:Bl R t (AV c l ((Aj c l).length-1)) (k+1)=true
        . have e:Bw R t (AV c l ((Aj c l).length-1)) k=((DF R t (AV c l ((Aj c l).length-1)) k).1,(DF R t (AV c l ((Aj c l).length-1)) k).2,[],k):=by unfold Bw;rw [if_neg r1,if_neg r2,if_pos r3]
          rw [e];have bF:k<l.length:=by
           rcases Nat.lt_or_ge k l.length with h|h
           . exact h
           . rw [Td jA] at r3;cases r3
          rw [Cm aR] at r1;rw [Cm jA] at r3;obtain⟨A,m,d,B,rfl,aW⟩:=FD bF;subst aW;rw [DQ _ _ _ _ (Nat.le_refl _)] at r1 aK;rw [DT] at r3;rw [IM _ _ _ _ (Nat.le_refl _)] at aF;obtain⟨R1,c2,l2,m',il,id,g1,g2,g3,aL,aM,aN,aO,aP,aH,ao,aQ,aI,aJ⟩:=S0 (sz:=(Aj c (A++(m,d)::B)).length-1) Z nn V J ah.2 ae (by simpa using r3) (by simpa using r1);rw [g1];have al:Kg R R1 t a U c (A++(m,d)::B) c2 l2 A.length aV j [] lo:=by
           refine⟨?_,by rw [aH];simp,by rw [aJ];exact aF,by rw [aQ];omega,λx=>by rw [aL];simp,aM,aN,aI,aO,λz I=>absurd I (by simp),aP,by rw [aH];omega⟩;exact Ydh
          exact YR
        . by_cases aS:0<k
          . have e:Bw R t (AV c l ((Aj c l).length-1)) k=((BO R t (AV c l ((Aj c l).length-1)) (k-1)).1,(BO R t (AV c l ((Aj c l).length-1)) (k-1)).2,[(AV c l ((Aj c l).length-1)).kids.getD (k-1+1) 0],k-1):=by unfold Bw;rw [if_neg r1,if_neg r2,if_neg r3,if_pos aS]
            rw [e];have a5: ¬Bl R t (AV c l ((Aj c l).length-1)) (k-1)=true:=(λh=>r2 ⟨aS,h⟩);rw [Cm aR] at r1;rw [Cm jA] at a5;clear r2 r3;obtain⟨A,m,d,B,rfl,aW⟩:=FD (l:=l) (i:=k-1) jA;obtain rfl:k=A.length+1:=jA
            rw [show A.length+1-1=A.length from rfl] at a5 ⊢;rw [DQ _ _ _ _ (Nat.le_refl _)] at a5;rw [DT] at r1 aK;replace aK :aV <d.Aa.length:=aK;rw [Lt] at aF;obtain⟨R1,c2,l2,g1,g2,aL,aM,aN,aO,aP,aH,ao,aQ,aI,aJ,aZ⟩:=Iz (sz:=(Aj c (A++(m,d)::B)).length-1) Z nn V J ah.2 ae ag (by simpa using r1) (by simpa using a5);rw [g1,g2];have al:Kg R R1 t a U c (A++(m,d)::B) c2 l2 A.length ((Ap c A A.length).Aa.length+1+aV) j [d.h] lo:=by
             refine⟨aQ,by simp at ao;omega, ?_,by rw [aI];simp;omega,aL,aM,aN,aJ,aO,λz I=>by rw [List.mem_singleton] at I;rw [I];exact aP,aH,jA⟩;rw [aZ,aF];exact YU
            exact YR
          . obtain rfl:k=0:=jA
            have e:Bw R t (AV c l ((Aj c l).length-1)) 0=((BO R t (AV c l ((Aj c l).length-1)) 0).1,(BO R t (AV c l ((Aj c l).length-1)) 0).2,[(AV c l ((Aj c l).length-1)).kids.getD (0+1) 0],0):=by
             unfold Bw;rw [if_neg r1,if_neg r2,if_neg r3,if_neg aS,if_pos (by simp [AV];omega)]
            rw [e];rw [Cm aR] at r1;rw [Cm jA] at r3;clear r2;obtain⟨A,m,d,B,rfl,aW⟩:=FD (l:=l) (i:=0) jA;obtain rfl:A= []:=List.eq_nil_of_length_eq_zero aW;have bG :(Af R t (Ap c [] ([]:List Lk).length).h).keys.length<t:=by
             rw [DQ c [] _ 0 (Nat.le_refl _)] at r1
             simpa using r1
            have bH :(Af R t d.h).keys.length<t:=by
             have:=DT c [] (m,d) B;simp only [List.length_nil] at this;rw [this] at r3
             simpa using r3
            rw [DQ c [] _ 0 (Nat.le_refl _)] at aK;rw [IM c [] _ 0 (Nat.le_refl _)] at aF;obtain⟨R1,c2,l2,g1,g2,aL,aM,aN,aO,aP,aH,ao,aQ,aI,aJ,aZ⟩:=Iz (A:= []) (sz:=(Aj c ([]++(m,d)::B)).length-1) Z nn V J ah.2 ae ag bH bG;simp only [List.length_nil] at g1 g2 aI aJ aZ;rw [g1,g2];have al:Kg R R1 t a U c ([]++(m,d)::B) c2 l2 0 aV j [d.h] lo:=by
             refine⟨aQ,jA,by rw [aZ];exact aF,by rw [aI];simp;omega,aL,aM,aN,aJ,aO,λz I=>by rw [List.mem_singleton] at I;rw [I];exact aP,aH,jA⟩
            exact YR
  . rw [ba] at aY
    rw [Gz a0 aY];unfold AR.tkGo;rw [if_neg bm,cond_true,bk];have bo: ∀i,Bl R t (Al c l) i=Bl R t (AV c l ((Aj c l).length-1)) i:=(λi=>rfl);rw [bo,bo];obtain⟨A,m,d,B,rfl,aW⟩:=FD aR;subst aW;rw [DQ _ _ _ _ (Nat.le_refl _),IM _ _ _ _ (Nat.le_refl _)] at aF;have bI:(Al c (A++(m,d)::B)).kids.getD A.length 0=(Ap c A A.length).h:=by
     exact Yaw
    have bJ:(Al c (A++(m,d)::B)).kids.getD (A.length+1) 0=d.h:=by
     exact Yax
    have bK:(Al c (A++(m,d)::B)).keys.getD A.length 0=m.kh:=(by simp [Al]);have bL:(Al c (A++(m,d)::B)).Ab.getD A.length 0=m.vh:=(by simp [Al]);have Gk:=HF c A m d B;have bp:(Aj c (A++(m,d)::B))[j]=m:=by
     have ai:(Aj c (A++(m,d)::B))[j]? =some m:=by
      rw [Gk,aF,List.getElem?_append_right jA,List.getElem?_append_right jA];simp
     exact ZB
    have aE:(Aj c (A++(m,d)::B)).eraseIdx j=pre c A A.length++((Ap c A A.length).Aa++(d.Aa++rest B)):=by
     rw [Gk,aF,List.eraseIdx_append_of_length_le jA,List.eraseIdx_append_of_length_le jA];simp
    rw [bI,bJ,bK,bL,bp];obtain⟨bb,bc⟩:=Y3;have aT:=Yh;have bM:((Ap c A A.length).ns++d.ns).Nodup:=by
     rw [List.nodup_iff_count];intro x;have h1:=List.nodup_iff_count.1 nn x;have aU:=NV c A A.length x (Nat.le_refl _);rw [aT] at h1;simp only [Ax,List.count_append] at h1 aU ⊢;omega
    obtain⟨n1,n2,n3⟩:=List.nodup_append.1 bM;have a6: ∀z,z∈(Ap c A A.length).ns->z∈Ax c (A++(m,d)::B):=(λz I=>by rw [aT];exact List.mem_append.2 (.inl (D4 (Nat.le_refl _) I)));have a7: ∀z,z∈d.ns->z∈Ax c (A++(m,d)::B):=(λz I=>by rw [aT];exact List.mem_append.2 (.inr (List.mem_append.2 (.inl I))));have bq: ∀i,i∈(Ap c A A.length).Aa->i∈Aj c (A++(m,d)::B):=(λi hi=>by rw [Gk];simp [hi]);have br: ∀i,i∈d.Aa->i∈Aj c (A++(m,d)::B):=(λi hi=>by rw [Gk];simp [hi]);have a8:=FX Z jA bb;have bN:=FX Z jA bc;have hlen:=congrArg List.length Gk;simp only [List.length_append,List.length_cons] at hlen;have bd:=am;rw [Gk,Bq,Bq,CT,Bq] at bd;have bO:AZ (AJ (Ap c A A.length).Aa):=(List.pairwise_append.1 (List.pairwise_append.1 bd).2.1).1;have bP:AZ (AJ d.Aa):=(List.pairwise_append.1 (List.pairwise_cons.1 (List.pairwise_append.1 (List.pairwise_append.1 bd).2.1).2.1).2).1;have b3:(A++(m,d)::B).length=A.length+(B.length+1):=(by simp);by_cases r1:Bl R t (AV c (A++(m,d)::B) ((Aj c (A++(m,d)::B)).length-1)) A.length=true
    . rw [if_pos r1]
      rw [Cm (by simp),DQ _ _ _ _ (Nat.le_refl _)] at r1;obtain⟨R1,D,g1,g2⟩:=ih t f (Ap c A A.length) ((Ap c A A.length).Aa.length-1) R Ci _ NO (bb.up Z (by simpa using r1)) ag n1 (λi hi=>hA i (bq i hi)) (λi hi z I hm=>aq i (bq i hi) z I (List.mem_cons_of_mem _ (a6 z hm))) bO (by have:=List.length_pos_iff.2 a8;omega) (by have:=List.length_pos_iff.2 a8;omega) jA jA (Nat.le_refl _) jA
      show∃R' D,AR.tkIn t U _ A.length (m.kh,m.vh) (AR t f R (Ap c A A.length).h Ci)=(R',D,(m.kh,m.vh))/\HP _ _ _ _ _ _ _ _
      rw [g1];obtain⟨⟨nl,q1,aw⟩,aG,a1⟩:=g2;have b4:=List.length_pos_iff.2 a8;obtain⟨b,a2⟩:=Zx ((Ap c A A.length).Aa[(Ap c A A.length).Aa.length-1]'jA);have aD:(Ap c A A.length).Aa=(Ap c A A.length).Aa.eraseIdx ((Ap c A A.length).Aa.length-1)++ [b]:=by
       rw [List.eraseIdx_eq_dropLast jA,a2]
       conv=>lhs;rw [<-List.dropLast_concat_getLast a8]
       rw [List.getLast_eq_getElem]
      rw [<-a2];have bQ:At R1 t a (t-1) ⟨d.h,d.Aa,d.ns⟩:=(bc.congr λz I=>aG z λhm=>n3 z hm z I rfl);have be: ∀x,x∈D->x∈(Ap c A A.length).ns:=λx hx=>by
       exact Yfv
      obtain⟨c2,l2,a3⟩: ∃c2 l2,(c2,l2)=rep c A ⟨(Ap c A A.length).h,(Ap c A A.length).Aa.eraseIdx ((Ap c A A.length).Aa.length-1),nl⟩ ((b,⟨d.h,d.Aa,d.ns⟩)::B):=⟨_,_,rfl⟩;have af :=congrArg Prod.fst a3;have ac :=congrArg Prod.snd a3;dsimp only at af ac;obtain⟨au,ax,hle⟩:=Yrt;have bf:(Ax c A).Nodup:=(by rw [aT] at nn;exact(List.nodup_append.1 nn).1);have bg: ∀z,z∈Ax c A->z∉Ax d B:=(λz h1 aU=>by rw [aT] at nn;exact(List.nodup_append.1 nn).2.2 z h1 z aU rfl);have aX:=ML (R:=R) (R1:=R1) (a:=a) (lo:=t-1) (L:=⟨(Ap c A A.length).h,(Ap c A A.length).Aa.eraseIdx ((Ap c A A.length).Aa.length-1),nl⟩) (X:=(b,⟨d.h,d.Aa,d.ns⟩)::B) bf V (λp hp=>J p (List.mem_append.2 (.inl hp))) (λz _ I=>aG z I) q1 (λp hp=>by
       rcases List.mem_cons.1 hp with rfl|hp
       . exact bQ
       . exact(J p (by simp [hp])).congr λz I=>aG z λhm=>bg z (D4 (Nat.le_refl _) hm) (List.mem_append.2 (.inr (List.mem_flatMap.2 ⟨p,hp,I⟩))))
      have az:(Al c2 l2).Fits t:=by
       exact Yel
      have aC:R1 U=R U:=(aG U λhm=>an (a6 _ hm));obtain⟨ws,w1,w2⟩:=ay;have aj: ∀x,(Ax c2 l2).count x+D.count x=(Ax c (A++(m,d)::B)).count x:=λx=>by
       have g1:=MO (c:=c) (A:=A) (L:=⟨(Ap c A A.length).h,(Ap c A A.length).Aa.eraseIdx ((Ap c A A.length).Aa.length-1),nl⟩) (X:=(b,⟨d.h,d.Aa,d.ns⟩)::B) x;have g2:=aw x;rw [af,ac,aT,List.count_append];exact Ydx
      obtain⟨b5,a4⟩:=Yri;rw [<-af,<-ac] at aX;refine⟨AQ R1 U (some ((AV c2 l2 ((Aj c (A++(m,d)::B)).length-1)).wd t)),D, ?_,⟨U::Ax c2 l2,⟨c2,l2,ax.symm,rfl, ?_,⟨?_,az⟩,CP aX.1 (λhm=>a4 (List.mem_append.2 (.inl hm))),λp hp=>CP (aX.2 p hp) (λhm=>a4 (C7 hp hm))⟩,λx=> ?_⟩,λz I=> ?_,λz I=> ?_⟩
      . exact Yfp
      . exact Ygj
      . rw [AT,<-hle];rfl
      . have:=aj x
        simp only [List.count_cons];omega
      . simp only [List.mem_cons,not_or] at I
        rw [Aw I.1];exact aG z λhm=>I.2 (a6 z hm)
      . rw [Aw (λe=>an (by rw [<-e];exact a6 _ (be z I)))]
        exact a1 z I
    . rw [if_neg r1]
      by_cases r2:Bl R t (AV c (A++(m,d)::B) ((Aj c (A++(m,d)::B)).length-1)) (A.length+1)=true
      . rw [if_pos r2]
        rw [Cm (by simp),DT] at r2;have bh:=List.length_pos_iff.2 bN;obtain⟨R1,D,g1,g2⟩:=ih t f d 0 R Cv _ Nb (bc.up Z (by simpa using r2)) ag n2 (λi hi=>hA i (br i hi)) (λi hi z I hm=>aq i (br i hi) z I (List.mem_cons_of_mem _ (a7 z hm))) bP rfl bh jA jA (Nat.le_refl _) jA
        show∃R' D,AR.tkIn t U _ A.length (m.kh,m.vh) (AR t f R d.h Cv)=(R',D,(m.kh,m.vh))/\HP _ _ _ _ _ _ _ _
        rw [g1];obtain⟨⟨nd,q1,aw⟩,aG,a1⟩:=g2;obtain⟨b,a2⟩:=Zx (d.Aa[0]'bh);have aD:d.Aa=b::d.Aa.eraseIdx 0:=by
         rw [a2];have: ∀(l:List It) (h:0<l.length),l=l[0]::l.eraseIdx 0:=λl h=>by
          cases l with
          |nil=>simp at h
          |cons x xs=>rfl
         exact this d.Aa bh
        rw [<-a2];have be: ∀x,x∈D->x∈d.ns:=λx hx=>by
         exact Yfv
        have bR:At R1 t a (t-1) ⟨(Ap c A A.length).h,(Ap c A A.length).Aa,(Ap c A A.length).ns⟩:=(bb.congr λz I=>aG z λhm=>n3 z I z hm rfl);obtain⟨c2,l2,a3⟩: ∃c2 l2,(c2,l2)=rep c A ⟨(Ap c A A.length).h,(Ap c A A.length).Aa,(Ap c A A.length).ns⟩ ((b,⟨d.h,d.Aa.eraseIdx 0,nd⟩)::B):=⟨_,_,rfl⟩;have af :=congrArg Prod.fst a3;have ac :=congrArg Prod.snd a3;dsimp only at af ac;obtain⟨au,ax,hle⟩:=Yrt;have bs:=nn;rw [aT] at bs;obtain⟨bf,bS,bg⟩:=List.nodup_append.1 bs;have bT:(d.ns++B.flatMap λp=>p.2.ns).Nodup:=bS;have aX:=ML (R:=R) (R1:=R1) (a:=a) (lo:=t-1) (L:=⟨(Ap c A A.length).h,(Ap c A A.length).Aa,(Ap c A A.length).ns⟩) (X:=(b,⟨d.h,d.Aa.eraseIdx 0,nd⟩)::B) bf V (λp hp=>J p (List.mem_append.2 (.inl hp))) (λz bU _=>aG z λhm=>bg z bU z (List.mem_append.2 (.inl hm)) rfl) bR (λp hp=>by
         rcases List.mem_cons.1 hp with rfl|hp
         . exact q1
         . exact(J p (by simp [hp])).congr λz I=>aG z λhm=>(List.nodup_append.1 bT).2.2 z hm z (List.mem_flatMap.2 ⟨p,hp,I⟩) rfl)
        have az:(Al c2 l2).Fits t:=by
         exact Yel
        have aC:R1 U=R U:=(aG U λhm=>an (a7 _ hm));obtain⟨ws,w1,w2⟩:=ay;have aj: ∀x,(Ax c2 l2).count x+D.count x=(Ax c (A++(m,d)::B)).count x:=λx=>by
         have g1:=MO (c:=c) (A:=A) (L:=⟨(Ap c A A.length).h,(Ap c A A.length).Aa,(Ap c A A.length).ns⟩) (X:=(b,⟨d.h,d.Aa.eraseIdx 0,nd⟩)::B) x;have g2:=aw x;rw [af,ac,aT,List.count_append];exact Ydx
        obtain⟨_,a4⟩:=Yri;rw [<-af,<-ac] at aX;refine⟨AQ R1 U (some ((AV c2 l2 ((Aj c (A++(m,d)::B)).length-1)).wd t)),D, ?_,⟨U::Ax c2 l2,⟨c2,l2,ax.symm,rfl, ?_,⟨?_,az⟩,CP aX.1 (λhm=>a4 (List.mem_append.2 (.inl hm))),λp hp=>CP (aX.2 p hp) (λhm=>a4 (C7 hp hm))⟩,λx=> ?_⟩,λz I=> ?_,λz I=> ?_⟩
        . exact Yfp
        . exact Ygj
        . rw [AT,<-hle];rfl
        . have:=aj x
          simp only [List.count_cons];omega
        . simp only [List.mem_cons,not_or] at I
          rw [Aw I.1];exact aG z λhm=>I.2 (a7 z hm)
        . rw [Aw (λe=>an (by rw [<-e];exact a7 _ (be z I)))]
          exact a1 z I
      . rw [if_neg r2]
        rw [Cm (by simp),DQ _ _ _ _ (Nat.le_refl _)] at r1;rw [Cm (by simp),DT] at r2;obtain⟨R1,c2,l2,g1,g2,aL,aM,aN,aO,aP,aH,ao,aQ,aI,aJ,aZ⟩:=Iz (sz:=(Aj c (A++(m,d)::B)).length-1) Z nn V J ah.2 ae ag (by simpa using r2) (by simpa using r1);rw [g1];have al:Kg R R1 t a U c (A++(m,d)::B) c2 l2 A.length (Ap c A A.length).Aa.length j [d.h] lo:=by
         refine⟨aQ,by simp at ao;omega,by rw [aZ];exact aF,by rw [aI];simp,aL,aM,aN,aJ,aO,λz I=>by rw [List.mem_singleton] at I;rw [I];exact aP,aH,jA⟩
        have:=Pf Z hw al ay an nn hA aq am ar ae ag aA aB O;rw [bp] at this;exact this
end
end Bt
def GJ(R:Zr)(t root:Nat)(g:Wh):(Zr) × Nat × (Nat × Nat):=
 if (Af (AR t 40 R root g).1 t root).keys= [] then (AQ (AR t 40 R root g).1 root none,(Af (AR t 40 R root g).1 t root).kids.getD 0 0,(AR t 40 R root g).2.2)
 else ((AR t 40 R root g).1,root,(AR t 40 R root g).2.2)
namespace Bt
section
variable {R:Zr} {t:Nat}
theorem UE(O:BN.A0 t){g:Wh}{T:List It->Nat->Prop}(hw:P9 g T){root:Nat}{Aa:List It}{ns:List Nat}{hg j:Nat}(h:Tree R t root Aa ns hg)(au:R 0=none)(Z:Own R Aa ns)(aw:T Aa j)(ah:j<Aa.length)(ax:Aa.length<549755813888):
 ∃(R' :Zr) (now:Nat) (ai :List Nat) (ay :Nat) (D:List Nat),GJ R t root g=(R',now,(Aa[j].kh,Aa[j].vh))/\Tree R' t now (Aa.eraseIdx j) ai ay /\(∀x,ai.count x+D.count x=ns.count x)/\(∀z,z∉ns->R' z=R z)/\ ∀z∈D,R' z=none:=by
 rcases h with ⟨_,rfl,_,_⟩|⟨a,rfl,h⟩
 . exact absurd ah (by simp)
 have aj:=(List.nodup_append.1 Z.nodup).1;have az: ∀i∈Aa,∀z∈i.hs,z∉ns:=λi hi z J aA=>(List.nodup_append.1 Z.nodup).2.2 z aA z (List.mem_flatMap.2 ⟨i,hi,J⟩) rfl
 have t1:=O.1;obtain⟨R1,D,al,⟨aa,ha,I⟩,ab,ac⟩:=UJ O a 1 40 ⟨root,Aa,ns⟩ j R g T hw h au aj Z.at' az Z.CY aw ah (by show Aa.length<_;omega) (Nat.le_refl _) jA (h.high O ax);dsimp only at al ha I ab ac;have am:aa.Nodup:=List.nodup_iff_count.2 λx=>by have:=List.nodup_iff_count.1 aj x;have:=I x;omega
 have aB:root∈ns:=List.count_pos_iff.1 (by have:=I root;have:=List.count_pos_iff.2 (DE ha);dsimp only at this;omega);have an: ∀z,z∉ns->AQ R1 root none z=R z:=λz J=>(Aw λe=>J (by rw [e];exact aB)).trans (ab z J)
 have ao: ∀z∈root::D,AQ R1 root none z=none:=λz J=>by
  by_cases e:z=root
  . rw [e];exact AT _ _ _
  . rw [Aw e]
    exact ac z ((List.mem_cons.1 J).resolve_left e)
 unfold GJ;rw [al];dsimp only
 cases a with
 |zero=>
  obtain⟨h1,U,V⟩:=ha;dsimp only at h1 U V;rw [(V.get O).1];by_cases ae:Aa.eraseIdx j= []
  . rw [if_pos (by rw [ae];rfl)]
    refine⟨_,_,[],0,root::D,rfl, .inl ⟨rfl,ae,rfl,rfl⟩,λx=> ?_,an,ao⟩;have:=I x;rw [h1] at this;rw [List.count_nil,<-this,List.count_cons,List.count_cons,List.count_nil];omega
  . rw [if_neg (show¬(Ar (Aa.eraseIdx j)).keys= [] from λe=>ae (List.map_eq_nil_iff.1 e))]
    exact⟨_,_,aa,0+1,D,rfl, .inr ⟨0,rfl,h1,List.length_pos_iff.2 ae,V⟩,I,ab,ac⟩
 |succ a=>
  obtain⟨c,l,h1,U,V,af,aq,aC⟩:=ha;dsimp only at h1 U V af;rw [(af.get O).1];by_cases ag:l= []
  . subst ag
    rw [if_pos (show(Al c []).keys= [] from rfl)];have aD:Aa.eraseIdx j=c.Aa:=(by rw [h1];simp [Aj,rest]);have ar:aa=root::c.ns:=(by rw [U];simp [Ax]);have aE:root∉c.ns:=(by rw [ar] at am;exact(List.nodup_cons.1 am).1);have aF:At (AQ R1 root none) t a 1 ⟨c.h,Aa.eraseIdx j,c.ns⟩:=by
     rw [aD];exact(aq.lower jA).congr λx hx=>Aw λe=>aE (by rw [<-e];exact hx)
    refine⟨_,_,c.ns,a+1,root::D,rfl, .inr ⟨a,rfl,aF⟩,λx=> ?_,an,ao⟩;have:=I x;rw [ar,List.count_cons] at this;rw [<-this,List.count_cons];omega
  . rw [if_neg (show¬(Al c l).keys= [] from λe=>ag (List.map_eq_nil_iff.1 e))]
    exact⟨_,_,aa,a+1+1,D,rfl, .inr ⟨a+1,rfl,c,l,h1,U,List.length_pos_iff.2 ag,af,aq,aC⟩,I,ab,ac⟩
end
end Bt
variable {F':Nat->Prop}{H':List Nat}{T:TypeId}{W:World}{b j:Nat}{v:Value}
theorem Mb(x:Nat): ∀(l:List It) (j:Nat) (h:j<l.length),((l.eraseIdx j).flatMap It.hs).count x+l[j].hs.count x=(l.flatMap It.hs).count x
 | [],j,h=>absurd h (by simp)
 |i::l,0,h=>by simp [List.count_append];omega
 |i::l,j+1,h=>by
  have:=Mb x l j (by simpa using h);simp only [List.eraseIdx_cons_succ,List.flatMap_cons,List.count_append,List.getElem_cons_succ];omega
section
variable {w w':World} {s:Nat} {F:Nat->Prop} {R:Zr} {H:List Nat} {P q most last G t root:Nat} {Aa:List It} {ns:List Nat} {hg m:Nat}
theorem AN.cut(aj:BN.A0 t)(h:AN w s F R H P q most last G t root Aa ns hg m){g:Wh}{T:List It->Nat->Prop}(hw:Bt.P9 g T)(al:T Aa j)(aa:j<Aa.length)(am:Aa.length<549755813888)
 (hs:Ah w' s F' (GJ R t root g).1 H' P q most last G) (ab:A6 (GJ R t root g).1):
 ∃(O :List Nat) (ac :Nat),AN w' s F' (GJ R t root g).1 H' P q most last G t (GJ R t root g).2.1 (Aa.eraseIdx j) O ac (m+2)/\(GJ R t root g).2.2=(Aa[j].kh,Aa[j].vh)/\Aa[j].At (GJ R t root g).1/\((O ++(Aa.eraseIdx j).flatMap It.hs)++Aa[j].hs).Nodup:=by
 obtain⟨R',now,O,ac,D,e,h1,V,ae,an⟩:=Bt.UE aj hw h.tr h.z h.ow al aa am;rw [e] at hs ab ⊢;dsimp only at hs ab ⊢;have af:=h.ow.nodup;have ao:=(List.nodup_append.1 af).1;have aq: ∀i∈Aa,∀z∈i.hs,z∉ns:=λi hi z ar au=>(List.nodup_append.1 af).2.2 z au z (List.mem_flatMap.2 ⟨i,hi,ar⟩) rfl
 have aw:0∉ns:=λh0=>h.ne 0 (List.mem_append_left _ h0) h.z
 have ag: ∀i∈Aa,i.At R' :=λi hi=>(h.ow.at' i hi).congr λz I=>ae z (aq i hi z I)
 have ah: ∀x,((O ++(Aa.eraseIdx j).flatMap It.hs)++Aa[j].hs).count x<=1:=λx=>by
  have ax:=List.nodup_iff_count.1 af x;have ai:=V x;have ay:=Mb x Aa j aa;rw [List.count_append] at ax;rw [List.count_append,List.count_append];omega
 have aG:ns.length=O.length+D.length:=by
  have:ns.Perm (O ++D):=List.perm_iff_count.2 λx=>by rw [List.count_append];exact(V x).symm
  rw [this.length_eq,List.length_append]
 have az: ∀z∈O,R' z≠none:=λz I=>by
  rcases h1 with ⟨_,_,U,_⟩|⟨a,_,J⟩
  . rw [U] at I;simp at I
  . obtain⟨ws,Z,_⟩:=J.Fp z I;rw [Z];simp
 have aA: ∀z,z∈D->z∈ns:=λz I=>List.count_pos_iff.1 (by have:=V z;have:=List.count_pos_iff.2 I;omega)
 have hlen:H.length=H'.length+D.length:=by
  have aB:D.Nodup:=List.nodup_iff_count.2 λx=>by have:=List.nodup_iff_count.1 ao x;have:=V x;omega
  have aC:(H' ++D).Nodup:=List.nodup_append.2 ⟨hs.nodup,aB,λa ha b aD U=>(hs.MH a).1 ha (by rw [U];exact an b aD)⟩;have:H.Perm (H' ++D):=(List.perm_ext_iff_of_nodup h.st.nodup aC).2 λz=>by
   rw [List.mem_append,h.st.MH,hs.MH];by_cases I:z∈ns
   . have Z:=h.ne z (List.mem_append_left _ I)
     refine⟨λ_=> ?_,λ_=>Z⟩;have ai:=V z;have ay:=List.count_pos_iff.2 I;by_cases J:z∈D
     . exact .inr J
     . refine .inl (az z (List.count_pos_iff.1 ?_))
       rw [List.count_eq_zero.2 J] at ai;omega
   . rw [ae z I]
     exact⟨.inl,λJ=>J.elim id λJ=>absurd (aA z J) I⟩
  rw [this.length_eq,List.length_append]
 have hle:=h.len;have aE:(Aa.eraseIdx j).length=Aa.length-1:=by rw [List.length_eraseIdx,if_pos aa]
 refine⟨O,ac,⟨hs,by rw [ae 0 aw];exact h.z,ab,h1,⟨λi hi=>ag i (List.mem_of_mem_eraseIdx hi), ?_,List.nodup_iff_count.2 λx=> ?_⟩,by rw [aE];omega, ?_⟩,rfl,ag _ (List.getElem_mem aa),List.nodup_iff_count.2 ah⟩
 . have U:Bt.AJ (Aa.eraseIdx j)=(Bt.AJ Aa).eraseIdx j:=by unfold Bt.AJ;rw [Bt.HJ]
   rw [U];exact h.ow.CY.sublist (List.eraseIdx_sublist _ _)
 . have:=ah x
   rw [List.count_append] at this;omega
 . rcases h1 with ⟨U,_⟩|⟨a,_,J⟩
   . rw [U];decide
   . obtain⟨ws,Z,_⟩:=J.rec
     obtain⟨n9,aF,_⟩:=hs.rd;exact(aF.u64 Z).1
end
def PT(w:World)(s:Nat)(F:Nat->Prop)(P q most last G:Nat)(p:(Zr) × Nat × (Nat × Nat))(e:Ending)(w' :World):Prop:=
 ∃(F' :Nat->Prop) (H' :List Nat),e= .returned (.tuple #[.int .u64 p.2.1, .agg #[.int .u64 p.2.2.1, .int .u64 p.2.2.2]])/\Ah w' s F' p.1 H' P q most last G/\A6 p.1/\Ad w F w' F'
theorem IZ{w:World}{s I:Nat}{F:Nat->Prop}{R' :Zr}{P q most last G:Nat}{v0 v1:Value}(U:Ah W s F' R' H' P q most last G)(V:Ad w F W F')(Z:w.heap.size<=I)(J:An W I 31 [v0,v1])(aa: ∀p,v0≠ .pointer p)(ab: ¬F' I)(h1:s<I/\1<I)(c d:Value):
 Ah ((W.setCell ⟨I,0,none⟩ c).setCell ⟨I,1,none⟩ d).drew s F' R' H' P q most last G/\Ad w F ((W.setCell ⟨I,0,none⟩ c).setCell ⟨I,1,none⟩ d).drew F' /\((W.setCell ⟨I,0,none⟩ c).setCell ⟨I,1,none⟩ d).drew.cell? ⟨I,0,none⟩=some c/\((W.setCell ⟨I,0,none⟩ c).setCell ⟨I,1,none⟩ d).drew.cell? ⟨I,1,none⟩=some d:=by
 obtain⟨ac,ae⟩:=Df U V Z J ⟨_,rfl,aa⟩ ab h1 c d;have O:=(J.set 0 c).set 1 d;generalize (W.setCell ⟨I,0,none⟩ c).setCell ⟨I,1,none⟩ d=X at*;have hd:Below X.heap.size X X.drew:=Ac X;exact⟨ac.below hd,ae.trans (Ad.below hd),(O.below hd).at' (i:=0) rfl,(O.below hd).at' (i:=1) rfl⟩
section
variable {w w':World} {s:Nat} {F:Nat->Prop} {R:Zr} {H:List Nat} {P q most last G t:Nat}
def Ylo{P}(h:P:=by
 have I:Below ao.heap.size ao aD:=aB.trans (aO.mono aB.size);exact I):=h
def Yof{P}(h:P:=by
 have I:Below w1.heap.size w1 ao:=by rw [U];exact(Below.refl _ _).alloc (Nat.le_refl _) _
 exact I):=h
def Yok{P}(h:P:=by
 have I:=Zh (And.intro g1 g2);have J:=Zh (And.intro g3 g4);exact And.intro I J):=h
theorem Pk(aU:BN.A0 t)(an:Ah w s F R H P q most last G)(bP:A6 R){g:Wh}(bq:JF w s F v g)(x:Nat)(hx:x<18446744073709551616):
 Calls prog 32 #[.agg #[.pointer (some ⟨s,0,none⟩), .int .i64 t], .int .u64 x,v] w (PT w s F P q most last G (GJ R t x g)):=by
 have cd:=an.FP;have ce:=an.Da;obtain⟨aq,aC⟩:=Zx ((w.alloc (Obj.cells #[.pointer (some ⟨s,0,none⟩), .int .i64 t] 77)).alloc (Obj.cells #[.int .u64 0, .int .u64 0] 31));obtain⟨ai,aB⟩:=Zx w.heap.size;obtain⟨b7,aN⟩:=Zx (w.heap.size+1);have aF:=Xa;have aV:=Yme;have x7:An aq b7 31 [.int .u64 0, .int .u64 0]:=by
  exact Yby
 have aW:=Zh (Uh aU 40 (an.below aF) bP (bq.Aq (Ad.below aF)) x hx 0 jA);have aL:Hid (∀z,w.heap.size<=z-> ¬F z):=Zh (λz cf ae=>by have:=an.lt ae;omega);have O:=Zh (show w.heap.size<=ai/\w.heap.size<=b7/\s<b7/\1<b7 from⟨jA,jA,jA,jA⟩);have hcut:Hid (∀p,p=AR t 40 R x g->GJ R t x g=if (Af p.1 t x).keys= [] then (AQ p.1 x none,(Af p.1 t x).kids.getD 0 0,p.2.2) else (p.1,x,p.2.2)):=Zh (λp h=>by rw [h];rfl);have ar:=QG;have aM:=Zh aF;have br:=Zh aV;have aX:=Zh x7;have bQ:=Zh aU;obtain⟨c3,aG⟩:=AX aV;rw [ar.1,ar.2.1] at c3 aG;obtain⟨bs,aY⟩:=Zx (AR t 40 R x g);rw [<-aY] at aW;have hcut:=Zh (hcut bs aY);obtain⟨aZ,cg,Z,c7⟩:=bs;clear aC aB aN aF aV x7 an bq aY aU;go_enter func32,ntmps32;go_wp2_with fail;rw [<-ar.1,<-ar.2.2,<-ar.2.1];refine aW.mono ?_;rintro e w1 ⟨bu,H1,rfl,bv,aH,J,a0⟩;dsimp only at bv aH J hcut ⊢;obtain⟨ao,U⟩:=Zx (w1.alloc (Obj.cells #[.int .u64 Z, .int .u64 c7] 31));obtain⟨a1,ac⟩:=Zx w1.heap.size;have a2:=Yof;have bw:An ao a1 31 [.int .u64 Z, .int .u64 c7]:=by rw [U,ac];exact An.new w1 _ _
 have a3:=aH.below a2;have am:=a0.trans (Ad.below a2);obtain⟨a4,a5⟩:=Ypi;have a6:=br.Aq am a4;have I:=aX.Aq am a5;have bz: ¬bu a1:=λae=>by have:=aH.lt ae;omega
 have aJ:=Zh (λn (bR:Rd ao.heap.size ao s aZ n)=>F9 bR t bQ x hx);obtain⟨nn,bA,-⟩:=a3.rd;have aJ:=Zh (aJ nn bA);obtain⟨c3,aG⟩:=AX a6;have a7:=Zh a3;have bS:=Zh (And.intro a6 (am.not br.lt a4));have au:=Zh (And.intro I (am.not aX.lt a5));have bB:=Zh (And.intro bw bz);have bT:=Uk;obtain⟨bC,a8⟩:=K7;have aK:a1≠b7:=by have:=aX.lt;have:=a0.size;omega
 clear U ac a2 bw a3 am a4 a5 bz a6 I bA aH a0 J bv aW;rw [a8.1] at c3 aG;go_wp2_with fail;rw [<-a8.1,<-a8.2];refine aJ.mono ?_;rintro e w3 ⟨v1,v2,v3,rfl,aw,aB⟩;obtain⟨a9,k1,rfl⟩:=Ae aw.r1;obtain⟨ba,k2,rfl⟩:=Ae aw.r2;obtain⟨bD,bb,rfl⟩:=Ae aw.r3;generalize Af aZ t x=n at*;obtain⟨aD,ax⟩:=Zx (w3.alloc (Obj.cells #[.slice a9 n.keys.length k1, .slice ba n.Ab.length k2, .slice bD n.kids.length bb, .int .u64 n.size] 100));obtain⟨aP,bc⟩:=Zx w3.heap.size;have aO:=YY;have ag:=Ylo;have aQ:An aD aP 100 [.slice a9 n.keys.length k1, .slice ba n.Ab.length k2, .slice bD n.kids.length bb, .int .u64 n.size]:=by rw [ax,bc];exact An.new w3 _ _
 have bd:=Zh (aw.below aO);have bU:=Zh (show ao.heap.size<=aP by have:=aB.size;omega);have n9: ¬bu aP:=λae=>by have:=a7.lt ae;have:=aB.size;omega
 have aR:=Zh (au.1.below ag);have be:=Zh (bB.1.below ag);have bE:=Zh (a7.below ag);have bF:=Zh (bT.trans (Ad.below ag));have bf:=aQ.at' (i:=0) rfl;have bg:=aQ.at' (i:=2) rfl;have bG:=Zh (And.intro aQ n9);have bV:=Zh (bS.1.below ag);have ah:=Zh (And.intro ax bc);clear aw aB ax bc aO ag aQ n9 aJ c3 aG;rw [ah.1,ah.2] at bf;have bW:b7<ao.heap.size:=au.1.lt;by_cases ay:n.keys= []
 . have hcut:=Zh (hcut.trans (if_pos ay))
   have bX:decide (0<n.keys.length)=false:=(by rw [ay];rfl);clear ay;have bH:=Zh (Kr bE.out x hx);have bY:=bV.at' (i:=0) rfl;go_upto_if 20 with (fail);rw [<-ah.1,<-ah.2];clear bf;go_wp2_with fail;refine bH.mono ?_;rintro e aj ⟨er,cj,rfl,bI,af⟩;have I:=Zh (And.intro (aR.Aq af au.2) (af.not aR.lt au.2));have bh:=be.Aq af bB.2;have bi:=bG.1.Aq af bG.2;have bj:=Zh (bd.out.blocks λk bJ=>af.keep k (bd.out.Iv bJ).2 (λae=>by have:=a7.lt ae;have:=(bd.out.Iv bJ).1;omega));have bK:=Zh bI;have bL:=Zh (bF.trans af);have bM:Hid (A6 (AQ aZ x none)):=Zh (Mu bC x);have bg:=bi.at' (i:=2) rfl;have aS:=(λX:Au (λz=>z=b7) aj=>X.cell (bh.at' (i:=0) rfl) aK);have aT:=(λX:Au (λz=>z=b7) aj=>X.cell (bh.at' (i:=1) rfl) aK);have bZ:=Zh (show aP≠b7 by have al:=bi.lt;have:=bW;have:=bU.out;omega);clear bI af bH bY bh bi;by_cases hi:n.kids= []
   . have b3:decide ((0:Int)<(n.kids.length:Int))=false:=by rw [hi];rfl
     have b4:decide (0<n.kids.length)=false:=(by rw [hi];rfl);have b5:=Zh hi;clear hi;obtain⟨⟨d0,d1⟩,f0,f1⟩:=CV I.1;obtain⟨g1,g2,g3,g4⟩:=IZ bK bL O.2.1 I.1 (λp al=>by cases al) I.2 O.2.2 (.int .u64 Z) (.int .u64 c7);obtain⟨aa,az⟩:=Yok;clear g1 g2 g3 g4;go_wp2;refine As (λw' => ∃X:Au (λz=>z=b7) aj,w' =X.W) [.r 0, .r 1, .a 2] (Ay _ _) ?_
     iterate 2 (refine AH ?_;go_simp)
     clear aS aT;refine AI _ rfl (λaA ab=> ?_);go_wp2;refine ab _ _ (Ck (Bj (B:=λz=>z=b7) (p:=⟨b7,1,none⟩) (Bj (B:=λz=>z=b7) (p:=⟨b7,0,none⟩) (Ag (Below.refl _ _)) rfl _) rfl _) (Ac _)) (AP ?_);clear ab aA d0 d1 f0 f1;go_wp2;obtain⟨aE,r1⟩:=az.out;exact bodyPost_ret (v:= .tuple #[.int .u64 0, .agg #[.int .u64 Z, .int .u64 c7]]) (by simp [results,f32,go_sem,aE,r1]) rfl (by
      unfold PT;rw [hcut.out,b5.out];exact⟨_,_,rfl,aa.1,bM,aa.2⟩)
   . have b3:decide ((0:Int)<(n.kids.length:Int))=true:=decide_eq_true (by have:=List.length_pos_iff.2 hi;omega)
     have bk:0<n.kids.length:=List.length_pos_iff.2 hi;have b4:decide (0<n.kids.length)=true:=decide_eq_true bk;obtain⟨bm,ci,bN,_,_⟩:=Bg bj.r3 hi;simp only [Value.slice.injEq] at bN;obtain⟨rfl,-,rfl⟩:=bN;have bo:=BQ bj.r3 bk;obtain⟨bO,bp⟩:=Zx (n.kids[0]);rw [<-bp] at bo;have b8:Hid (n.kids.getD 0 0=bO):=Zh (by rw [Cf bk,bp]);have b9:bm≠b7:=(by have:=(bj.Iv (v:=(.slice a9 n.keys.length k1, .slice ba n.Ab.length k2, .slice (some ⟨bm,0,none⟩) n.kids.length bb)) (k:=bm) (.inr (.inr rfl))).1;omega);have cb:=(λX:Au (λz=>z=b7) aj=>X.cell bg bZ.out);have cc:=(λX:Au (λz=>z=b7) aj=>X.cell bo b9);clear bo bp;obtain⟨⟨d0,d1⟩,f0,f1⟩:=CV I.1;obtain⟨g1,g2,g3,g4⟩:=IZ bK bL O.2.1 I.1 (λp al=>by cases al) I.2 O.2.2 (.int .u64 Z) (.int .u64 c7);obtain⟨aa,az⟩:=Yok;clear g1 g2 g3 g4;go_wp2;refine As (λw' => ∃X:Au (λz=>z=b7) aj,w' =X.W) [.r 0, .r 1, .r 2, .r 3, .r 4, .r 5, .a 6] (Ay _ _) ?_
     iterate 6 (refine AH ?_;go_simp)
     clear aS aT cb cc;refine AI _ rfl (λaA ab=> ?_);go_wp2;refine ab _ _ (Ck (Bj (B:=λz=>z=b7) (p:=⟨b7,1,none⟩) (Bj (B:=λz=>z=b7) (p:=⟨b7,0,none⟩) (Ag (Below.refl _ _)) rfl _) rfl _) (Ac _)) (AP ?_);clear ab aA d0 d1 f0 f1;go_wp2;obtain⟨aE,r1⟩:=az.out;exact bodyPost_ret (v:= .tuple #[.int .u64 bO, .agg #[.int .u64 Z, .int .u64 c7]]) (by simp [results,f32,go_sem,aE,r1]) rfl (by
      unfold PT;rw [hcut.out,b8.out];exact⟨_,_,rfl,aa.1,bM,aa.2⟩)
 . have hcut:=Zh (hcut.trans (if_neg ay))
   have bX:decide (0<n.keys.length)=true:=decide_eq_true (List.length_pos_iff.2 ay);have aS:=(λX:Au (λz=>z=b7) aD=>X.cell (be.at' (i:=0) rfl) aK);have aT:=(λX:Au (λz=>z=b7) aD=>X.cell (be.at' (i:=1) rfl) aK);go_upto_if 20 with (fail);rw [<-ah.1,<-ah.2];clear bf bg;obtain⟨⟨d0,d1⟩,f0,f1⟩:=CV aR.out;obtain⟨g1,g2,g3,g4⟩:=IZ bE bF O.2.1 aR (λp al=>by cases al) au.2 O.2.2 (.int .u64 Z) (.int .u64 c7);obtain⟨aa,az⟩:=Yok;clear g1 g2 g3 g4;go_wp2;refine As (λw' => ∃X:Au (λz=>z=b7) aD,w' =X.W) [.r 0, .r 1, .r 2, .a 3] (Ay _ _) ?_
   iterate 3 (refine AH ?_;go_simp)
   clear aS aT;refine AI _ rfl (λaA ab=> ?_);go_wp2;refine ab _ _ (Ck (Bj (B:=λz=>z=b7) (p:=⟨b7,1,none⟩) (Bj (B:=λz=>z=b7) (p:=⟨b7,0,none⟩) (Ag (Below.refl _ _)) rfl _) rfl _) (Ac _)) (AP ?_);clear ab aA d0 d1 f0 f1;go_wp2;obtain⟨aE,r1⟩:=az.out;exact bodyPost_ret (v:= .tuple #[.int .u64 x, .agg #[.int .u64 Z, .int .u64 c7]]) (by simp [results,f32,go_sem,aE,r1]) rfl (by
    unfold PT;rw [hcut.out];exact⟨_,_,rfl,aa.1,bC,aa.2⟩)
end
def Pl(W:World)(b:Nat)(w' :World):Prop:= ∃X:Au (λz=>z=b) W,w' =X.W/\X.W.cell? ⟨b,0,none⟩=some (.int .u64 0)/\X.W.cell? ⟨b,1,none⟩=some (.int .u64 0)
theorem IY(h:An W b T [.int .u64 0, .int .u64 0]):Pl W b { W with drawn:=W.drawn+1 }:=
 ⟨⟨{ W with drawn:=W.drawn+1 },Nat.le_refl _,λ_ _ _=>rfl⟩,rfl,(h.below (Ac W)).at' (i:=0) rfl,(h.below (Ac W)).at' (i:=1) rfl⟩
theorem Lm(h:An W b T [.int .u64 0, .int .u64 0]):Pl W b ((W.setCell ⟨b,0,none⟩ (.int .u64 0)).setCell ⟨b,1,none⟩ (.int .u64 0)).drew:=by
 obtain⟨X,O⟩:=Ck (Bj (B:=λz=>z=b) (p:=⟨b,1,none⟩) (Bj (B:=λz=>z=b) (p:=⟨b,0,none⟩) (Ag (Below.refl _ W)) rfl (.int .u64 0)) rfl (.int .u64 0)) (Ac _);have J:=BE ((h.set 0 (.int .u64 0)).set 1 (.int .u64 0));have I :((W.setCell ⟨b,0,none⟩ (.int .u64 0)).setCell ⟨b,1,none⟩ (.int .u64 0)).drew=X.W:=O;refine⟨X,I, ?_, ?_⟩
 . rw [<-I];exact J.at' (i:=0) rfl
 . rw [<-I];exact J.at' (i:=1) rfl
def JP(w:World)(s:Nat)(F:Nat->Prop)(P q most last G t:Nat)(it:It)(its' :List It)(m:Nat)(e:Ending)(w' :World):Prop:=
 ∃(R' :Zr) (F' :Nat->Prop) (H' :List Nat) (now:Nat) (ns' :List Nat) (hg' :Nat),e= .returned (.tuple #[.int .u64 now, .agg #[.int .u64 it.kh, .int .u64 it.vh], .bool true, .int .i64 0])/\AN w' s F' R' H' P q most last G t now its' ns' hg' (m+2)/\it.At R' /\((ns' ++its'.flatMap It.hs)++it.hs).Nodup/\Ad w F w' F'
section
variable {w w':World} {s:Nat} {F:Nat->Prop} {R:Zr} {H:List Nat} {P q most last G t root:Nat} {Aa:List It} {ns:List Nat} {hg m:Nat}
theorem AN.Aaj(I:BN.A0 t)(h:AN w s F R H P q most last G t root Aa ns hg m){g:Wh}{T:List It->Nat->Prop}(hw:Bt.P9 g T)(J:T Aa j)(O:j<Aa.length)(U:Aa.length<549755813888){X:World}{p:(Zr) × Nat × (Nat × Nat)}(hp:p=GJ R t root g)
 (hs:Ah X s F' p.1 H' P q most last G) (V:A6 p.1) (Z:Ad w F X F'):JP w s F P q most last G t Aa[j] (Aa.eraseIdx j) m (.returned (.tuple #[.int .u64 p.2.1, .agg #[.int .u64 p.2.2.1, .int .u64 p.2.2.2], .bool true, .int .i64 0])) X:=by
 subst hp;obtain⟨aa,ab,h1,ac,ae,af⟩:=h.cut I hw J O U hs V;exact⟨_,_,_,_,aa,ab,by rw [ac],h1,ae,af,Z⟩
def Yfh{P}(h:P:=by
 obtain⟨nn,I,-⟩:=(h.below aE).st.rd;exact L7 I Z h.rt jD (h.tr.Vw Z)):=h
def X7{P}(h:P:=by
 have ae:=Zh aE;have I:=Zh (And.intro U aq);exact And.intro ae I):=h
def Zg{P}(h:P:=by
 have I:An O J 31 [.int .u64 0, .int .u64 0]:=by rw [U,aq];exact An.new w _ _
 have V:=Zh (show w.heap.size<=J/\s<J/\1<J from⟨jA,jA,jA⟩);have Z: ¬F J:=λaa=>by have:=h.st.lt aa;omega
 exact And.intro I (And.intro V Z)):=h
def Zv{P}(h:P:=by
 have I:Below O.heap.size O aw:=by rw [ac];exact ab.trans (((Below.refl _ _).alloc (Nat.le_refl _) _).mono ab.size)
 exact I):=h
def ZP{P}(h:P:=by
 have V:=Zh (ao.1.below I);have J:=Zh (And.intro ac ag);exact And.intro V J):=h
def Ymq{P}(h:P:=by
 have I:=λX:Au (λ_=>False) ay=>X.cell (V.1.at' (i:=0) rfl) (λh=>h)
 have J:=λX:Au (λ_=>False) ay=>X.cell (V.1.at' (i:=1) rfl) (λh=>h)
 exact And.intro I J):=h
def Ynk{P}(h:P:=by
 have DY:=Zh (show An aw b12 77 [.pointer (some ⟨s,0,none⟩), .int .i64 t] by rw [ac,ag];exact An.new w1 _ _);exact DY):=h
def Yol{P}(h:P:=by
 have I :=(Ad.below (F:=F) aD).trans am;have z9:=aB.Aq am wz9;have n9: ¬aF J:=am.not aB.lt wz9;exact And.intro I (And.intro z9 n9)):=h
def Yon{P}(h:P:=by
 have I:An ay J 31 [.int .u64 ah, .int .u64 c7]:=by rw [ax];exact(z9.set 0 _).set 1 _
 exact I):=h
def Yqy{P}(h:P:=by
 have I:Hid (Calls prog 30 #[.pointer (some ⟨s,0,none⟩), .int .i64 t, .int .u64 root, .string ⟨#[]⟩] O λe w' =>e= .returned (.tuple #[.agg #[.pointer (some ⟨s,0,none⟩), .int .i64 t], .int .i64 0])/\Below O.heap.size O w'):=Zh (by
  exact Yfh)
 have ao:=Zh (And.intro aa af);exact And.intro I ao):=h
theorem AN.Vh(Z:BN.A0 t)(h:AN w s F R H P q most last G t root Aa ns hg m){g:Wh}{T:List It->Nat->Prop}(aC:JF w s F v g)(hw:Bt.P9 g T)(aG:T Aa j)(al:j<Aa.length)(aQ:Aa.length<549755813888):
 Calls prog 34 #[.pointer (some ⟨s,0,none⟩), .int .i64 t, .int .u64 root,v] w (JP w s F P q most last G t Aa[j] (Aa.eraseIdx j) m):=by
 have a5:=h.st.FP;have a6:=h.st.Da;obtain⟨O,U⟩:=Zx (w.alloc (Obj.cells #[.int .u64 0, .int .u64 0] 31));obtain⟨J,aq⟩:=Zx w.heap.size;have aE:=EI;obtain⟨aa,aj,af⟩:=Zg;obtain⟨aH,ao⟩:=Yqy;obtain⟨ae,aI⟩:=X7;have aR:root≠0:=λe=>by have:=(h.tr.zero h.z).1 e;rw [this] at al;simp at al
 have a7:((root:Int)==0)=false:=by simp;omega
 obtain⟨ai,an⟩:=Zx (GJ R t root g);have aJ:Hid (∀(X:World) (F' :Nat->Prop) (H' :List Nat),Ah X s F' ai.1 H' P q most last G->A6 ai.1->Ad w F X F' ->JP w s F P q most last G t Aa[j] (Aa.eraseIdx j) m (.returned (.tuple #[.int .u64 ai.2.1, .agg #[.int .u64 ai.2.2.1, .int .u64 ai.2.2.2], .bool true, .int .i64 0])) X):=Zh (λX F' H' h1 aS aT=>h.Aaj Z hw aG al aQ an h1 aS aT);have aU:Hid (∀X,Below w.heap.size w X->Calls prog 32 #[.agg #[.pointer (some ⟨s,0,none⟩), .int .i64 t], .int .u64 root,v] X (PT X s F P q most last G ai)):=Zh (λX aK=>by rw [an];exact Pk Z (h.st.below aK) h.sh (aC.Aq (Ad.below aK)) root h.rt);clear an aR hw aG aC;clear h Z U aq aE aa af;go_enter func34,ntmps34;go_wp2_with fail;rw [<-aI.1,<-aI.2];refine aH.mono ?_;rintro e w1 ⟨rfl,ab⟩;obtain⟨aw,ac⟩:=Zx (w1.alloc (Obj.cells #[.pointer (some ⟨s,0,none⟩), .int .i64 t] 77));obtain⟨b12,ag⟩:=Zx w1.heap.size;have I:=Zv;have DY:=Ynk;have aD:=Dt;obtain⟨V,ar⟩:=ZP;clear aH ab I ac ag;obtain⟨aL,aM⟩:=AX DY.out;rw [ar.1,ar.2] at aL aM;go_wp2_with fail;rw [<-ar.1];refine(aU _ aD).mono ?_;have aV:=ao.2;have aB:=V.out;rintro e w3 ⟨aF,a8,rfl,au,az,am⟩;obtain⟨a9,now,ah,c7⟩:=ai;dsimp only at au az aJ ⊢;have wz9:=ao.2;obtain⟨aN,z9,n9⟩:=Yol;clear wz9;obtain⟨⟨d0,d1⟩,f0,f1⟩:=CV z9;obtain⟨g1,g2⟩:=Df au aN aj.1 z9 jE n9 aj.2 (.int .u64 ah) (.int .u64 c7);obtain⟨ay,ax⟩:=Zx ((w3.setCell ⟨J,0,none⟩ (.int .u64 ah)).setCell ⟨J,1,none⟩ (.int .u64 c7));have aO:=Yon;rw [<-ax] at g1 g2;have aW:=Zh g1;have aX:=Zh g2;have aY:=Zh az;have V:=Zh (And.intro aO n9);have aZ:=Zh ax;clear aL aM au az am aN z9 n9 g1 g2 aO ax aV aB DY;obtain⟨a0,a1⟩:=Ymq;obtain⟨⟨d0,d1⟩,f0,f1⟩:=CV V.1;obtain⟨g1,g2,g3,g4⟩:=IZ aW aX aj.1 V.1 (λp aA=>by cases aA) V.2 aj.2 (.int .u64 ah) (.int .u64 c7);have a2:=Zh (aJ _ _ _ g1 aY g2);have a3:=Zh (And.intro g3 g4);clear g1 g2 g3 g4;go_wp2;rw [<-aZ.out];refine AB (λw' => ∃X:Au (λ_=>False) ay,w' =X.W) [3,4,5] (.r 0<| .r 1<| .r 2<| .a 3<| .a 4<| .a 5<| .nil) (Ay _ _) ?_
 iterate 3 (refine AD ?_;go_simp)
 clear a0 a1
 iterate 3 (refine AA _ rfl jD (λK aP=> ?_);go_wp2;refine aP _ _ ?_;clear aP K)
 refine AG ?_;clear d0 d1 f0 f1;go_wp2;obtain⟨a4,r1⟩:=a3.out;exact bodyPost_ret (v:= .tuple #[.int .u64 now, .agg #[.int .u64 ah, .int .u64 c7], .bool true, .int .i64 0]) (by simp [results,f34,go_sem,a4,r1]) rfl a2.out
def Ymw{P}(h:P:=by
 have I:=Zh (((al.setCell (p:=⟨J,0,none⟩) ah.1 (.int .u64 0)).setCell (p:=⟨J,1,none⟩) ah.1 (.int .u64 0)).drew);exact I):=h
theorem AN.Rm(Z:BN.A0 t)(h:AN w s F R H P q most last G t root Aa ns hg m)(ai:Aa= [])(v:Value):
 Calls prog 34 #[.pointer (some ⟨s,0,none⟩), .int .i64 t, .int .u64 root,v] w λe w' =>e= .returned (.tuple #[.int .u64 0, .agg #[.int .u64 0, .int .u64 0], .bool false, .int .i64 0])/\Below w.heap.size w w' :=by
 have aj:root=0:=(h.tr.zero h.z).2 ai;have aG:((root:Int)==0)=true:=by rw [aj];rfl
 have aH:=h.st.FP;have aI:=h.st.Da;obtain⟨O,U⟩:=Zx (w.alloc (Obj.cells #[.int .u64 0, .int .u64 0] 31));obtain⟨J,aq⟩:=Zx w.heap.size;have aE:=EI;obtain⟨aa,ah,af⟩:=Zg;obtain⟨am,ao⟩:=Yqy;obtain⟨ae,an⟩:=X7;clear ai aj;clear h Z U aq aE aa af;go_enter func34,ntmps34;go_wp2_with fail;rw [<-an.1,<-an.2];refine am.mono ?_;rintro e w1 ⟨rfl,ab⟩;obtain⟨aw,ac⟩:=Zx (w1.alloc (Obj.cells #[.pointer (some ⟨s,0,none⟩), .int .i64 t] 77));obtain⟨b12,ag⟩:=Zx w1.heap.size;have I:=Zv;have al:=Dt;obtain⟨aT,au⟩:=ZP;clear am ab I ac ag;obtain⟨⟨d0,d1⟩,f0,f1⟩:=CV aT.out;have ax:=Zh (Lm aT);have ay:=Zh (IY aT);have az:=Yli;have aA:=Ymw;go_wp2;rw [<-au.1];refine As (Pl aw J) [.r 0, .r 1, .r 2, .a 3, .r 4, .r 5] ay ?_
 iterate 3 (refine CM _ _ rfl rfl (by rintro _ ⟨X,rfl,aB,aC⟩;go_simp;exact rfl) ?_;go_simp)
 refine AI _ rfl (λaD ar=> ?_);go_wp2;refine ar _ _ ax ?_;clear ar aD d0 d1 f0 f1
 iterate 2 (refine CM _ _ rfl rfl (by rintro _ ⟨X,rfl,aB,aC⟩;go_simp;exact rfl) ?_;go_simp)
 refine AP ?_;go_wp2;obtain⟨aF,r1⟩:=AX az.out;exact bodyPost_ret (v:= .tuple #[.int .u64 0, .agg #[.int .u64 0, .int .u64 0], .bool false, .int .i64 0]) (by simp [results,f34,go_sem,aF,r1]) rfl ⟨rfl,aA⟩
def Ws{P}(h:P:=by
 have x7:An O b7 31 [.int .u64 0, .int .u64 0]:=by rw [U,J];exact An.new w _ _
 exact x7):=h
def Yko{P}(h:P:=by
 have J:=Zh ((V.set 0 (.int .u64 it.kh)).set 1 (.int .u64 it.vh));have O:=Zh (F8 ac ((Ad.below (F:=F) af).trans I) Z.1 V jE n7 Z.2 (.int .u64 it.kh) (.int .u64 it.vh));have ab:=Zh (And.intro hi aa);exact And.intro J (And.intro O ab)):=h
def Ynd{P}(h:P:=by
 have Z:=Zh (show w.heap.size<=b7/\s<b7/\1<b7 from⟨jA,jA,jA⟩);have I: ¬F b7:=λJ=>by have:=h.st.lt J;omega
 exact And.intro Z I):=h
theorem AN.Px(ah:BN.A0 t)(h:AN w s F R H P q most last G t root Aa ns hg m)(j:Nat)(ao:j<Aa.length)(aq:j=0)(ar:Aa.length<549755813888):
 Calls prog 10 #[.pointer (some ⟨s,0,none⟩), .int .i64 t, .int .u64 root] w (JP w s F P q most last G t Aa[j] (Aa.eraseIdx j) m):=by
 have ax:=h.st.FP;have ay:=h.st.Da;obtain⟨O,U⟩:=Zx (w.alloc (Obj.cells #[.int .u64 0, .int .u64 0] 31));obtain⟨b7,J⟩:=Zx w.heap.size;have ab:=EI;have x7:=Ws;obtain⟨Z,ai⟩:=Ynd;have aj:=Zh ((h.below ab).Vh ah (v:= .func (.func 35) #[] #[]) (.inl ⟨rfl,rfl⟩) Bt.Nb (j:=j) aq ao ar);have ag:=Zh (And.intro x7 ai);obtain⟨al,af⟩:=Yht;generalize Aa[j]=it at*;generalize Aa.eraseIdx j=az at*;clear h ah U J ab x7 ai;go_enter func10,ntmps10;go_wp2_with fail;rw [<-al.1,<-al.2];refine aj.mono ?_;rintro e w3 ⟨R',F',H',now,aA,aB,rfl,ac,hi,aa,I⟩;have V:=ag.1.Aq I ag.2;have n7:=I.not ag.1.lt ag.2;obtain⟨⟨d0,d1⟩,f0,f1⟩:=CV V;obtain⟨au,am,an⟩:=Yko;clear ac hi aa I V n7 aj;go_wp2;obtain⟨aw,r1⟩:=AX au.out;exact bodyPost_ret (v:= .tuple #[.int .u64 now, .agg #[.int .u64 it.kh, .int .u64 it.vh], .bool true, .int .i64 0]) (by simp [results,f10,go_sem,aw,r1]) rfl ⟨_,_,_,_,_,_,rfl,am.1,an.1,an.2,am.2⟩
def ZD{P}(h:P:=by
 have I:=Zh ((Z.set 0 (.int .u64 0)).set 1 (.int .u64 0));have J:=Zh (((aa.1.trans (V.mono aa.1.size)).setCell (p:=⟨b7,0,none⟩) aa.2 (.int .u64 0)).setCell (p:=⟨b7,1,none⟩) aa.2 (.int .u64 0));exact And.intro I J):=h
def ZV{P}(h:P:=by
 have O:=Zh x7;have V:=Zh (And.intro U J);have aa:=Zh (And.intro I (show w.heap.size<=b7 by omega));exact And.intro O (And.intro V aa)):=h
theorem AN.UL(ab:BN.A0 t)(h:AN w s F R H P q most last G t root Aa ns hg m)(ac:Aa= []):
 Calls prog 10 #[.pointer (some ⟨s,0,none⟩), .int .i64 t, .int .u64 root] w λe w' =>e= .returned (.tuple #[.int .u64 0, .agg #[.int .u64 0, .int .u64 0], .bool false, .int .i64 0])/\Below w.heap.size w w' :=by
 obtain⟨O,U⟩:=Zx (w.alloc (Obj.cells #[.int .u64 0, .int .u64 0] 31));obtain⟨b7,J⟩:=Zx w.heap.size;have I:=EI;have x7:=Ws;have ae:=Zh ((h.below I).Rm ab ac (.func (.func 35) #[] #[]));obtain⟨ag,af,aa⟩:=ZV;clear h ab U J I x7 ac;go_enter func10,ntmps10;go_wp2_with fail;rw [<-af.1,<-af.2];refine ae.mono ?_;rintro e w3 ⟨rfl,V⟩;have Z:=ag.below V;obtain⟨⟨d0,d1⟩,f0,f1⟩:=CV Z;obtain⟨ah,ai⟩:=ZD;clear Z ae V;go_wp2;obtain⟨aj,r1⟩:=AX ah.out;exact bodyPost_ret (v:= .tuple #[.int .u64 0, .agg #[.int .u64 0, .int .u64 0], .bool false, .int .i64 0]) (by simp [results,f10,go_sem,aj,r1]) rfl ⟨rfl,ai⟩
theorem AN.XU(ah:BN.A0 t)(h:AN w s F R H P q most last G t root Aa ns hg m)(j:Nat)(ao:j<Aa.length)(aq:j+1=Aa.length)(ar:Aa.length<549755813888):
 Calls prog 11 #[.pointer (some ⟨s,0,none⟩), .int .i64 t, .int .u64 root] w (JP w s F P q most last G t Aa[j] (Aa.eraseIdx j) m):=by
 have ax:=h.st.FP;have ay:=h.st.Da;obtain⟨O,U⟩:=Zx (w.alloc (Obj.cells #[.int .u64 0, .int .u64 0] 31));obtain⟨b7,J⟩:=Zx w.heap.size;have ab:=EI;have x7:=Ws;obtain⟨Z,ai⟩:=Ynd;have aj:=Zh ((h.below ab).Vh ah (v:= .func (.func 36) #[] #[]) (.inr (.inl ⟨rfl,rfl⟩)) Bt.NO (j:=j) aq ao ar);have ag:=Zh (And.intro x7 ai);obtain⟨al,af⟩:=Yht;generalize Aa[j]=it at*;generalize Aa.eraseIdx j=az at*;clear h ah U J ab x7 ai;go_enter func11,ntmps11;go_wp2_with fail;rw [<-al.1,<-al.2];refine aj.mono ?_;rintro e w3 ⟨R',F',H',now,aA,aB,rfl,ac,hi,aa,I⟩;have V:=ag.1.Aq I ag.2;have n7:=I.not ag.1.lt ag.2;obtain⟨⟨d0,d1⟩,f0,f1⟩:=CV V;obtain⟨au,am,an⟩:=Yko;clear ac hi aa I V n7 aj;go_wp2;obtain⟨aw,r1⟩:=AX au.out;exact bodyPost_ret (v:= .tuple #[.int .u64 now, .agg #[.int .u64 it.kh, .int .u64 it.vh], .bool true, .int .i64 0]) (by simp [results,f11,go_sem,aw,r1]) rfl ⟨_,_,_,_,_,_,rfl,am.1,an.1,an.2,am.2⟩
theorem AN.PF(ab:BN.A0 t)(h:AN w s F R H P q most last G t root Aa ns hg m)(ac:Aa= []):
 Calls prog 11 #[.pointer (some ⟨s,0,none⟩), .int .i64 t, .int .u64 root] w λe w' =>e= .returned (.tuple #[.int .u64 0, .agg #[.int .u64 0, .int .u64 0], .bool false, .int .i64 0])/\Below w.heap.size w w' :=by
 obtain⟨O,U⟩:=Zx (w.alloc (Obj.cells #[.int .u64 0, .int .u64 0] 31));obtain⟨b7,J⟩:=Zx w.heap.size;have I:=EI;have x7:=Ws;have ae:=Zh ((h.below I).Rm ab ac (.func (.func 36) #[] #[]));obtain⟨ag,af,aa⟩:=ZV;clear h ab U J I x7 ac;go_enter func11,ntmps11;go_wp2_with fail;rw [<-af.1,<-af.2];refine ae.mono ?_;rintro e w3 ⟨rfl,V⟩;have Z:=ag.below V;obtain⟨⟨d0,d1⟩,f0,f1⟩:=CV Z;obtain⟨ah,ai⟩:=ZD;clear Z ae V;go_wp2;obtain⟨aj,r1⟩:=AX ah.out;exact bodyPost_ret (v:= .tuple #[.int .u64 0, .agg #[.int .u64 0, .int .u64 0], .bool false, .int .i64 0]) (by simp [results,f11,go_sem,aj,r1]) rfl ⟨rfl,ai⟩
def Yfr{P}(h:P:=by
 obtain⟨nn,I,-⟩:=(h.below aj).st.rd;exact L7 I au h.rt az (h.tr.Vw au)):=h
def Yik{P}(h:P:=by
 have aa:Below aw.heap.size aw ai:=by rw [aA];exact aC.trans (((Below.refl _ _).alloc (Nat.le_refl _) _).mono aC.size)
 exact aa):=h
def Yqz{P}(h:P:=by
 have I:Hid (Calls prog 30 #[.pointer (some ⟨s,0,none⟩), .int .i64 t, .int .u64 root, .string key] O λe w' =>e= .returned (.tuple #[.agg #[.pointer (some ⟨s,0,none⟩), .int .i64 t], .int .i64 0])/\Below O.heap.size O w'):=Zh (by
  exact Yfr)
 exact I):=h
theorem AN.MX(au:BN.A0 t)(h:AN w s F R H P q most last G t root Aa ns hg m){key:ByteArray}(az:key.size<=1000)(aJ:j<Aa.length)(aN:Aa[j].k=key)(aZ:Aa.length<549755813888):
 Calls prog 9 #[.pointer (some ⟨s,0,none⟩), .int .i64 t, .int .u64 root, .string key] w (JP w s F P q most last G t Aa[j] (Aa.eraseIdx j) m):=by
 have bz:=h.st.FP;have bA:=h.st.Da;obtain⟨O,U⟩:=Zx (w.alloc (Obj.cells #[.int .u64 0, .int .u64 0] 31));obtain⟨J,aq⟩:=Zx w.heap.size;have aj:=EI;obtain⟨an,aK,ar⟩:=Zg;have a0:=Yqz;obtain⟨ao,ae⟩:=Oo;have a1:=Zh (And.intro U aq);have a2:Hid (∀X,Below w.heap.size w X->Calls prog 31 #[.pointer (some ⟨s,0,none⟩), .int .i64 t, .int .u64 root, .string key] X λe w' =>e= .returned (.tuple #[.agg #[.int .u64 (Aa[j].kh:Nat), .int .u64 (Aa[j].vh:Nat)], .bool true])/\Below X.heap.size X w'):=Zh (λX aO=>by
  have aE:=(h.below aO).KX au aZ key;rw [(Bt.IX h.ow.CY aJ aN).2] at aE;exact aE)
 have a3:Hid (∀X,Below w.heap.size w X-> ∀(v:Value) (g:Wh),JF X s F v g->Calls prog 32 #[.agg #[.pointer (some ⟨s,0,none⟩), .int .i64 t], .int .u64 root,v] X (PT X s F P q most last G (GJ R t root g))):=Zh (λX aO v g bg=>Pk au (h.st.below aO) h.sh bg root h.rt);obtain⟨aH,aP⟩:=Zx (GJ R t root (Ha key));have a4:Hid (∀(X:World) (F' :Nat->Prop) (H' :List Nat),Ah X s F' aH.1 H' P q most last G->A6 aH.1->Ad w F X F' ->JP w s F P q most last G t Aa[j] (Aa.eraseIdx j) m (.returned (.tuple #[.int .u64 aH.2.1, .agg #[.int .u64 aH.2.2.1, .int .u64 aH.2.2.2], .bool true, .int .i64 0])) X):=Zh (λX F' H' h1 bh a5=>h.Aaj au (Bt.Yk key) ⟨aJ,aN⟩ aJ aZ aP h1 bh a5);have a6:=Zh aP;have aQ:Hid (∀z,w.heap.size<=z-> ¬F z):=Zh (λz a5 aI=>by have:=h.st.lt aI;omega);generalize Aa[j]=it at*;generalize Aa.eraseIdx j=bB at*;clear aP aN aJ;clear h au U aq aj an ar;go_enter func9,ntmps9;go_wp2_with fail;rw [<-a1.1,<-a1.2];refine a0.mono ?_;rintro e w1 ⟨rfl,ab⟩;obtain⟨aw,ac⟩:=Zx (w1.alloc (Obj.cells #[.pointer (some ⟨s,0,none⟩), .int .i64 t] 77));obtain⟨b12,ag⟩:=Zx w1.heap.size;have I:=Zv;have DY:=Ynk;have af:=Dt;obtain⟨V,a7⟩:=ZP;have bi:=Zh (show O.heap.size<=b12 by rw [ag];exact ab.size);clear a0 ab I ac ag;go_wp2_with fail;rw [<-a7.1];refine(a2 _ af).mono ?_;rintro e w3 ⟨rfl,aC⟩;obtain⟨ai,aA⟩:=Zx (w3.alloc (Obj.cells #[.int .u64 it.kh, .int .u64 it.vh] 31));have aa:=Yik;have al:=K8;have z9:=Zh (V.below aa);have aR :=DY.below aa;have n12: ¬(F b12\/b12=J):=λaE=>by
  have bj:=bi.out;rcases aE with aE|aE
  . exact aQ.out b12 (Nat.le_trans ae.size bj) aE
  . have:=ao.1.lt;omega
 have aS:=λX:Au (λz=>F z\/z=J) ai=>X.cell (aR.at' (i:=0) rfl) n12
 have aT:=λX:Au (λz=>F z\/z=J) ai=>X.cell (aR.at' (i:=1) rfl) n12
 have bk:=Zh aA;clear aC aA aa aR a2 V n12;go_wp2;rw [<-bk.out,<-a7.2];refine As (λw' => ∃X:Au (λz=>F z\/z=J) ai,w' =X.W) [.r 0, .r 1, .r 2, .r 3, .a 4, .a 5, .r 6, .r 7, .r 8, .r 9, .a 10] (Ay _ _) ?_
 iterate 4 (refine AH ?_;go_simp)
 clear aS aT;refine AI _ rfl (λK aG=> ?_);go_wp2_with fail;refine(Wx _ s t key).mono ?_;rintro e bm ⟨a8,bt,rfl,a9,ba,bb,bc,bd⟩;have Z:=(Ac ai).trans (bd.mono (Ac ai).size);have aD:=OZ;have aU:w.heap.size<=a8/\w.heap.size<=bt:=⟨Nat.le_trans (Nat.le_trans al.size (Ac ai).size) bb,Nat.le_trans (Nat.le_trans al.size (Ac ai).size) bc⟩;have aV:=Zh (a3 bm aD _ (Ha key) (.inr (.inr ⟨a8,bt,key,rfl,rfl,a9,ba,aQ _ aU.1,aQ _ aU.2⟩)));have V:=Zh (z9.below Z);have aM:=Zh Z;clear a9 ba bb bc bd aU Z a3;go_wp2;refine aG _ _ (Ag aM) ?_;clear aG K;rw [<-a6.out] at aV;refine AI _ rfl (λK aG=> ?_);go_wp2_with fail;refine aV.mono ?_;have bo:=ao.2;have aB:=V.out;rintro e w3 ⟨aF,bC,rfl,aW,aX,am⟩;obtain⟨bD,now,ah,c7⟩:=aH;dsimp only at aW aX a4 ⊢;have wz9:=ao.2;obtain⟨be,z9,n9⟩:=Yol;clear wz9;obtain⟨⟨d0,d1⟩,f0,f1⟩:=CV z9;obtain⟨g1,g2⟩:=Df aW be aK.1 z9 jE n9 aK.2 (.int .u64 ah) (.int .u64 c7);obtain⟨ay,ax⟩:=Zx ((w3.setCell ⟨J,0,none⟩ (.int .u64 ah)).setCell ⟨J,1,none⟩ (.int .u64 c7));have bf:=Yon;rw [<-ax] at g1 g2;have bp:=Zh g1;have bq:=Zh g2;have br:=Zh aX;have V:=Zh (And.intro bf n9);have bs:=Zh ax;have aL:=Uk;clear aW aX am be z9 n9 g1 g2 bf ax bo aB DY aV a6;go_wp2;refine aG _ _ ⟨⟨w3,aL.size,λk az aY=>aL.keep k az λaI=>aY (.inl aI)⟩,rfl⟩ ?_;clear aG K
 iterate 4 (refine AH ?_;go_simp)
 refine AI _ rfl (λK aG=> ?_);go_wp2;refine aG _ _ (Bj (p:=⟨J,1,none⟩) (Bj (p:=⟨J,0,none⟩) ⟨⟨w3,aL.size,λk az aY=>aL.keep k az λaI=>aY (.inl aI)⟩,rfl⟩ (.inr rfl) _) (.inr rfl) _) (AP ?_);clear aG K d0 d1 f0 f1;obtain⟨aS,aT⟩:=Ymq;obtain⟨⟨d0,d1⟩,f0,f1⟩:=CV V.1;obtain⟨g1,g2,g3,g4⟩:=IZ bp bq aK.1 V.1 (λp aE=>by cases aE) V.2 aK.2 (.int .u64 ah) (.int .u64 c7);have bu:=Zh (a4 _ _ _ g1 br g2);have bv:=Zh (And.intro g3 g4);clear g1 g2 g3 g4;go_wp2;rw [<-bs.out];refine AB (λw' => ∃X:Au (λ_=>False) ay,w' =X.W) [3,4,5] (.r 0<| .r 1<| .r 2<| .a 3<| .a 4<| .a 5<| .nil) (Ay _ _) ?_
 iterate 3 (refine AD ?_;go_simp)
 clear aS aT
 iterate 3 (refine AA _ rfl jD (λK aG=> ?_);go_wp2;refine aG _ _ ?_;clear aG K)
 refine AG ?_;clear d0 d1 f0 f1;go_wp2;obtain⟨bw,r1⟩:=bv.out;exact bodyPost_ret (v:= .tuple #[.int .u64 now, .agg #[.int .u64 ah, .int .u64 c7], .bool true, .int .i64 0]) (by simp [results,f9,go_sem,bw,r1]) rfl bu.out
theorem AN.RK(au:BN.A0 t)(h:AN w s F R H P q most last G t root Aa ns hg m){key:ByteArray}(az:key.size<=1000)(Z:Bt.Bb Aa key=none)(aF:Aa.length<549755813888):
 Calls prog 9 #[.pointer (some ⟨s,0,none⟩), .int .i64 t, .int .u64 root, .string key] w λe w' =>e= .returned (.tuple #[.int .u64 root, .agg #[.int .u64 0, .int .u64 0], .bool false, .int .i64 0])/\Below w.heap.size w w' :=by
 have aR:=h.st.FP;have aS:=h.st.Da;obtain⟨O,U⟩:=Zx (w.alloc (Obj.cells #[.int .u64 0, .int .u64 0] 31));obtain⟨J,aq⟩:=Zx w.heap.size;have aj:=EI;obtain⟨an,ah,ar⟩:=Zg;have am:=Yqz;obtain⟨ao,ae⟩:=Oo;have ax:=Zh (And.intro U aq);have ay:Hid (∀X,Below w.heap.size w X->Calls prog 31 #[.pointer (some ⟨s,0,none⟩), .int .i64 t, .int .u64 root, .string key] X λe w' =>e= .returned (.tuple #[.agg #[.int .u64 0, .int .u64 0], .bool false])/\Below X.heap.size X w'):=Zh (λX aG=>by
  have aB:=(h.below aG).KX au aF key;rw [Z] at aB;exact aB)
 clear Z;clear h au U aq aj an ar;go_enter func9,ntmps9;go_wp2_with fail;rw [<-ax.1,<-ax.2];refine am.mono ?_;rintro e w1 ⟨rfl,ab⟩;obtain⟨aw,ac⟩:=Zx (w1.alloc (Obj.cells #[.pointer (some ⟨s,0,none⟩), .int .i64 t] 77));obtain⟨b12,ag⟩:=Zx w1.heap.size;have I:=Zv;have af:=Dt;obtain⟨aD,aH⟩:=ZP;clear am ab I ac ag;go_wp2_with fail;rw [<-aH.1];refine(ay _ af).mono ?_;rintro e w3 ⟨rfl,aC⟩;obtain⟨ai,aA⟩:=Zx (w3.alloc (Obj.cells #[.int .u64 0, .int .u64 0] 31));have aa:=Yik;have al:=K8;have z9:=Zh (aD.below aa);have aI:=Zh aA;clear aC aA aa ay aD;obtain⟨⟨d0,d1⟩,f0,f1⟩:=CV z9.out;have aJ:=Zh (Lm z9);have aK:=Zh (IY z9);have aL:=Yqd;have aM:=Ymw;go_wp2;rw [<-aI.out];refine As (Pl ai J) [.r 0, .r 1, .r 2, .a 3, .r 4, .r 5] aK ?_
 iterate 3 (refine CM _ _ rfl rfl (by rintro _ ⟨X,rfl,aN,aO⟩;go_simp;exact rfl) ?_;go_simp)
 refine AI _ rfl (λaP aE=> ?_);go_wp2;refine aE _ _ aJ ?_;clear aE aP d0 d1 f0 f1
 iterate 2 (refine CM _ _ rfl rfl (by rintro _ ⟨X,rfl,aN,aO⟩;go_simp;exact rfl) ?_;go_simp)
 refine AP ?_;go_wp2;obtain⟨aQ,r1⟩:=AX aL.out;exact bodyPost_ret (v:= .tuple #[.int .u64 root, .agg #[.int .u64 0, .int .u64 0], .bool false, .int .i64 0]) (by simp [results,f9,go_sem,aQ,r1]) rfl ⟨rfl,aM⟩
end
def FL:List Pr:= [(⟨#[97]⟩,⟨#[]⟩),(⟨#[98]⟩,⟨#[]⟩),(⟨#[99]⟩,⟨#[]⟩),(⟨#[100]⟩,⟨#[]⟩)]
theorem UA: ∀k (h:k<4),Dc (FL.take k) (FL[k]'h)=FL.take (k+1)/\ ¬0<=E2 (FL.take k) (FL[k]'h).1/\(FL[k]'h).1.size<=1000/\(FL[k]'h).2=⟨#[]⟩:=by decide+kernel
theorem Nq{l:List It}{key:ByteArray}(I:AZ (Bt.AJ l))(h: ¬0<=E2 (Bt.AJ l) key):Bt.Bb l key=none:=by
 have h1:=(Bt.CO (key:=key) I).1
 cases J:Bt.Bb l key with
 |none=>rfl
 |some i=>
  rw [J] at h1;rw [h1] at h;simp at h
