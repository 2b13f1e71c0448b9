/- A part. -/
import Derived.Test.YtiopopoohglepaaGreatDoorVMxm
set_option linter.all false
set_option maxRecDepth 100000
set_option maxHeartbeats 4000000
namespace Go.Proofs.YtiopopoohglepaaGreatDoor
open Go.Proofs.Tryz
open Go.RowKit Go.Shelf
namespace Bt
variable {m:It}{n:BN}{sz x:Nat}
section
variable {R R1 R2:Zr} {t a lo:Nat}
theorem Gi{α β:Type}(f:α->β): ∀(l:List α) (k:Nat),(l.map f).eraseIdx k=(l.eraseIdx k).map f
 | [],_=>rfl
 |x::l,0=>rfl
 |x::l,k+1=>by simp [Gi f l k]
theorem WK{y:Nat}{m:BN}(hx:Rec R t x)(d:Rec R t y)(I:x≠y)(f1:n.Fits t)(f2:m.Fits t):Bq (Bq R t x n) t y m=AT (AT R x (some (n.wd t))) y (some (m.wd t)):=by
 obtain⟨w1,h1,J⟩:=hx;obtain⟨w2,O,U⟩:=d;rw [B9 f1 h1 J,B9 (R:=AT R x _) f2 ((As (Ne.symm I)).trans O) U]
def Yaz{P}(h:P:=by
 show(c.h::(A++(m,d)::B).map (·.2.h)).getD A.length 0=_
 rw [List.getD_eq_getElem?_getD,EN c _ A.length (by simp),DO _ _ _ _ (Nat.le_refl _)];rfl):=h
def Yba{P}(h:P:=by
 show(c.h::(A++(m,d)::B).map (·.2.h)).getD (A.length+1) 0=_
 rw [List.getD_eq_getElem?_getD,EN c _ (A.length+1) (by simp),DS];rfl):=h
def Ybf{P}(h:P:=by
 rw [List.nodup_iff_count];intro x;have h1:=List.nodup_iff_count.1 Z x;have d:=NR c A A.length x (Nat.le_refl _);rw [aj] at h1;simp only [Ax,List.count_append] at h1 d ⊢;omega):=h
def Ycn{P}(h:P:=by
 simp only [ag,ah,ac,af,<-ae];rw [WK (aa.rec) (ab.rec) U g5 g6,<-I,<-g1,<-g2,MS (L:=⟨(Ap c A A.length).h,il,nl⟩) (D:=d) (D' :=⟨d.h,id,nd⟩) rfl rfl];rfl):=h
def Ydf{P}(h:P:=by
 rw [MF] at ai;simp only [List.length_append,List.length_cons] at ai;omega):=h
def YG{P}(h:P:=by
 have aa:At R t a (t-1) (Ap c A A.length):=HB A.length V (λp hp=>J p (List.mem_append.2 (.inl hp)));have ab:At R t a (t-1) d:=J (m,d) (by simp);exact And.intro aa ab):=h
def ZQ{P}(h:P:=by
 have ac:(AV c (A++(m,d)::B) sz).keys.getD A.length 0=m.kh:=by simp [AV]
 have af:(AV c (A++(m,d)::B) sz).Ab.getD A.length 0=m.vh:=by simp [AV]
 exact And.intro ac af):=h
def Ykk{P}(h:P:=by
 have J: ∀z,z≠(Ap c A A.length).h->z≠d.h->R1 z=R z:=λz h1 O=>by rw [I,As O,As h1]
 exact J):=h
def Ykt{P}(h:P:=by
 have U:(Ap c A A.length).h≠d.h:=λe=>(List.nodup_append.1 O).2.2 _ (DA aa) _ (DA ab) e
 exact U):=h
def Yqh{P}(h:P:=by
 have aj:=Yi;have O:((Ap c A A.length).ns++d.ns).Nodup:=by
  exact Ybf
 have U:=Ykt;have ag:(AV c (A++(m,d)::B) sz).kids.getD A.length 0=(Ap c A A.length).h:=by
  exact Yaz
 have ah:(AV c (A++(m,d)::B) sz).kids.getD (A.length+1) 0=d.h:=by
  exact Yba
 exact And.intro aj (And.intro O (And.intro U (And.intro ag ah)))):=h
def Yqm{P}(h:P:=by
 have I:(Ap c A A.length).Aa.length+1+d.Aa.length<18446744073709551616:=by
  exact Ydf
 exact I):=h
theorem TG(al:BN.A1 t){c d:Sb}{A B:List Lk}(Z:(Ax c (A++(m,d)::B)).Nodup)(V:At R t a (t-1) c)(J: ∀p∈A++(m,d)::B,At R t a (t-1) p.2)(aq:(Aj c (A++(m,d)::B)).Fits t)(ai:(Ah c (A++(m,d)::B)).length<18446744073709551616)
 (aH:t<=(Ag R t (Ap c A A.length).h).keys.length) (aI:(Ag R t d.h).keys.length<t):
 ∃R1 c2 l2 m' il id,EZ R t (AV c (A++(m,d)::B) sz) A.length=(R1,AV c2 l2 sz)/\(Ap c A A.length).Aa++m::d.Aa=il++m' ::id/\d.Aa.length<id.length/\
  (∀x,(Ax c2 l2).count x=(Ax c (A++(m,d)::B)).count x)/\At R1 t a (t-1) c2/\(∀p∈l2,At R1 t a (t-1) p.2)/\(∀z,z∉Ax c (A++(m,d)::B)->R1 z=R z)/\(Aj c2 l2).Fits t/\l2.length=(A++(m,d)::B).length/\
  Ah c2 l2=pre c A A.length++(il++m' ::(id++rest B))/\(Ap c2 l2 (A.length+1)).Aa=id/\At R1 t a t (Ap c2 l2 (A.length+1))/\pre c2 l2 (A.length+1)=pre c A A.length++(il++ [m']):=by
 have t1:=al.1;obtain⟨aa,ab⟩:=YG;have ar:At R t a (t-1+1) (Ap c A A.length):=aa.up al (by omega);have au:=Yqm;obtain⟨m',il,id,nl,nd,g1,g2,g3,g4,g5,g6,g7,g8,g9,g10⟩:=VJ al m ar ab (by omega) au rfl;obtain⟨more,ae⟩:=Zx ((CH R t (Ag R t (Ap c A A.length).h).kids ((Ag R t (Ap c A A.length).h).kids.length-1)+1)%18446744073709551616);rw [<-ae] at g5 g6 g10;obtain⟨_,O,U,ag,ah⟩:=Yqh;obtain⟨ac,af⟩:=ZQ;obtain⟨R1,I⟩:=Zx (AT (AT R (Ap c A A.length).h (some ((Io (Ag R t (Ap c A A.length).h) more).wd t))) d.h (some ((Ik (Ag R t (Ap c A A.length).h) (Ag R t d.h) m.kh m.vh more).wd t)));have aw:R1 (Ap c A A.length).h=some ((Io (Ag R t (Ap c A A.length).h) more).wd t):=by rw [I,As U,AR]
 have ax:R1 d.h=some ((Ik (Ag R t (Ap c A A.length).h) (Ag R t d.h) m.kh m.vh more).wd t):=by rw [I,AR]
 have an:=Ykk;obtain⟨ay,a2⟩:=g10 R1 aw ax (λz _ h1 am=>an z h1 am) O;obtain⟨az,aA,aB,aC,aD,aE,aF,aJ,ao,aK,aG⟩:=NU (R1:=R1) (m' :=m') Z V J aq g7 (λz h1 am=>an z (λe=>h1 (by rw [e];exact DA aa)) (λe=>am (by rw [e];exact DA ab))) ay (a2.lower (by omega)) _ _ rfl;refine⟨R1,_,_,m',il,id, ?_,g3,g4,az,aA,aB,aC,aD,aE,aF,by rw [ao],by rw [ao];exact a2.lower (by omega),aG⟩;unfold EZ;exact Ycn
theorem SH(al:BN.A1 t){c d:Sb}{A B:List Lk}(Z:(Ax c (A++(m,d)::B)).Nodup)(V:At R t a (t-1) c)(J: ∀p∈A++(m,d)::B,At R t a (t-1) p.2)(ar:(Aj c (A++(m,d)::B)).Fits t)(ai:(Ah c (A++(m,d)::B)).length<18446744073709551616)
 (aH:t<=(Ag R t d.h).keys.length) (aI:(Ag R t (Ap c A A.length).h).keys.length<t):
 ∃R1 c2 l2 m' il id,DB R t (AV c (A++(m,d)::B) sz) A.length=(R1,AV c2 l2 sz)/\(Ap c A A.length).Aa++m::d.Aa=il++m' ::id/\(Ap c A A.length).Aa.length<il.length/\
  (∀x,(Ax c2 l2).count x=(Ax c (A++(m,d)::B)).count x)/\At R1 t a (t-1) c2/\(∀p∈l2,At R1 t a (t-1) p.2)/\(∀z,z∉Ax c (A++(m,d)::B)->R1 z=R z)/\(Aj c2 l2).Fits t/\l2.length=(A++(m,d)::B).length/\
  Ah c2 l2=pre c A A.length++(il++m' ::(id++rest B))/\(Ap c2 l2 A.length).Aa=il/\At R1 t a t (Ap c2 l2 A.length)/\pre c2 l2 A.length=pre c A A.length:=by
 have t1:=al.1;obtain⟨aa,ab⟩:=YG;have au:At R t a (t-1+1) d:=ab.up al (by omega);have aw:=Yqm;obtain⟨m',il,id,nl,nd,g1,g2,g3,g4,g5,g6,g7,g8,g9,g10⟩:=Te al m aa au (by omega) aw rfl;obtain⟨more,ae⟩:=Zx ((CH R t (Ag R t d.h).kids 0+1)%18446744073709551616);rw [<-ae] at g5 g6 g10;obtain⟨_,O,U,ag,ah⟩:=Yqh;obtain⟨ac,af⟩:=ZQ;obtain⟨R1,I⟩:=Zx (AT (AT R (Ap c A A.length).h (some ((Iq (Ag R t (Ap c A A.length).h) (Ag R t d.h) m.kh m.vh more).wd t))) d.h (some ((Ix (Ag R t d.h) more).wd t)));have ax:R1 (Ap c A A.length).h=some ((Iq (Ag R t (Ap c A A.length).h) (Ag R t d.h) m.kh m.vh more).wd t):=by rw [I,As U,AR]
 have ay:R1 d.h=some ((Ix (Ag R t d.h) more).wd t):=by rw [I,AR]
 have an:=Ykk;obtain⟨ao,a2⟩:=g10 R1 ax ay (λz _ h1 am=>an z h1 am) O;obtain⟨az,aA,aB,aC,aD,aE,aF,aq,aJ,aG,aK⟩:=NU (R1:=R1) (m' :=m') Z V J ar g7 (λz h1 am=>an z (λe=>h1 (by rw [e];exact DA aa)) (λe=>am (by rw [e];exact DA ab))) (ao.lower (by omega)) a2 _ _ rfl;refine⟨R1,_,_,m',il,id, ?_,g3,g4,az,aA,aB,aC,aD,aE,aF,by rw [aq],by rw [aq];exact ao.lower (by omega),aG⟩;unfold DB;exact Ycn
theorem IE(ag:BN.A1 t){c d:Sb}{A B:List Lk}(Z:(Ax c (A++(m,d)::B)).Nodup)(V:At R t a (t-1) c)(J: ∀p∈A++(m,d)::B,At R t a (t-1) p.2)(ao:(Aj c (A++(m,d)::B)).Fits t)(ai:(Ah c (A++(m,d)::B)).length<18446744073709551616)(aq:R 0=none)
 (aK:(Ag R t d.h).keys.length<t) (aL:(Ag R t (Ap c A A.length).h).keys.length<t):
 ∃R1 c2 l2,BO R t (AV c (A++(m,d)::B) sz) A.length=(R1,AV c2 l2 sz)/\(AV c (A++(m,d)::B) sz).kids.getD (A.length+1) 0=d.h/\
  (∀x,(Ax c2 l2).count x+ [d.h].count x=(Ax c (A++(m,d)::B)).count x)/\At R1 t a (t-1) c2/\(∀p∈l2,At R1 t a (t-1) p.2)/\(∀z,z∉Ax c (A++(m,d)::B)->R1 z=R z)/\R1 d.h=none/\(Aj c2 l2).Fits t/\l2.length+1=(A++(m,d)::B).length/\
  Ah c2 l2=Ah c (A++(m,d)::B)/\(Ap c2 l2 A.length).Aa=(Ap c A A.length).Aa++m::d.Aa/\At R1 t a t (Ap c2 l2 A.length)/\pre c2 l2 A.length=pre c A A.length:=by
 have t1:=ag.1;obtain⟨aa,ab⟩:=YG;have ar:=Yqm;obtain⟨nl,g5,g7,g10⟩:=Tq ag m aa ab aq (by omega) ar;have aj:=Yi;have O:((Ap c A A.length).ns++d.ns).Nodup:=by
  exact Ybf
 have au:=Ykt;have aw:(AV c (A++(m,d)::B) sz).kids.getD A.length 0=(Ap c A A.length).h:=by
  exact Yaz
 have ah:(AV c (A++(m,d)::B) sz).kids.getD (A.length+1) 0=d.h:=by
  exact Yba
 obtain⟨ax,ay⟩:=ZQ;obtain⟨R1,I⟩:=Zx (AT (AT R (Ap c A A.length).h (some ((Iv (Ag R t (Ap c A A.length).h) (Ag R t d.h) m.kh m.vh).wd t))) d.h none);have az:R1 (Ap c A A.length).h=some ((Iv (Ag R t (Ap c A A.length).h) (Ag R t d.h) m.kh m.vh).wd t):=by rw [I,As au,AR]
 have aA:R1 d.h=none:=by rw [I,AR]
 have al:=Ykk;have aB:d.h∉nl:=λhm=>by
  have h1:=g7 d.h;have ae:=List.nodup_iff_count.1 O d.h;have aM:=List.count_pos_iff.2 hm;rw [List.count_append] at ae;simp only [List.count_cons_self,List.count_nil] at h1;omega
 have am:=g10 R1 az (λz h0 h1=>al z h1 (λe=>aB (by rw [<-e];exact h0))) O;obtain⟨aC,aD,aE,aF,aG,aH,aI,an,aJ⟩:=TK (R1:=R1) Z V J ao g7 (λz h1 ae=>al z (λe=>h1 (by rw [e];exact DA aa)) (λe=>ae (by rw [e];exact DA ab))) (am.lower (by omega)) _ _ rfl;refine⟨R1,_,_, ?_,ah,aC,aD,aE,aF,aA,aG,aH, ?_,by rw [an],by rw [an];exact am.lower (by omega),aJ⟩
 . unfold BO
   obtain⟨ws,w1,w2⟩:=aa.rec;simp only [aw,ah,ax,ay];rw [B9 g5 w1 w2,<-I,Xu (M:=⟨(Ap c A A.length).h,(Ap c A A.length).Aa++m::d.Aa,nl⟩) rfl];rfl
 . rw [aI,MF];simp
theorem Gz{g:Wh}{f k:Nat}{b:Bool}(d:Ag R t x=n)(hg:g R n=(k,b)):AP t (f+1) R x g=AP.tkGo t R x n k b (λR x=>AP t f R x g) (λR x=>AP t f R x Ci) (λR x=>AP t f R x Cu):=by
 subst d
 conv=>lhs;unfold AP
 rw [hg]
def X7{P}(h:P:=by
 exact Pd Z hw am az an nn al ar ao au ae ag aB aC O):=h
def Yde{P}(h:P:=by
 rw [aq,MF];have:(Ap c A A.length).Aa++m::(d.Aa++rest B)=il++m' ::(id++rest B):=by
  have:=congrArg (· ++rest B) g2
  simpa using this
 rw [this]):=h
def Yeg{P}(h:P:=by
 rw [af,ac];refine Q4 ah.2 (by rw [Hp];simp) λx hx=> ?_
 rw [Kh (by rfl)] at hx
 simpa using hx):=h
def Yfl{P}(h:P:=by
 unfold AP.tkIn;dsimp only;rw [aw,B9 (R6 aA) (aD.trans w1) w2]):=h
def Yfq{P}(h:P:=by
 have:=ax x;have ai:=List.count_pos_iff.2 hx;exact List.count_pos_iff.1 (by omega)):=h
def Ygh{P}(h:P:=by
 have d:l2.length=A.length+(B.length+1):=by rw [ac,Hp];simp
 omega):=h
def Ygj{P}(h:P:=by
 rw [af,ac,Oc,aF,BU];dsimp only
 conv=>rhs;rw [aE]
 simp):=h
def Ykv{P}(h:P:=by
 have aw:(AV c (A++(m,d)::B) ((Ah c (A++(m,d)::B)).length-1)).Dg A.length b.kh b.vh=AV c2 l2 ((Ah c (A++(m,d)::B)).length-1):=by
  rw [af,ac];exact MS (by rfl) (by rfl)
 exact aw):=h
def Ynh{P}(h:P:=by
 have hle:(Ah c2 l2).length=(Ah c (A++(m,d)::B)).length-1:=by rw [ay,List.length_eraseIdx,if_pos O]
 exact hle):=h
def Yqo{P}(h:P:=by
 have J: ∀z,z∈Ax c2 l2->z∈Ax c (A++(m,d)::B):=λz I=>by
  exact Ydb
 have O:U∉Ax c2 l2:=λhm=>an (J _ hm)
 exact And.intro J O):=h
def Yqz{P}(h:P:=by
 have aw:=Ykv;have ay:Ah c2 l2=(Ah c (A++(m,d)::B)).eraseIdx j:=by
  exact Ygj
 have hle:=Ynh;exact And.intro aw (And.intro ay hle)):=h
theorem Uo(Z:BN.A1 t): ∀(a lo f:Nat) (s:Sb) (j:Nat) (R:Zr) (g:Wh) (T:List It->Nat->Prop),P1 g T->At R t a lo s->R 0=none->s.ns.Nodup->(∀i∈s.Aa,i.At R)->(∀i∈s.Aa,∀z∈i.hs,z∉s.ns)->AY (AI s.Aa)->T s.Aa j->(O:j<s.Aa.length)->s.Aa.length<18446744073709551616->1<=lo->lo<=t->a<f->
 ∃R' D,AP t f R s.h g=(R',D,(s.Aa[j].kh,s.Aa[j].vh))/\HR R R' t a (lo-1) s j D:=by
 intro a
 induction a with
 |zero=>
  intro lo f s j R g T hw h ag ba al ar ao au O ae h1 aV bv;obtain⟨f,rfl⟩: ∃g,f=g+1:=⟨f-1,by omega⟩;obtain⟨a1,bj⟩:=h.2.2.get Z;rw [Gz a1 (hw.leaf R s.Aa j al ao au O)];have bw:(Aq s.Aa).less.HN j=Aq (s.Aa.eraseIdx j):=by
   unfold BN.less BN.HN Aq;simp only [Gi,List.length_eraseIdx,if_pos O,BN.mk.injEq,true_and];omega
  have bk:(Aq (s.Aa.eraseIdx j)).Fits t:=Co (by
   have:=h.2.2.2.1;simp only [Aq,List.length_map] at this;rw [List.length_eraseIdx,if_pos O];omega)
  refine⟨AT R s.h (some ((Aq (s.Aa.eraseIdx j)).wd t)),[], ?_,⟨s.ns,⟨h.1, ?_,AR _ _ _,bk⟩,λx=>by simp⟩,λz bz=>As λe=>bz (by rw [h.1,e];simp),λz I=>absurd I (by simp)⟩
  . unfold AP.tkGo
    rw [if_pos (show(Aq s.Aa).kids= [] from rfl),cond_true,bw,B9 bk h.2.2.1 (BN.B6 _ _)];simp [Aq,O]
  . show lo-1<=(s.Aa.eraseIdx j).length
    have:=h.2.1;rw [List.length_eraseIdx,if_pos O];omega
 |succ a ih=>
  intro lo f s j R g T hw h ag ba al ar ao au O ae bW bX bv;obtain⟨f,rfl⟩: ∃g,f=g+1:=⟨f-1,by omega⟩;have t1:=Z.1;have aB:=h.FD ag;have az:=h.rec;obtain⟨c,l,h1,aV,bY,ah,V,J⟩:=h;obtain⟨a1,bj⟩:=ah.get Z;obtain⟨U,bZ,b3⟩:=s;dsimp only at h1 aV ah al ar ao au O ae ba a1 bj aB az ⊢;subst h1 aV;obtain⟨an,nn⟩:=List.nodup_cons.1 ba;have bA: ∀s∈ET c l,s.Aa≠ []:=Jk (FV Z (by omega) V) (λp hp=>FV Z (by omega) (J p hp));have aZ:=hw.inner R c l j al ao bA au O;have bm:(Aj c l).less=AV c l ((Ah c l).length-1):=Xr (by omega) ae;have bo:(Aj c l).kids≠ []:=by simp [Aj]
  have aC: ∀(s:Sb) (j:Nat) (R:Zr),At R t a t s->R 0=none->s.ns.Nodup->(∀i∈s.Aa,i.At R)->(∀i∈s.Aa,∀z∈i.hs,z∉s.ns)->AY (AI s.Aa)->T s.Aa j->(O:j<s.Aa.length)->s.Aa.length<18446744073709551616-> ∃R' D,AP t f R s.h g=(R',D,(s.Aa[j].kh,s.Aa[j].vh))/\HR R R' t a (t-1) s j D:=
   λs j R q1 ax aH a2 bB bC bD bE bF=>ih t f s j R g T hw q1 ax aH a2 bB bC bD bE bF (by omega) (Nat.le_refl _) (by omega)
  rcases PC c l j O with ⟨k,aW,aS,aL,aG,bb⟩|⟨k,aS,aG,bb⟩
  . rw [bb] at aZ
    rw [Gz a1 aZ];unfold AP.tkGo;rw [if_neg bo,cond_false,bm];by_cases r1:Bk R t (AV c l ((Ah c l).length-1)) k=true
    . have am:Kf R R t a U c l c l k aW j [] lo:=⟨rfl,aS,aG,aL,λx=>by simp,V,J,(HB k V J).up Z (by rw [Cm aS] at r1;simpa using r1),λz _=>rfl,λz I=>absurd I (by simp),ah.2,by omega⟩
      have e:By R t (AV c l ((Ah c l).length-1)) k=(R,AV c l ((Ah c l).length-1),[],k):=(by unfold By;rw [if_pos r1]);rw [e];exact X7
    . by_cases r2:0<k/\Bk R t (AV c l ((Ah c l).length-1)) (k-1)=true
      . have e:By R t (AV c l ((Ah c l).length-1)) k=((EZ R t (AV c l ((Ah c l).length-1)) (k-1)).1,(EZ R t (AV c l ((Ah c l).length-1)) (k-1)).2,[],k):=by unfold By;rw [if_neg r1,if_pos r2]
        rw [e];obtain⟨r3,aT⟩:=r2;rw [Cm aS] at r1;rw [Cm (by omega)] at aT;obtain⟨A,m,d,B,rfl,aX⟩:=Fz (l:=l) (i:=k-1) (by omega);obtain rfl:k=A.length+1:=by omega
        rw [show A.length+1-1=A.length from rfl] at aT ⊢;rw [DO _ _ _ _ (Nat.le_refl _)] at aT;rw [DS] at r1 aL;replace aL :aW <d.Aa.length:=aL;rw [Lh] at aG;obtain⟨R1,c2,l2,m',il,id,g1,g2,g3,aM,aN,aO,aP,aQ,aI,aq,aR,aJ,aK⟩:=TG (sz:=(Ah c (A++(m,d)::B)).length-1) Z nn V J ah.2 ae (by simpa using aT) (by simpa using r1);rw [g1];have aZ:=congrArg List.length g2;simp only [List.length_append,List.length_cons] at aZ;have am:Kf R R1 t a U c (A++(m,d)::B) c2 l2 (A.length+1) (id.length-d.Aa.length+aW) j [] lo:=by
         refine⟨?_,by rw [aI];simp, ?_,by rw [aR];omega,λx=>by rw [aM];simp,aN,aO,aJ,aP,λz I=>absurd I (by simp),aQ,by rw [aI];omega⟩
         . exact Yde
         . rw [aK,aG]
           exact YX
        exact X7
      . by_cases r3:Bk R t (AV c l ((Ah c l).length-1)) (k+1)=true
        . have e:By R t (AV c l ((Ah c l).length-1)) k=((DB R t (AV c l ((Ah c l).length-1)) k).1,(DB R t (AV c l ((Ah c l).length-1)) k).2,[],k):=by unfold By;rw [if_neg r1,if_neg r2,if_pos r3]
          rw [e];have bG:k<l.length:=by
           rcases Nat.lt_or_ge k l.length with h|h
           . exact h
           . rw [SV (by omega)] at r3;cases r3
          rw [Cm aS] at r1;rw [Cm (by omega)] at r3;obtain⟨A,m,d,B,rfl,aX⟩:=Fz bG;subst aX;rw [DO _ _ _ _ (Nat.le_refl _)] at r1 aL;rw [DS] at r3;rw [IP _ _ _ _ (Nat.le_refl _)] at aG;obtain⟨R1,c2,l2,m',il,id,g1,g2,g3,aM,aN,aO,aP,aQ,aI,aq,aR,aJ,aK⟩:=SH (sz:=(Ah c (A++(m,d)::B)).length-1) Z nn V J ah.2 ae (by simpa using r3) (by simpa using r1);rw [g1];have am:Kf R R1 t a U c (A++(m,d)::B) c2 l2 A.length aW j [] lo:=by
           refine⟨?_,by rw [aI];simp,by rw [aK];exact aG,by rw [aR];omega,λx=>by rw [aM];simp,aN,aO,aJ,aP,λz I=>absurd I (by simp),aQ,by rw [aI];omega⟩;exact Yde
          exact X7
        . by_cases aT:0<k
          . have e:By R t (AV c l ((Ah c l).length-1)) k=((BO R t (AV c l ((Ah c l).length-1)) (k-1)).1,(BO R t (AV c l ((Ah c l).length-1)) (k-1)).2,[(AV c l ((Ah c l).length-1)).kids.getD (k-1+1) 0],k-1):=by unfold By;rw [if_neg r1,if_neg r2,if_neg r3,if_pos aT]
            rw [e];have a6: ¬Bk R t (AV c l ((Ah c l).length-1)) (k-1)=true:=(λh=>r2 ⟨aT,h⟩);rw [Cm aS] at r1;rw [Cm (by omega)] at a6;clear r2 r3;obtain⟨A,m,d,B,rfl,aX⟩:=Fz (l:=l) (i:=k-1) (by omega);obtain rfl:k=A.length+1:=by omega
            rw [show A.length+1-1=A.length from rfl] at a6 ⊢;rw [DO _ _ _ _ (Nat.le_refl _)] at a6;rw [DS] at r1 aL;replace aL :aW <d.Aa.length:=aL;rw [Lh] at aG;obtain⟨R1,c2,l2,g1,g2,aM,aN,aO,aP,aQ,aI,aq,aR,aJ,aK,a0⟩:=IE (sz:=(Ah c (A++(m,d)::B)).length-1) Z nn V J ah.2 ae ag (by simpa using r1) (by simpa using a6);rw [g1,g2];have am:Kf R R1 t a U c (A++(m,d)::B) c2 l2 A.length ((Ap c A A.length).Aa.length+1+aW) j [d.h] lo:=by
             refine⟨aR,by simp at aq;omega, ?_,by rw [aJ];simp;omega,aM,aN,aO,aK,aP,λz I=>by rw [List.mem_singleton] at I;rw [I];exact aQ,aI,by omega⟩;rw [a0,aG];exact YX
            exact X7
          . obtain rfl:k=0:=by omega
            have e:By R t (AV c l ((Ah c l).length-1)) 0=((BO R t (AV c l ((Ah c l).length-1)) 0).1,(BO R t (AV c l ((Ah c l).length-1)) 0).2,[(AV c l ((Ah c l).length-1)).kids.getD (0+1) 0],0):=by
             unfold By;rw [if_neg r1,if_neg r2,if_neg r3,if_neg aT,if_pos (by simp [AV];omega)]
            rw [e];rw [Cm aS] at r1;rw [Cm (by omega)] at r3;clear r2;obtain⟨A,m,d,B,rfl,aX⟩:=Fz (l:=l) (i:=0) (by omega);obtain rfl:A= []:=List.eq_nil_of_length_eq_zero aX;have bH :(Ag R t (Ap c [] ([]:List Lk).length).h).keys.length<t:=by
             rw [DO c [] _ 0 (Nat.le_refl _)] at r1
             simpa using r1
            have bI :(Ag R t d.h).keys.length<t:=by
             have:=DS c [] (m,d) B;simp only [List.length_nil] at this;rw [this] at r3
             simpa using r3
            rw [DO c [] _ 0 (Nat.le_refl _)] at aL;rw [IP c [] _ 0 (Nat.le_refl _)] at aG;obtain⟨R1,c2,l2,g1,g2,aM,aN,aO,aP,aQ,aI,aq,aR,aJ,aK,a0⟩:=IE (A:= []) (sz:=(Ah c ([]++(m,d)::B)).length-1) Z nn V J ah.2 ae ag bI bH;simp only [List.length_nil] at g1 g2 aJ aK a0;rw [g1,g2];have am:Kf R R1 t a U c ([]++(m,d)::B) c2 l2 0 aW j [d.h] lo:=by
             refine⟨aR,by omega,by rw [a0];exact aG,by rw [aJ];simp;omega,aM,aN,aO,aK,aP,λz I=>by rw [List.mem_singleton] at I;rw [I];exact aQ,aI,by omega⟩
            exact X7
  . rw [bb] at aZ
    rw [Gz a1 aZ];unfold AP.tkGo;rw [if_neg bo,cond_true,bm];have bp: ∀i,Bk R t (Aj c l) i=Bk R t (AV c l ((Ah c l).length-1)) i:=(λi=>rfl);rw [bp,bp];obtain⟨A,m,d,B,rfl,aX⟩:=Fz aS;subst aX;rw [DO _ _ _ _ (Nat.le_refl _),IP _ _ _ _ (Nat.le_refl _)] at aG;have bJ:(Aj c (A++(m,d)::B)).kids.getD A.length 0=(Ap c A A.length).h:=by
     exact Yaz
    have bK:(Aj c (A++(m,d)::B)).kids.getD (A.length+1) 0=d.h:=by
     exact Yba
    have bL:(Aj c (A++(m,d)::B)).keys.getD A.length 0=m.kh:=(by simp [Aj]);have bM:(Aj c (A++(m,d)::B)).Ab.getD A.length 0=m.vh:=(by simp [Aj]);have DF:=MF c A m d B;have bq:(Ah c (A++(m,d)::B))[j]=m:=by
     have ai:(Ah c (A++(m,d)::B))[j]? =some m:=by
      rw [DF,aG,List.getElem?_append_right (by omega),List.getElem?_append_right (by omega)];simp
     exact YL
    have aF:(Ah c (A++(m,d)::B)).eraseIdx j=pre c A A.length++((Ap c A A.length).Aa++(d.Aa++rest B)):=by
     rw [DF,aG,List.eraseIdx_append_of_length_le (by omega),List.eraseIdx_append_of_length_le (by omega)];simp
    rw [bJ,bK,bL,bM,bq];obtain⟨bc,bd⟩:=YG;have aU:=Yi;have bN:((Ap c A A.length).ns++d.ns).Nodup:=by
     rw [List.nodup_iff_count];intro x;have h1:=List.nodup_iff_count.1 nn x;have aV:=NR c A A.length x (Nat.le_refl _);rw [aU] at h1;simp only [Ax,List.count_append] at h1 aV ⊢;omega
    obtain⟨n1,n2,n3⟩:=List.nodup_append.1 bN;have a7: ∀z,z∈(Ap c A A.length).ns->z∈Ax c (A++(m,d)::B):=(λz I=>by rw [aU];exact List.mem_append.2 (.inl (D0 (Nat.le_refl _) I)));have a8: ∀z,z∈d.ns->z∈Ax c (A++(m,d)::B):=(λz I=>by rw [aU];exact List.mem_append.2 (.inr (List.mem_append.2 (.inl I))));have br: ∀i,i∈(Ap c A A.length).Aa->i∈Ah c (A++(m,d)::B):=(λi hi=>by rw [DF];simp [hi]);have bs: ∀i,i∈d.Aa->i∈Ah c (A++(m,d)::B):=(λi hi=>by rw [DF];simp [hi]);have a9:=FV Z (by omega) bc;have bO:=FV Z (by omega) bd;have hlen:=congrArg List.length DF;simp only [List.length_append,List.length_cons] at hlen;have be:=ao;rw [DF,Br,Br,CQ,Br] at be;have bP:AY (AI (Ap c A A.length).Aa):=(List.pairwise_append.1 (List.pairwise_append.1 be).2.1).1;have bQ:AY (AI d.Aa):=(List.pairwise_append.1 (List.pairwise_cons.1 (List.pairwise_append.1 (List.pairwise_append.1 be).2.1).2.1).2).1;have b4:(A++(m,d)::B).length=A.length+(B.length+1):=(by simp);by_cases r1:Bk R t (AV c (A++(m,d)::B) ((Ah c (A++(m,d)::B)).length-1)) A.length=true
    . rw [if_pos r1]
      rw [Cm (by simp),DO _ _ _ _ (Nat.le_refl _)] at r1;obtain⟨R1,D,g1,g2⟩:=ih t f (Ap c A A.length) ((Ap c A A.length).Aa.length-1) R Ci _ NL (bc.up Z (by simpa using r1)) ag n1 (λi hi=>al i (br i hi)) (λi hi z I hm=>ar i (br i hi) z I (List.mem_cons_of_mem _ (a7 z hm))) bP (by have:=List.length_pos_iff.2 a9;omega) (by have:=List.length_pos_iff.2 a9;omega) (by omega) (by omega) (Nat.le_refl _) (by omega)
      show∃R' D,AP.tkIn t U _ A.length (m.kh,m.vh) (AP t f R (Ap c A A.length).h Ci)=(R',D,(m.kh,m.vh))/\HR _ _ _ _ _ _ _ _
      rw [g1];obtain⟨⟨nl,q1,ax⟩,aH,a2⟩:=g2;have b5:=List.length_pos_iff.2 a9;obtain⟨b,a3⟩:=Zx ((Ap c A A.length).Aa[(Ap c A A.length).Aa.length-1]'(by omega));have aE:(Ap c A A.length).Aa=(Ap c A A.length).Aa.eraseIdx ((Ap c A A.length).Aa.length-1)++ [b]:=by
       rw [List.eraseIdx_eq_dropLast (by omega),a3]
       conv=>lhs;rw [<-List.dropLast_concat_getLast a9]
       rw [List.getLast_eq_getElem]
      rw [<-a3];have bR:At R1 t a (t-1) ⟨d.h,d.Aa,d.ns⟩:=(bd.congr λz I=>aH z λhm=>n3 z hm z I rfl);have bf: ∀x,x∈D->x∈(Ap c A A.length).ns:=λx hx=>by
       exact Yfq
      obtain⟨c2,l2,a4⟩: ∃c2 l2,(c2,l2)=rep c A ⟨(Ap c A A.length).h,(Ap c A A.length).Aa.eraseIdx ((Ap c A A.length).Aa.length-1),nl⟩ ((b,⟨d.h,d.Aa,d.ns⟩)::B):=⟨_,_,rfl⟩;have af :=congrArg Prod.fst a4;have ac :=congrArg Prod.snd a4;dsimp only at af ac;obtain⟨aw,ay,hle⟩:=Yqz;have bg:(Ax c A).Nodup:=(by rw [aU] at nn;exact(List.nodup_append.1 nn).1);have bh: ∀z,z∈Ax c A->z∉Ax d B:=(λz h1 aV=>by rw [aU] at nn;exact(List.nodup_append.1 nn).2.2 z h1 z aV rfl);have aY:=MG (R:=R) (R1:=R1) (a:=a) (lo:=t-1) (L:=⟨(Ap c A A.length).h,(Ap c A A.length).Aa.eraseIdx ((Ap c A A.length).Aa.length-1),nl⟩) (X:=(b,⟨d.h,d.Aa,d.ns⟩)::B) bg V (λp hp=>J p (List.mem_append.2 (.inl hp))) (λz _ I=>aH z I) q1 (λp hp=>by
       rcases List.mem_cons.1 hp with rfl|hp
       . exact bR
       . exact(J p (by simp [hp])).congr λz I=>aH z λhm=>bh z (D0 (Nat.le_refl _) hm) (List.mem_append.2 (.inr (List.mem_flatMap.2 ⟨p,hp,I⟩))))
      have aA:(Aj c2 l2).Fits t:=by
       exact Yeg
      have aD:R1 U=R U:=(aH U λhm=>an (a7 _ hm));obtain⟨ws,w1,w2⟩:=az;have aj: ∀x,(Ax c2 l2).count x+D.count x=(Ax c (A++(m,d)::B)).count x:=λx=>by
       have g1:=ML (c:=c) (A:=A) (L:=⟨(Ap c A A.length).h,(Ap c A A.length).Aa.eraseIdx ((Ap c A A.length).Aa.length-1),nl⟩) (X:=(b,⟨d.h,d.Aa,d.ns⟩)::B) x;have g2:=ax x;rw [af,ac,aU,List.count_append];exact Yds
      obtain⟨b8,a5⟩:=Yqo;rw [<-af,<-ac] at aY;refine⟨AT R1 U (some ((AV c2 l2 ((Ah c (A++(m,d)::B)).length-1)).wd t)),D, ?_,⟨U::Ax c2 l2,⟨c2,l2,ay.symm,rfl, ?_,⟨?_,aA⟩,CN aY.1 (λhm=>a5 (List.mem_append.2 (.inl hm))),λp hp=>CN (aY.2 p hp) (λhm=>a5 (C2 hp hm))⟩,λx=> ?_⟩,λz I=> ?_,λz I=> ?_⟩
      . exact Yfl
      . exact Ygh
      . rw [AR,<-hle];rfl
      . have:=aj x
        simp only [List.count_cons];omega
      . simp only [List.mem_cons,not_or] at I
        rw [As I.1];exact aH z λhm=>I.2 (a7 z hm)
      . rw [As (λe=>an (by rw [<-e];exact a7 _ (bf z I)))]
        exact a2 z I
    . rw [if_neg r1]
      by_cases r2:Bk R t (AV c (A++(m,d)::B) ((Ah c (A++(m,d)::B)).length-1)) (A.length+1)=true
      . rw [if_pos r2]
        rw [Cm (by simp),DS] at r2;have bi:=List.length_pos_iff.2 bO;obtain⟨R1,D,g1,g2⟩:=ih t f d 0 R Cu _ M9 (bd.up Z (by simpa using r2)) ag n2 (λi hi=>al i (bs i hi)) (λi hi z I hm=>ar i (bs i hi) z I (List.mem_cons_of_mem _ (a8 z hm))) bQ rfl bi (by omega) (by omega) (Nat.le_refl _) (by omega)
        show∃R' D,AP.tkIn t U _ A.length (m.kh,m.vh) (AP t f R d.h Cu)=(R',D,(m.kh,m.vh))/\HR _ _ _ _ _ _ _ _
        rw [g1];obtain⟨⟨nd,q1,ax⟩,aH,a2⟩:=g2;obtain⟨b,a3⟩:=Zx (d.Aa[0]'bi);have aE:d.Aa=b::d.Aa.eraseIdx 0:=by
         rw [a3];have: ∀(l:List It) (h:0<l.length),l=l[0]::l.eraseIdx 0:=λl h=>by
          cases l with
          |nil=>simp at h
          |cons x xs=>rfl
         exact this d.Aa bi
        rw [<-a3];have bf: ∀x,x∈D->x∈d.ns:=λx hx=>by
         exact Yfq
        have bS:At R1 t a (t-1) ⟨(Ap c A A.length).h,(Ap c A A.length).Aa,(Ap c A A.length).ns⟩:=(bc.congr λz I=>aH z λhm=>n3 z I z hm rfl);obtain⟨c2,l2,a4⟩: ∃c2 l2,(c2,l2)=rep c A ⟨(Ap c A A.length).h,(Ap c A A.length).Aa,(Ap c A A.length).ns⟩ ((b,⟨d.h,d.Aa.eraseIdx 0,nd⟩)::B):=⟨_,_,rfl⟩;have af :=congrArg Prod.fst a4;have ac :=congrArg Prod.snd a4;dsimp only at af ac;obtain⟨aw,ay,hle⟩:=Yqz;have bu:=nn;rw [aU] at bu;obtain⟨bg,bT,bh⟩:=List.nodup_append.1 bu;have bU:(d.ns++B.flatMap λp=>p.2.ns).Nodup:=bT;have aY:=MG (R:=R) (R1:=R1) (a:=a) (lo:=t-1) (L:=⟨(Ap c A A.length).h,(Ap c A A.length).Aa,(Ap c A A.length).ns⟩) (X:=(b,⟨d.h,d.Aa.eraseIdx 0,nd⟩)::B) bg V (λp hp=>J p (List.mem_append.2 (.inl hp))) (λz bV _=>aH z λhm=>bh z bV z (List.mem_append.2 (.inl hm)) rfl) bS (λp hp=>by
         rcases List.mem_cons.1 hp with rfl|hp
         . exact q1
         . exact(J p (by simp [hp])).congr λz I=>aH z λhm=>(List.nodup_append.1 bU).2.2 z hm z (List.mem_flatMap.2 ⟨p,hp,I⟩) rfl)
        have aA:(Aj c2 l2).Fits t:=by
         exact Yeg
        have aD:R1 U=R U:=(aH U λhm=>an (a8 _ hm));obtain⟨ws,w1,w2⟩:=az;have aj: ∀x,(Ax c2 l2).count x+D.count x=(Ax c (A++(m,d)::B)).count x:=λx=>by
         have g1:=ML (c:=c) (A:=A) (L:=⟨(Ap c A A.length).h,(Ap c A A.length).Aa,(Ap c A A.length).ns⟩) (X:=(b,⟨d.h,d.Aa.eraseIdx 0,nd⟩)::B) x;have g2:=ax x;rw [af,ac,aU,List.count_append];exact Yds
        obtain⟨_,a5⟩:=Yqo;rw [<-af,<-ac] at aY;refine⟨AT R1 U (some ((AV c2 l2 ((Ah c (A++(m,d)::B)).length-1)).wd t)),D, ?_,⟨U::Ax c2 l2,⟨c2,l2,ay.symm,rfl, ?_,⟨?_,aA⟩,CN aY.1 (λhm=>a5 (List.mem_append.2 (.inl hm))),λp hp=>CN (aY.2 p hp) (λhm=>a5 (C2 hp hm))⟩,λx=> ?_⟩,λz I=> ?_,λz I=> ?_⟩
        . exact Yfl
        . exact Ygh
        . rw [AR,<-hle];rfl
        . have:=aj x
          simp only [List.count_cons];omega
        . simp only [List.mem_cons,not_or] at I
          rw [As I.1];exact aH z λhm=>I.2 (a8 z hm)
        . rw [As (λe=>an (by rw [<-e];exact a8 _ (bf z I)))]
          exact a2 z I
      . rw [if_neg r2]
        rw [Cm (by simp),DO _ _ _ _ (Nat.le_refl _)] at r1;rw [Cm (by simp),DS] at r2;obtain⟨R1,c2,l2,g1,g2,aM,aN,aO,aP,aQ,aI,aq,aR,aJ,aK,a0⟩:=IE (sz:=(Ah c (A++(m,d)::B)).length-1) Z nn V J ah.2 ae ag (by simpa using r2) (by simpa using r1);rw [g1];have am:Kf R R1 t a U c (A++(m,d)::B) c2 l2 A.length (Ap c A A.length).Aa.length j [d.h] lo:=by
         refine⟨aR,by simp at aq;omega,by rw [a0];exact aG,by rw [aJ];simp,aM,aN,aO,aK,aP,λz I=>by rw [List.mem_singleton] at I;rw [I];exact aQ,aI,by omega⟩
        have:=Pd Z hw am az an nn al ar ao au ae ag aB aC O;rw [bq] at this;exact this
end
end Bt
def GL(R:Zr)(t root:Nat)(g:Wh):(Zr) × Nat × (Nat × Nat):=
 if (Ag (AP t 40 R root g).1 t root).keys= [] then (AT (AP t 40 R root g).1 root none,(Ag (AP t 40 R root g).1 t root).kids.getD 0 0,(AP t 40 R root g).2.2)
 else ((AP t 40 R root g).1,root,(AP t 40 R root g).2.2)
namespace Bt
section
variable {R:Zr} {t:Nat}
theorem Uj(J:BN.A1 t){g:Wh}{T:List It->Nat->Prop}(hw:P1 g T){root:Nat}{Aa:List It}{ns:List Nat}{hg j:Nat}(h:Tree R t root Aa ns hg)(ar:R 0=none)(V:Own R Aa ns)(au:T Aa j)(ag:j<Aa.length)(aw:Aa.length<549755813888):
 ∃(R' :Zr) (now:Nat) (ah :List Nat) (ax :Nat) (D:List Nat),GL R t root g=(R',now,(Aa[j].kh,Aa[j].vh))/\Tree R' t now (Aa.eraseIdx j) ah ax /\(∀x,ah.count x+D.count x=ns.count x)/\(∀z,z∉ns->R' z=R z)/\ ∀z∈D,R' z=none:=by
 rcases h with ⟨_,rfl,_,_⟩|⟨a,rfl,h⟩
 . exact absurd ag (by simp)
 have ai:=(List.nodup_append.1 V.nodup).1;have ay: ∀i∈Aa,∀z∈i.hs,z∉ns:=λi hi z I az=>(List.nodup_append.1 V.nodup).2.2 z az z (List.mem_flatMap.2 ⟨i,hi,I⟩) rfl
 have t1:=J.1;obtain⟨R1,D,aj,⟨Z,ha,d⟩,aa,ab⟩:=Uo J a 1 40 ⟨root,Aa,ns⟩ j R g T hw h ar ai V.at' ay V.Dn au ag (by show Aa.length<_;omega) (Nat.le_refl _) (by omega) (h.high J aw);dsimp only at aj ha d aa ab;have al:Z.Nodup:=List.nodup_iff_count.2 λx=>by have:=List.nodup_iff_count.1 ai x;have:=d x;omega
 have aA:root∈ns:=List.count_pos_iff.1 (by have:=d root;have:=List.count_pos_iff.2 (DA ha);dsimp only at this;omega);have am: ∀z,z∉ns->AT R1 root none z=R z:=λz I=>(As λe=>I (by rw [e];exact aA)).trans (aa z I)
 have an: ∀z∈root::D,AT R1 root none z=none:=λz I=>by
  by_cases e:z=root
  . rw [e];exact AR _ _ _
  . rw [As e]
    exact ab z ((List.mem_cons.1 I).resolve_left e)
 unfold GL;rw [aj];dsimp only
 cases a with
 |zero=>
  obtain⟨h1,O,U⟩:=ha;dsimp only at h1 O U;rw [(U.get J).1];by_cases ac:Aa.eraseIdx j= []
  . rw [if_pos (by rw [ac];rfl)]
    refine⟨_,_,[],0,root::D,rfl, .inl ⟨rfl,ac,rfl,rfl⟩,λx=> ?_,am,an⟩;have:=d x;rw [h1] at this;rw [List.count_nil,<-this,List.count_cons,List.count_cons,List.count_nil];omega
  . rw [if_neg (show¬(Aq (Aa.eraseIdx j)).keys= [] from λe=>ac (List.map_eq_nil_iff.1 e))]
    exact⟨_,_,Z,0+1,D,rfl, .inr ⟨0,rfl,h1,List.length_pos_iff.2 ac,U⟩,d,aa,ab⟩
 |succ a=>
  obtain⟨c,l,h1,O,U,ae,ao,aB⟩:=ha;dsimp only at h1 O U ae;rw [(ae.get J).1];by_cases af:l= []
  . subst af
    rw [if_pos (show(Aj c []).keys= [] from rfl)];have aC:Aa.eraseIdx j=c.Aa:=(by rw [h1];simp [Ah,rest]);have aq:Z=root::c.ns:=(by rw [O];simp [Ax]);have aD:root∉c.ns:=(by rw [aq] at al;exact(List.nodup_cons.1 al).1);have aE:At (AT R1 root none) t a 1 ⟨c.h,Aa.eraseIdx j,c.ns⟩:=by
     rw [aC];exact(ao.lower (by omega)).congr λx hx=>As λe=>aD (by rw [<-e];exact hx)
    refine⟨_,_,c.ns,a+1,root::D,rfl, .inr ⟨a,rfl,aE⟩,λx=> ?_,am,an⟩;have:=d x;rw [aq,List.count_cons] at this;rw [<-this,List.count_cons];omega
  . rw [if_neg (show¬(Aj c l).keys= [] from λe=>af (List.map_eq_nil_iff.1 e))]
    exact⟨_,_,Z,a+1+1,D,rfl, .inr ⟨a+1,rfl,c,l,h1,O,List.length_pos_iff.2 af,ae,ao,aB⟩,d,aa,ab⟩
end
end Bt
variable {F':Nat->Prop}{H':List Nat}{T:TypeId}{W:World}{b j:Nat}{v:Value}
theorem L6(x:Nat): ∀(l:List It) (j:Nat) (h:j<l.length),((l.eraseIdx j).flatMap It.hs).count x+l[j].hs.count x=(l.flatMap It.hs).count x
 | [],j,h=>absurd h (by simp)
 |i::l,0,h=>by simp [List.count_append];omega
 |i::l,j+1,h=>by
  have:=L6 x l j (by simpa using h);simp only [List.eraseIdx_cons_succ,List.flatMap_cons,List.count_append,List.getElem_cons_succ];omega
section
variable {w w':World} {s:Nat} {F:Nat->Prop} {R:Zr} {H:List Nat} {P q most last G t root:Nat} {Aa:List It} {ns:List Nat} {hg m:Nat}
theorem AU.cut(ai:BN.A1 t)(h:AU w s F R H P q most last G t root Aa ns hg m){g:Wh}{T:List It->Nat->Prop}(hw:Bt.P1 g T)(aj:T Aa j)(Z:j<Aa.length)(al:Aa.length<549755813888)
 (hs:Am w' s F' (GL R t root g).1 H' P q most last G) (aa:Ba (GL R t root g).1):
 ∃(J :List Nat) (ab :Nat),AU w' s F' (GL R t root g).1 H' P q most last G t (GL R t root g).2.1 (Aa.eraseIdx j) J ab (m+2)/\(GL R t root g).2.2=(Aa[j].kh,Aa[j].vh)/\Aa[j].At (GL R t root g).1/\((J ++(Aa.eraseIdx j).flatMap It.hs)++Aa[j].hs).Nodup:=by
 obtain⟨R',now,J,ab,D,e,h1,U,ac,am⟩:=Bt.Uj ai hw h.tr h.z h.ow aj Z al;rw [e] at hs aa ⊢;dsimp only at hs aa ⊢;have ae:=h.ow.nodup;have an:=(List.nodup_append.1 ae).1;have ao: ∀i∈Aa,∀z∈i.hs,z∉ns:=λi hi z aq ar=>(List.nodup_append.1 ae).2.2 z ar z (List.mem_flatMap.2 ⟨i,hi,aq⟩) rfl
 have au:0∉ns:=λh0=>h.ne 0 (List.mem_append_left _ h0) h.z
 have af: ∀i∈Aa,i.At R' :=λi hi=>(h.ow.at' i hi).congr λz d=>ac z (ao i hi z d)
 have ag: ∀x,((J ++(Aa.eraseIdx j).flatMap It.hs)++Aa[j].hs).count x<=1:=λx=>by
  have aw:=List.nodup_iff_count.1 ae x;have ah:=U x;have ax:=L6 x Aa j Z;rw [List.count_append] at aw;rw [List.count_append,List.count_append];omega
 have aF:ns.length=J.length+D.length:=by
  have:ns.Perm (J ++D):=List.perm_iff_count.2 λx=>by rw [List.count_append];exact(U x).symm
  rw [this.length_eq,List.length_append]
 have ay: ∀z∈J,R' z≠none:=λz d=>by
  rcases h1 with ⟨_,_,O,_⟩|⟨a,_,I⟩
  . rw [O] at d;simp at d
  . obtain⟨ws,V,_⟩:=I.Fm z d;rw [V];simp
 have az: ∀z,z∈D->z∈ns:=λz d=>List.count_pos_iff.1 (by have:=U z;have:=List.count_pos_iff.2 d;omega)
 have hlen:H.length=H'.length+D.length:=by
  have aA:D.Nodup:=List.nodup_iff_count.2 λx=>by have:=List.nodup_iff_count.1 an x;have:=U x;omega
  have aB:(H' ++D).Nodup:=List.nodup_append.2 ⟨hs.nodup,aA,λa ha b aC O=>(hs.SB a).1 ha (by rw [O];exact am b aC)⟩;have:H.Perm (H' ++D):=(List.perm_ext_iff_of_nodup h.st.nodup aB).2 λz=>by
   rw [List.mem_append,h.st.SB,hs.SB];by_cases d:z∈ns
   . have V:=h.ne z (List.mem_append_left _ d)
     refine⟨λ_=> ?_,λ_=>V⟩;have ah:=U z;have ax:=List.count_pos_iff.2 d;by_cases I:z∈D
     . exact .inr I
     . refine .inl (ay z (List.count_pos_iff.1 ?_))
       rw [List.count_eq_zero.2 I] at ah;omega
   . rw [ac z d]
     exact⟨.inl,λI=>I.elim id λI=>absurd (az z I) d⟩
  rw [this.length_eq,List.length_append]
 have hle:=h.len;have aD:(Aa.eraseIdx j).length=Aa.length-1:=by rw [List.length_eraseIdx,if_pos Z]
 refine⟨J,ab,⟨hs,by rw [ac 0 au];exact h.z,aa,h1,⟨λi hi=>af i (List.mem_of_mem_eraseIdx hi), ?_,List.nodup_iff_count.2 λx=> ?_⟩,by rw [aD];omega, ?_⟩,rfl,af _ (List.getElem_mem Z),List.nodup_iff_count.2 ag⟩
 . have O:Bt.AI (Aa.eraseIdx j)=(Bt.AI Aa).eraseIdx j:=by unfold Bt.AI;rw [Bt.Gi]
   rw [O];exact h.ow.Dn.sublist (List.eraseIdx_sublist _ _)
 . have:=ag x
   rw [List.count_append] at this;omega
 . rcases h1 with ⟨O,_⟩|⟨a,_,I⟩
   . rw [O];decide
   . obtain⟨ws,V,_⟩:=I.rec
     obtain⟨n9,aE,_⟩:=hs.rd;exact(aE.u64 V).1
end
def PL(w:World)(s:Nat)(F:Nat->Prop)(P q most last G:Nat)(p:(Zr) × Nat × (Nat × Nat))(e:Ending)(w' :World):Prop:=
 ∃(F' :Nat->Prop) (H' :List Nat),e= .returned (.tuple #[.int .u64 p.2.1, .agg #[.int .u64 p.2.2.1, .int .u64 p.2.2.2]])/\Am w' s F' p.1 H' P q most last G/\Ba p.1/\Ad w F w' F'
theorem I2{w:World}{s I:Nat}{F:Nat->Prop}{R' :Zr}{P q most last G:Nat}{v0 v1:Value}(U:Am W s F' R' H' P q most last G)(V:Ad w F W F')(Z:w.heap.size<=I)(J:An W I 31 [v0,v1])(aa: ∀p,v0≠ .pointer p)(ab: ¬F' I)(h1:s<I/\1<I)(c d:Value):
 Am ((W.setCell ⟨I,0,none⟩ c).setCell ⟨I,1,none⟩ d).drew s F' R' H' P q most last G/\Ad w F ((W.setCell ⟨I,0,none⟩ c).setCell ⟨I,1,none⟩ d).drew F' /\((W.setCell ⟨I,0,none⟩ c).setCell ⟨I,1,none⟩ d).drew.cell? ⟨I,0,none⟩=some c/\((W.setCell ⟨I,0,none⟩ c).setCell ⟨I,1,none⟩ d).drew.cell? ⟨I,1,none⟩=some d:=by
 obtain⟨ac,ae⟩:=C9 U V Z J ⟨_,rfl,aa⟩ ab h1 c d;have O:=(J.set 0 c).set 1 d;generalize (W.setCell ⟨I,0,none⟩ c).setCell ⟨I,1,none⟩ d=X at*;have hd:Below X.heap.size X X.drew:=Ac X;exact⟨ac.below hd,ae.trans (Ad.below hd),(O.below hd).at' (i:=0) rfl,(O.below hd).at' (i:=1) rfl⟩
section
variable {w w':World} {s:Nat} {F:Nat->Prop} {R:Zr} {H:List Nat} {P q most last G t:Nat}
def XZ{P}(h:P:=by
 have d:=Zh (ah.1.below I);have J:=Zh (And.intro ab ag);exact And.intro d J):=h
def Z2{P}(h:P:=by
 have d:=Zh (And.intro g1 g2);have I:=Zh (And.intro g3 g4);exact And.intro d I):=h
theorem Pg(aU:BN.A1 t)(ar:Am w s F R H P q most last G)(bP:Ba R){g:Wh}(bq:JH w s F v g)(x:Nat)(hx:x<18446744073709551616):
 Calls prog 32 #[.agg #[.pointer (some ⟨s,0,none⟩), .int .i64 t], .int .u64 x,v] w (PL w s F P q most last G (GL R t x g)):=by
 have cc:=ar.FN;have cd:=ar.CU;obtain⟨ai,aB⟩:=Zx ((w.alloc (Obj.cells #[.pointer (some ⟨s,0,none⟩), .int .i64 t] 77)).alloc (Obj.cells #[.int .u64 0, .int .u64 0] 31));obtain⟨aK,aC⟩:=Zx w.heap.size;obtain⟨b7,aM⟩:=Zx (w.heap.size+1);have aF:=VC;have aV:=Ylu;have x7:An ai b7 31 [.int .u64 0, .int .u64 0]:=by
  exact Ybz
 have aW:=Zh (TZ aU 40 (ar.below aF) bP (bq.Ar (Ad.below aF)) x hx 0 (by omega));have aO:Hid (∀z,w.heap.size<=z-> ¬F z):=Zh (λz ce aj=>by have:=ar.lt aj;omega);have aw:=Zh (show w.heap.size<=aK/\w.heap.size<=b7/\s<b7/\1<b7 from⟨by omega,by omega,by omega,by omega⟩);have hcut:Hid (∀p,p=AP t 40 R x g->GL R t x g=if (Ag p.1 t x).keys= [] then (AT p.1 x none,(Ag p.1 t x).kids.getD 0 0,p.2.2) else (p.1,x,p.2.2)):=Zh (λp h=>by rw [h];rfl);have au:=Qf;have aL:=Zh aF;have br:=Zh aV;have aX:=Zh x7;have bQ:=Zh aU;obtain⟨c3,aG⟩:=A2 aV;rw [au.1,au.2.1] at c3 aG;obtain⟨bs,aY⟩:=Zx (AP t 40 R x g);rw [<-aY] at aW;have hcut:=Zh (hcut bs aY);obtain⟨aZ,cf,V,c7⟩:=bs;clear aB aC aM aF aV x7 ar bq aY aU;go_enter func32,ntmps32;go_wp2_with fail;rw [<-au.1,<-au.2.2,<-au.2.1];refine aW.mono ?_;rintro e w1 ⟨bu,H1,rfl,bv,aH,J,a0⟩;dsimp only at bv aH J hcut ⊢;obtain⟨O,ae⟩:=Zx (w1.alloc (Obj.cells #[.int .u64 V, .int .u64 c7] 31));obtain⟨a1,aa⟩:=Zx w1.heap.size;have a2:Below w1.heap.size w1 O:=by rw [ae];exact(Below.refl _ _).alloc (Nat.le_refl _) _
 have bw:An O a1 31 [.int .u64 V, .int .u64 c7]:=by rw [ae,aa];exact An.new w1 _ _
 have a3:=aH.below a2;have am:=a0.trans (Ad.below a2);obtain⟨a4,a5⟩:=Yos;have a6:=br.Ar am a4;have U:=aX.Ar am a5;have bz: ¬bu a1:=λaj=>by have:=aH.lt aj;omega
 have aJ:=Zh (λn (bR:Rd O.heap.size O s aZ n)=>F6 bR t bQ x hx);obtain⟨nn,bA,-⟩:=a3.rd;have aJ:=Zh (aJ nn bA);obtain⟨c3,aG⟩:=A2 a6;have a8:=Zh a3;have ah:=Zh (And.intro a6 (am.not br.lt a4));have ax:=Zh (And.intro U (am.not aX.lt a5));have bB:=Zh (And.intro bw bz);have bS:=Un;obtain⟨bC,a9⟩:=LJ;have aN:a1≠b7:=by have:=aX.lt;have:=a0.size;omega
 clear ae aa a2 bw a3 am a4 a5 bz a6 U bA aH a0 J bv aW;rw [a9.1] at c3 aG;go_wp2_with fail;rw [<-a9.1,<-a9.2];refine aJ.mono ?_;rintro e w3 ⟨v1,v2,v3,rfl,ay,aC⟩;obtain⟨ba,k1,rfl⟩:=Ae ay.r1;obtain⟨bb,k2,rfl⟩:=Ae ay.r2;obtain⟨bD,bc,rfl⟩:=Ae ay.r3;generalize Ag aZ t x=n at*;obtain⟨d,ab⟩:=Zx (w3.alloc (Obj.cells #[.slice ba n.keys.length k1, .slice bb n.Ab.length k2, .slice bD n.kids.length bc, .int .u64 n.size] 100));obtain⟨aP,ag⟩:=Zx w3.heap.size;have a7:=Ynr;have I:=Ymr;have aQ:An d aP 100 [.slice ba n.keys.length k1, .slice bb n.Ab.length k2, .slice bD n.kids.length bc, .int .u64 n.size]:=by rw [ab,ag];exact An.new w3 _ _
 have bd:=Zh (ay.below a7);have bT:=Zh (show O.heap.size<=aP by have:=aC.size;omega);have n9: ¬bu aP:=λaj=>by have:=a8.lt aj;have:=aC.size;omega
 have aR:=Zh (ax.1.below I);have be:=Zh (bB.1.below I);have bE:=Zh (a8.below I);have bF:=Zh (bS.trans (Ad.below I));have bf:=aQ.at' (i:=0) rfl;have bg:=aQ.at' (i:=2) rfl;have bG:=Zh (And.intro aQ n9);obtain⟨bU,an⟩:=XZ;clear ay aC ab ag a7 I aQ n9 aJ c3 aG;rw [an.1,an.2] at bf;have bV:b7<O.heap.size:=ax.1.lt;by_cases az:n.keys= []
 . have hcut:=Zh (hcut.trans (if_pos az))
   have bW:decide (0<n.keys.length)=false:=(by rw [az];rfl);clear az;have bH:=Zh (Kq bE.out x hx);have bX:=bU.at' (i:=0) rfl;go_upto_if 20 with (fail);rw [<-an.1,<-an.2];clear bf;go_wp2_with fail;refine bH.mono ?_;rintro e ao ⟨er,cg,rfl,bI,al⟩;have U:=Zh (And.intro (aR.Ar al ax.2) (al.not aR.lt ax.2));have bh:=be.Ar al bB.2;have bi:=bG.1.Ar al bG.2;have bj:=Zh (bd.out.blocks λk bJ=>al.keep k (bd.out.IC bJ).2 (λaj=>by have:=a8.lt aj;have:=(bd.out.IC bJ).1;omega));have bK:=Zh bI;have bL:=Zh (bF.trans al);have bM:Hid (Ba (AT aZ x none)):=Zh (Mq bC x);have bg:=bi.at' (i:=2) rfl;have aS:=(λX:Au (λz=>z=b7) ao=>X.cell (bh.at' (i:=0) rfl) aN);have aT:=(λX:Au (λz=>z=b7) ao=>X.cell (bh.at' (i:=1) rfl) aN);have bY:=Zh (show aP≠b7 by have aq:=bi.lt;have:=bV;have:=bT.out;omega);clear bI al bH bX bh bi;by_cases hi:n.kids= []
   . have bZ:decide ((0:Int)<(n.kids.length:Int))=false:=by rw [hi];rfl
     have b3:decide (0<n.kids.length)=false:=(by rw [hi];rfl);have b4:=Zh hi;clear hi;obtain⟨⟨d0,d1⟩,f0,f1⟩:=Dl U.1;obtain⟨g1,g2,g3,g4⟩:=I2 bK bL aw.2.1 U.1 (λp aq=>by cases aq) U.2 aw.2.2 (.int .u64 V) (.int .u64 c7);obtain⟨ac,aA⟩:=Z2;clear g1 g2 g3 g4;go_wp2;refine Aw (λw' => ∃X:Au (λz=>z=b7) ao,w' =X.W) [.r 0, .r 1, .a 2] (Ay _ _) ?_
     iterate 2 (refine AE ?_;go_simp)
     clear aS aT;refine AK _ rfl (λaD af=> ?_);go_wp2;refine af _ _ (Cl (Bi (B:=λz=>z=b7) (p:=⟨b7,1,none⟩) (Bi (B:=λz=>z=b7) (p:=⟨b7,0,none⟩) (Af (Below.refl _ _)) rfl _) rfl _) (Ac _)) (AO ?_);clear af aD d0 d1 f0 f1;go_wp2;obtain⟨aE,r1⟩:=aA.out;exact bodyPost_ret (v:= .tuple #[.int .u64 0, .agg #[.int .u64 V, .int .u64 c7]]) (by simp [results,f32,go_sem,aE,r1]) rfl (by
      unfold PL;rw [hcut.out,b4.out];exact⟨_,_,rfl,ac.1,bM,ac.2⟩)
   . have bZ:decide ((0:Int)<(n.kids.length:Int))=true:=decide_eq_true (by have:=List.length_pos_iff.2 hi;omega)
     have bk:0<n.kids.length:=List.length_pos_iff.2 hi;have b3:decide (0<n.kids.length)=true:=decide_eq_true bk;obtain⟨bm,ci,bN,_,_⟩:=Bj bj.r3 hi;simp only [Value.slice.injEq] at bN;obtain⟨rfl,-,rfl⟩:=bN;have bo:=BZ bj.r3 bk;obtain⟨bO,bp⟩:=Zx (n.kids[0]);rw [<-bp] at bo;have b5:Hid (n.kids.getD 0 0=bO):=Zh (by rw [Cf bk,bp]);have b8:bm≠b7:=(by have:=(bj.IC (v:=(.slice ba n.keys.length k1, .slice bb n.Ab.length k2, .slice (some ⟨bm,0,none⟩) n.kids.length bc)) (k:=bm) (.inr (.inr rfl))).1;omega);have b9:=(λX:Au (λz=>z=b7) ao=>X.cell bg bY.out);have cb:=(λX:Au (λz=>z=b7) ao=>X.cell bo b8);clear bo bp;obtain⟨⟨d0,d1⟩,f0,f1⟩:=Dl U.1;obtain⟨g1,g2,g3,g4⟩:=I2 bK bL aw.2.1 U.1 (λp aq=>by cases aq) U.2 aw.2.2 (.int .u64 V) (.int .u64 c7);obtain⟨ac,aA⟩:=Z2;clear g1 g2 g3 g4;go_wp2;refine Aw (λw' => ∃X:Au (λz=>z=b7) ao,w' =X.W) [.r 0, .r 1, .r 2, .r 3, .r 4, .r 5, .a 6] (Ay _ _) ?_
     iterate 6 (refine AE ?_;go_simp)
     clear aS aT b9 cb;refine AK _ rfl (λaD af=> ?_);go_wp2;refine af _ _ (Cl (Bi (B:=λz=>z=b7) (p:=⟨b7,1,none⟩) (Bi (B:=λz=>z=b7) (p:=⟨b7,0,none⟩) (Af (Below.refl _ _)) rfl _) rfl _) (Ac _)) (AO ?_);clear af aD d0 d1 f0 f1;go_wp2;obtain⟨aE,r1⟩:=aA.out;exact bodyPost_ret (v:= .tuple #[.int .u64 bO, .agg #[.int .u64 V, .int .u64 c7]]) (by simp [results,f32,go_sem,aE,r1]) rfl (by
      unfold PL;rw [hcut.out,b5.out];exact⟨_,_,rfl,ac.1,bM,ac.2⟩)
 . have hcut:=Zh (hcut.trans (if_neg az))
   have bW:decide (0<n.keys.length)=true:=decide_eq_true (List.length_pos_iff.2 az);have aS:=(λX:Au (λz=>z=b7) d=>X.cell (be.at' (i:=0) rfl) aN);have aT:=(λX:Au (λz=>z=b7) d=>X.cell (be.at' (i:=1) rfl) aN);go_upto_if 20 with (fail);rw [<-an.1,<-an.2];clear bf bg;obtain⟨⟨d0,d1⟩,f0,f1⟩:=Dl aR.out;obtain⟨g1,g2,g3,g4⟩:=I2 bE bF aw.2.1 aR (λp aq=>by cases aq) ax.2 aw.2.2 (.int .u64 V) (.int .u64 c7);obtain⟨ac,aA⟩:=Z2;clear g1 g2 g3 g4;go_wp2;refine Aw (λw' => ∃X:Au (λz=>z=b7) d,w' =X.W) [.r 0, .r 1, .r 2, .a 3] (Ay _ _) ?_
   iterate 3 (refine AE ?_;go_simp)
   clear aS aT;refine AK _ rfl (λaD af=> ?_);go_wp2;refine af _ _ (Cl (Bi (B:=λz=>z=b7) (p:=⟨b7,1,none⟩) (Bi (B:=λz=>z=b7) (p:=⟨b7,0,none⟩) (Af (Below.refl _ _)) rfl _) rfl _) (Ac _)) (AO ?_);clear af aD d0 d1 f0 f1;go_wp2;obtain⟨aE,r1⟩:=aA.out;exact bodyPost_ret (v:= .tuple #[.int .u64 x, .agg #[.int .u64 V, .int .u64 c7]]) (by simp [results,f32,go_sem,aE,r1]) rfl (by
    unfold PL;rw [hcut.out];exact⟨_,_,rfl,ac.1,bC,ac.2⟩)
end
def UZ(W:World)(b:Nat)(w' :World):Prop:= ∃X:Au (λz=>z=b) W,w' =X.W/\X.W.cell? ⟨b,0,none⟩=some (.int .u64 0)/\X.W.cell? ⟨b,1,none⟩=some (.int .u64 0)
theorem Me(h:An W b T [.int .u64 0, .int .u64 0]):UZ W b { W with drawn:=W.drawn+1 }:=
 ⟨⟨{ W with drawn:=W.drawn+1 },Nat.le_refl _,λ_ _ _=>rfl⟩,rfl,(h.below (Ac W)).at' (i:=0) rfl,(h.below (Ac W)).at' (i:=1) rfl⟩
theorem Pc(h:An W b T [.int .u64 0, .int .u64 0]):UZ W b ((W.setCell ⟨b,0,none⟩ (.int .u64 0)).setCell ⟨b,1,none⟩ (.int .u64 0)).drew:=by
 obtain⟨X,J⟩:=Cl (Bi (B:=λz=>z=b) (p:=⟨b,1,none⟩) (Bi (B:=λz=>z=b) (p:=⟨b,0,none⟩) (Af (Below.refl _ W)) rfl (.int .u64 0)) rfl (.int .u64 0)) (Ac _);have I:=BG ((h.set 0 (.int .u64 0)).set 1 (.int .u64 0));have d :((W.setCell ⟨b,0,none⟩ (.int .u64 0)).setCell ⟨b,1,none⟩ (.int .u64 0)).drew=X.W:=J;refine⟨X,d, ?_, ?_⟩
 . rw [<-d];exact I.at' (i:=0) rfl
 . rw [<-d];exact I.at' (i:=1) rfl
def JP(w:World)(s:Nat)(F:Nat->Prop)(P q most last G t:Nat)(it:It)(its' :List It)(m:Nat)(e:Ending)(w' :World):Prop:=
 ∃(R' :Zr) (F' :Nat->Prop) (H' :List Nat) (now:Nat) (ns' :List Nat) (hg' :Nat),e= .returned (.tuple #[.int .u64 now, .agg #[.int .u64 it.kh, .int .u64 it.vh], .bool true, .int .i64 0])/\AU w' s F' R' H' P q most last G t now its' ns' hg' (m+2)/\it.At R' /\((ns' ++its'.flatMap It.hs)++it.hs).Nodup/\Ad w F w' F'
section
variable {w w':World} {s:Nat} {F:Nat->Prop} {R:Zr} {H:List Nat} {P q most last G t root:Nat} {Aa:List It} {ns:List Nat} {hg m:Nat}
theorem AU.ZN(d:BN.A1 t)(h:AU w s F R H P q most last G t root Aa ns hg m){g:Wh}{T:List It->Nat->Prop}(hw:Bt.P1 g T)(I:T Aa j)(J:j<Aa.length)(O:Aa.length<549755813888){X:World}{p:(Zr) × Nat × (Nat × Nat)}(hp:p=GL R t root g)
 (hs:Am X s F' p.1 H' P q most last G) (U:Ba p.1) (V:Ad w F X F'):JP w s F P q most last G t Aa[j] (Aa.eraseIdx j) m (.returned (.tuple #[.int .u64 p.2.1, .agg #[.int .u64 p.2.2.1, .int .u64 p.2.2.2], .bool true, .int .i64 0])) X:=by
 subst hp;obtain⟨Z,aa,h1,ab,ac,ae⟩:=h.cut d hw I J O hs U;exact⟨_,_,_,_,Z,aa,by rw [ab],h1,ac,ae,V⟩
def Yfc{P}(h:P:=by
 obtain⟨nn,d,-⟩:=(h.below aw).st.rd;exact LZ d U h.rt (by decide) (h.tr.U9 U)):=h
def YT{P}(h:P:=by
 have an:An O d 31 [.int .u64 0, .int .u64 0]:=by rw [ae,Z];exact An.new w _ _
 have I:=Zh (show w.heap.size<=d/\s<d/\1<d from⟨by omega,by omega,by omega⟩);have aD: ¬F d:=λJ=>by have:=h.st.lt J;omega
 exact And.intro an (And.intro I aD)):=h
def Yy{P}(h:P:=by
 have I:Below O.heap.size O ao:=by rw [ab];exact aa.trans (((Below.refl _ _).alloc (Nat.le_refl _) _).mono aa.size)
 exact I):=h
def Yme{P}(h:P:=by
 have d:=λX:Au (λ_=>False) ar=>X.cell (J.1.at' (i:=0) rfl) (λh=>h)
 have I:=λX:Au (λ_=>False) ar=>X.cell (J.1.at' (i:=1) rfl) (λh=>h)
 exact And.intro d I):=h
def Ymy{P}(h:P:=by
 have Eo:=Zh (show An ao au 77 [.pointer (some ⟨s,0,none⟩), .int .i64 t] by rw [ab,ag];exact An.new w1 _ _);exact Eo):=h
def Ynx{P}(h:P:=by
 have I :=(Ad.below (F:=F) aC).trans am;have z9:=az.Ar am wz9;have n9: ¬aG d:=am.not az.lt wz9;exact And.intro I (And.intro z9 n9)):=h
def Ynz{P}(h:P:=by
 have I:An ar d 31 [.int .u64 ai, .int .u64 c7]:=by rw [aq];exact(z9.set 0 _).set 1 _
 exact I):=h
def Yqg{P}(h:P:=by
 have d:Hid (Calls prog 30 #[.pointer (some ⟨s,0,none⟩), .int .i64 t, .int .u64 root, .string ⟨#[]⟩] O λe w' =>e= .returned (.tuple #[.agg #[.pointer (some ⟨s,0,none⟩), .int .i64 t], .int .i64 0])/\Below O.heap.size O w'):=Zh (by
  exact Yfc)
 exact d):=h
theorem AU.UT(U:BN.A1 t)(h:AU w s F R H P q most last G t root Aa ns hg m){g:Wh}{T:List It->Nat->Prop}(aE:JH w s F v g)(hw:Bt.P1 g T)(aF:T Aa j)(aj:j<Aa.length)(aQ:Aa.length<549755813888):
 Calls prog 34 #[.pointer (some ⟨s,0,none⟩), .int .i64 t, .int .u64 root,v] w (JP w s F P q most last G t Aa[j] (Aa.eraseIdx j) m):=by
 have a5:=h.st.FN;have a6:=h.st.CU;obtain⟨O,ae⟩:=Zx (w.alloc (Obj.cells #[.int .u64 0, .int .u64 0] 31));obtain⟨d,Z⟩:=Zx w.heap.size;have aw:=G5;obtain⟨an,af,aD⟩:=YT;have aH:=Yqg;obtain⟨ah,ac⟩:=OC;have aI:=Zh (And.intro ae Z);have aR:root≠0:=λe=>by have:=(h.tr.zero h.z).1 e;rw [this] at aj;simp at aj
 have a7:((root:Int)==0)=false:=by simp;omega
 obtain⟨V,al⟩:=Zx (GL R t root g);have aJ:Hid (∀(X:World) (F' :Nat->Prop) (H' :List Nat),Am X s F' V.1 H' P q most last G->Ba V.1->Ad w F X F' ->JP w s F P q most last G t Aa[j] (Aa.eraseIdx j) m (.returned (.tuple #[.int .u64 V.2.1, .agg #[.int .u64 V.2.2.1, .int .u64 V.2.2.2], .bool true, .int .i64 0])) X):=Zh (λX F' H' h1 aS aT=>h.ZN U hw aF aj aQ al h1 aS aT);have aU:Hid (∀X,Below w.heap.size w X->Calls prog 32 #[.agg #[.pointer (some ⟨s,0,none⟩), .int .i64 t], .int .u64 root,v] X (PL X s F P q most last G V)):=Zh (λX aK=>by rw [al];exact Pg U (h.st.below aK) h.sh (aE.Ar (Ad.below aK)) root h.rt);clear al aR hw aF aE;clear h U ae Z aw an aD;go_enter func34,ntmps34;go_wp2_with fail;rw [<-aI.1,<-aI.2];refine aH.mono ?_;rintro e w1 ⟨rfl,aa⟩;obtain⟨ao,ab⟩:=Zx (w1.alloc (Obj.cells #[.pointer (some ⟨s,0,none⟩), .int .i64 t] 77));obtain⟨au,ag⟩:=Zx w1.heap.size;have I:=Yy;have Eo:=Ymy;have aC:=DR;obtain⟨J,ax⟩:=XZ;clear aH aa I ab ag;obtain⟨aL,aM⟩:=A2 Eo.out;rw [ax.1,ax.2] at aL aM;go_wp2_with fail;rw [<-ax.1];refine(aU _ aC).mono ?_;have aV:=ah.2;have az:=J.out;rintro e w3 ⟨aG,a8,rfl,ay,aA,am⟩;obtain⟨a9,now,ai,c7⟩:=V;dsimp only at ay aA aJ ⊢;have wz9:=ah.2;obtain⟨aN,z9,n9⟩:=Ynx;clear wz9;obtain⟨⟨d0,d1⟩,f0,f1⟩:=Dl z9;obtain⟨g1,g2⟩:=C9 ay aN af.1 z9 ⟨_,rfl,λp aB=>by cases aB⟩ n9 af.2 (.int .u64 ai) (.int .u64 c7);obtain⟨ar,aq⟩:=Zx ((w3.setCell ⟨d,0,none⟩ (.int .u64 ai)).setCell ⟨d,1,none⟩ (.int .u64 c7));have aO:=Ynz;rw [<-aq] at g1 g2;have aW:=Zh g1;have aX:=Zh g2;have aY:=Zh aA;have J:=Zh (And.intro aO n9);have aZ:=Zh aq;clear aL aM ay aA am aN z9 n9 g1 g2 aO aq aV az Eo;obtain⟨a0,a1⟩:=Yme;obtain⟨⟨d0,d1⟩,f0,f1⟩:=Dl J.1;obtain⟨g1,g2,g3,g4⟩:=I2 aW aX af.1 J.1 (λp aB=>by cases aB) J.2 af.2 (.int .u64 ai) (.int .u64 c7);have a2:=Zh (aJ _ _ _ g1 aY g2);have a3:=Zh (And.intro g3 g4);clear g1 g2 g3 g4;go_wp2;rw [<-aZ.out];refine AD (λw' => ∃X:Au (λ_=>False) ar,w' =X.W) [3,4,5] (.r 0<| .r 1<| .r 2<| .a 3<| .a 4<| .a 5<| .nil) (Ay _ _) ?_
 iterate 3 (refine AB ?_;go_simp)
 clear a0 a1
 iterate 3 (refine AA _ rfl (by decide) (λK aP=> ?_);go_wp2;refine aP _ _ ?_;clear aP K)
 refine AF ?_;clear d0 d1 f0 f1;go_wp2;obtain⟨a4,r1⟩:=a3.out;exact bodyPost_ret (v:= .tuple #[.int .u64 now, .agg #[.int .u64 ai, .int .u64 c7], .bool true, .int .i64 0]) (by simp [results,f34,go_sem,a4,r1]) rfl a2.out
def Ymj{P}(h:P:=by
 have I:=Zh (((ai.setCell (p:=⟨d,0,none⟩) J.1 (.int .u64 0)).setCell (p:=⟨d,1,none⟩) J.1 (.int .u64 0)).drew);exact I):=h
theorem AU.Xm(U:BN.A1 t)(h:AU w s F R H P q most last G t root Aa ns hg m)(V:Aa= [])(v:Value):
 Calls prog 34 #[.pointer (some ⟨s,0,none⟩), .int .i64 t, .int .u64 root,v] w λe w' =>e= .returned (.tuple #[.int .u64 0, .agg #[.int .u64 0, .int .u64 0], .bool false, .int .i64 0])/\Below w.heap.size w w' :=by
 have af:root=0:=(h.tr.zero h.z).2 V;have aE:((root:Int)==0)=true:=by rw [af];rfl
 have aF:=h.st.FN;have aG:=h.st.CU;obtain⟨O,ae⟩:=Zx (w.alloc (Obj.cells #[.int .u64 0, .int .u64 0] 31));obtain⟨d,Z⟩:=Zx w.heap.size;have aw:=G5;obtain⟨an,J,aD⟩:=YT;have aj:=Yqg;obtain⟨ah,ac⟩:=OC;have al:=Zh (And.intro ae Z);clear V af;clear h U ae Z aw an aD;go_enter func34,ntmps34;go_wp2_with fail;rw [<-al.1,<-al.2];refine aj.mono ?_;rintro e w1 ⟨rfl,aa⟩;obtain⟨ao,ab⟩:=Zx (w1.alloc (Obj.cells #[.pointer (some ⟨s,0,none⟩), .int .i64 t] 77));obtain⟨aH,ag⟩:=Zx w1.heap.size;have I:=Yy;have ai:=DR;obtain⟨aS,aq⟩:=XZ;clear aj aa I ab ag;obtain⟨⟨d0,d1⟩,f0,f1⟩:=Dl aS.out;have ar:=Zh (Pc aS);have au:=Zh (Me aS);have ax:=Ypm;have ay:=Ymj;go_wp2;rw [<-aq.1];refine Aw (UZ ao d) [.r 0, .r 1, .r 2, .a 3, .r 4, .r 5] au ?_
 iterate 3 (refine Ej _ _ rfl rfl (by rintro _ ⟨X,rfl,az,aA⟩;go_simp;exact rfl) ?_;go_simp)
 refine AK _ rfl (λaB am=> ?_);go_wp2;refine am _ _ ar ?_;clear am aB d0 d1 f0 f1
 iterate 2 (refine Ej _ _ rfl rfl (by rintro _ ⟨X,rfl,az,aA⟩;go_simp;exact rfl) ?_;go_simp)
 refine AO ?_;go_wp2;obtain⟨aC,r1⟩:=A2 ax.out;exact bodyPost_ret (v:= .tuple #[.int .u64 0, .agg #[.int .u64 0, .int .u64 0], .bool false, .int .i64 0]) (by simp [results,f34,go_sem,aC,r1]) rfl ⟨rfl,ay⟩
def Ykh{P}(h:P:=by
 have O:=Zh ((I.set 0 (.int .u64 it.kh)).set 1 (.int .u64 it.vh));have Z:=Zh (Lb V ((Ad.below (F:=F) aa).trans d) J.1 I ⟨_,rfl,λp ab=>by cases ab⟩ n7 J.2 (.int .u64 it.kh) (.int .u64 it.vh));have ac:=Zh (And.intro hi U);exact And.intro O (And.intro Z ac)):=h
def Yku{P}(h:P:=by
 have x7:An O b7 31 [.int .u64 0, .int .u64 0]:=by rw [ae,Z];exact An.new w _ _
 have J:=Zh (show w.heap.size<=b7/\s<b7/\1<b7 from⟨by omega,by omega,by omega⟩);have d: ¬F b7:=λI=>by have:=h.st.lt I;omega
 exact And.intro x7 (And.intro J d)):=h
theorem AU.Ps(ag:BN.A1 t)(h:AU w s F R H P q most last G t root Aa ns hg m)(j:Nat)(an:j<Aa.length)(ao:j=0)(aq:Aa.length<549755813888):
 Calls prog 10 #[.pointer (some ⟨s,0,none⟩), .int .i64 t, .int .u64 root] w (JP w s F P q most last G t Aa[j] (Aa.eraseIdx j) m):=by
 have aw:=h.st.FN;have ax:=h.st.CU;obtain⟨O,ae⟩:=Zx (w.alloc (Obj.cells #[.int .u64 0, .int .u64 0] 31));obtain⟨b7,Z⟩:=Zx w.heap.size;have ab:=G5;obtain⟨x7,J,ah⟩:=Yku;have ai:=Zh ((h.below ab).UT ag (v:= .func (.func 35) #[] #[]) (.inl ⟨rfl,rfl⟩) Bt.M9 (j:=j) ao an aq);have af:=Zh (And.intro x7 ah);obtain⟨aj,aa⟩:=ZP;generalize Aa[j]=it at*;generalize Aa.eraseIdx j=ay at*;clear h ag ae Z ab x7 ah;go_enter func10,ntmps10;go_wp2_with fail;rw [<-aj.1,<-aj.2];refine ai.mono ?_;rintro e w3 ⟨R',F',H',now,az,aA,rfl,V,hi,U,d⟩;have I:=af.1.Ar d af.2;have n7:=d.not af.1.lt af.2;obtain⟨⟨d0,d1⟩,f0,f1⟩:=Dl I;obtain⟨ar,al,am⟩:=Ykh;clear V hi U d I n7 ai;go_wp2;obtain⟨au,r1⟩:=A2 ar.out;exact bodyPost_ret (v:= .tuple #[.int .u64 now, .agg #[.int .u64 it.kh, .int .u64 it.vh], .bool true, .int .i64 0]) (by simp [results,f10,go_sem,au,r1]) rfl ⟨_,_,_,_,_,_,rfl,al.1,am.1,am.2,al.2⟩
theorem AU.Ur(V:BN.A1 t)(h:AU w s F R H P q most last G t root Aa ns hg m)(Z:Aa= []):
 Calls prog 10 #[.pointer (some ⟨s,0,none⟩), .int .i64 t, .int .u64 root] w λe w' =>e= .returned (.tuple #[.int .u64 0, .agg #[.int .u64 0, .int .u64 0], .bool false, .int .i64 0])/\Below w.heap.size w w' :=by
 obtain⟨O,ae⟩:=Zx (w.alloc (Obj.cells #[.int .u64 0, .int .u64 0] 31));obtain⟨b7,I⟩:=Zx w.heap.size;have J:=G5;have x7:An O b7 31 [.int .u64 0, .int .u64 0]:=by rw [ae,I];exact An.new w _ _
 have aa:=Zh ((h.below J).Xm V Z (.func (.func 35) #[] #[]));have ac:=Zh x7;have ab:=Zh (And.intro ae I);have d:=Zh (And.intro J (show w.heap.size<=b7 by omega));clear h V ae I J x7 Z;go_enter func10,ntmps10;go_wp2_with fail;rw [<-ab.1,<-ab.2];refine aa.mono ?_;rintro e w3 ⟨rfl,U⟩;have aq:=ac.below U;obtain⟨⟨d0,d1⟩,f0,f1⟩:=Dl aq;have af:=PU;have ag:=Zh (((d.1.trans (U.mono d.1.size)).setCell (p:=⟨b7,0,none⟩) d.2 (.int .u64 0)).setCell (p:=⟨b7,1,none⟩) d.2 (.int .u64 0));clear aq aa U;go_wp2;obtain⟨ah,r1⟩:=A2 af.out;exact bodyPost_ret (v:= .tuple #[.int .u64 0, .agg #[.int .u64 0, .int .u64 0], .bool false, .int .i64 0]) (by simp [results,f10,go_sem,ah,r1]) rfl ⟨rfl,ag⟩
theorem AU.Xt(ag:BN.A1 t)(h:AU w s F R H P q most last G t root Aa ns hg m)(j:Nat)(an:j<Aa.length)(ao:j+1=Aa.length)(aq:Aa.length<549755813888):
 Calls prog 11 #[.pointer (some ⟨s,0,none⟩), .int .i64 t, .int .u64 root] w (JP w s F P q most last G t Aa[j] (Aa.eraseIdx j) m):=by
 have aw:=h.st.FN;have ax:=h.st.CU;obtain⟨O,ae⟩:=Zx (w.alloc (Obj.cells #[.int .u64 0, .int .u64 0] 31));obtain⟨b7,Z⟩:=Zx w.heap.size;have ab:=G5;obtain⟨x7,J,ah⟩:=Yku;have ai:=Zh ((h.below ab).UT ag (v:= .func (.func 36) #[] #[]) (.inr (.inl ⟨rfl,rfl⟩)) Bt.NL (j:=j) ao an aq);have af:=Zh (And.intro x7 ah);obtain⟨aj,aa⟩:=ZP;generalize Aa[j]=it at*;generalize Aa.eraseIdx j=ay at*;clear h ag ae Z ab x7 ah;go_enter func11,ntmps11;go_wp2_with fail;rw [<-aj.1,<-aj.2];refine ai.mono ?_;rintro e w3 ⟨R',F',H',now,az,aA,rfl,V,hi,U,d⟩;have I:=af.1.Ar d af.2;have n7:=d.not af.1.lt af.2;obtain⟨⟨d0,d1⟩,f0,f1⟩:=Dl I;obtain⟨ar,al,am⟩:=Ykh;clear V hi U d I n7 ai;go_wp2;obtain⟨au,r1⟩:=A2 ar.out;exact bodyPost_ret (v:= .tuple #[.int .u64 now, .agg #[.int .u64 it.kh, .int .u64 it.vh], .bool true, .int .i64 0]) (by simp [results,f11,go_sem,au,r1]) rfl ⟨_,_,_,_,_,_,rfl,al.1,am.1,am.2,al.2⟩
def Yfm{P}(h:P:=by
 obtain⟨nn,d,-⟩:=(h.below aA).st.rd;exact LZ d al h.rt aw (h.tr.U9 al)):=h
def Yii{P}(h:P:=by
 have V:Below ao.heap.size ao aj:=by rw [ay];exact aB.trans (((Below.refl _ _).alloc (Nat.le_refl _) _).mono aB.size)
 exact V):=h
def Yqf{P}(h:P:=by
 have d:Hid (Calls prog 30 #[.pointer (some ⟨s,0,none⟩), .int .i64 t, .int .u64 root, .string key] O λe w' =>e= .returned (.tuple #[.agg #[.pointer (some ⟨s,0,none⟩), .int .i64 t], .int .i64 0])/\Below O.heap.size O w'):=Zh (by
  exact Yfm)
 have ah:=Zh (And.intro aE aF);have ac:=Zh aA;have I:=Zh (And.intro ae Z);exact And.intro d (And.intro ah (And.intro ac I))):=h
theorem AU.MU(al:BN.A1 t)(h:AU w s F R H P q most last G t root Aa ns hg m){key:ByteArray}(aw:key.size<=1000)(aM:j<Aa.length)(aP:Aa[j].k=key)(a1:Aa.length<549755813888):
 Calls prog 9 #[.pointer (some ⟨s,0,none⟩), .int .i64 t, .int .u64 root, .string key] w (JP w s F P q most last G t Aa[j] (Aa.eraseIdx j) m):=by
 have bB:=h.st.FN;have bC:=h.st.CU;obtain⟨O,ae⟩:=Zx (w.alloc (Obj.cells #[.int .u64 0, .int .u64 0] 31));obtain⟨d,Z⟩:=Zx w.heap.size;have aA:=G5;obtain⟨aE,aN,aF⟩:=YT;obtain⟨a2,ah,ac,a3⟩:=Yqf;have a4:Hid (∀X,Below w.heap.size w X->Calls prog 31 #[.pointer (some ⟨s,0,none⟩), .int .i64 t, .int .u64 root, .string key] X λe w' =>e= .returned (.tuple #[.agg #[.int .u64 (Aa[j].kh:Nat), .int .u64 (Aa[j].vh:Nat)], .bool true])/\Below X.heap.size X w'):=Zh (λX aQ=>by
  have aH:=(h.below aQ).KW al a1 key;rw [(Bt.I1 h.ow.Dn aM aP).2] at aH;exact aH)
 have a5:Hid (∀X,Below w.heap.size w X-> ∀(v:Value) (g:Wh),JH X s F v g->Calls prog 32 #[.agg #[.pointer (some ⟨s,0,none⟩), .int .i64 t], .int .u64 root,v] X (PL X s F P q most last G (GL R t root g))):=Zh (λX aQ v g bi=>Pg al (h.st.below aQ) h.sh bi root h.rt);obtain⟨aJ,aR⟩:=Zx (GL R t root (He key));have a6:Hid (∀(X:World) (F' :Nat->Prop) (H' :List Nat),Am X s F' aJ.1 H' P q most last G->Ba aJ.1->Ad w F X F' ->JP w s F P q most last G t Aa[j] (Aa.eraseIdx j) m (.returned (.tuple #[.int .u64 aJ.2.1, .agg #[.int .u64 aJ.2.2.1, .int .u64 aJ.2.2.2], .bool true, .int .i64 0])) X):=Zh (λX F' H' h1 bj a7=>h.ZN al (Bt.XP key) ⟨aM,aP⟩ aM a1 aR h1 bj a7);have a8:=Zh aR;have aS:Hid (∀z,w.heap.size<=z-> ¬F z):=Zh (λz a7 aK=>by have:=h.st.lt aK;omega);generalize Aa[j]=it at*;generalize Aa.eraseIdx j=bD at*;clear aR aP aM;clear h al ae Z aA aE aF;go_enter func9,ntmps9;go_wp2_with fail;rw [<-a3.1,<-a3.2];refine a2.mono ?_;rintro e w1 ⟨rfl,aa⟩;obtain⟨ao,ab⟩:=Zx (w1.alloc (Obj.cells #[.pointer (some ⟨s,0,none⟩), .int .i64 t] 77));obtain⟨au,ag⟩:=Zx w1.heap.size;have I:=Yy;have Eo:=Ymy;have af:=DR;obtain⟨J,a9⟩:=XZ;have bk:=Zh (show O.heap.size<=au by rw [ag];exact aa.size);clear a2 aa I ab ag;go_wp2_with fail;rw [<-a9.1];refine(a4 _ af).mono ?_;rintro e w3 ⟨rfl,aB⟩;obtain⟨aj,ay⟩:=Zx (w3.alloc (Obj.cells #[.int .u64 it.kh, .int .u64 it.vh] 31));have V:=Yii;have ax:=Jt;have z9:=Zh (J.below V);have aT :=Eo.below V;have n12: ¬(F au\/au=d):=λaH=>by
  have bm:=bk.out;rcases aH with aH|aH
  . exact aS.out au (Nat.le_trans ac.size bm) aH
  . have:=ah.1.lt;omega
 have aU:=λX:Au (λz=>F z\/z=d) aj=>X.cell (aT.at' (i:=0) rfl) n12
 have aV:=λX:Au (λz=>F z\/z=d) aj=>X.cell (aT.at' (i:=1) rfl) n12
 have bo:=Zh ay;clear aB ay V aT a4 J n12;go_wp2;rw [<-bo.out,<-a9.2];refine Aw (λw' => ∃X:Au (λz=>F z\/z=d) aj,w' =X.W) [.r 0, .r 1, .r 2, .r 3, .a 4, .a 5, .r 6, .r 7, .r 8, .r 9, .a 10] (Ay _ _) ?_
 iterate 4 (refine AE ?_;go_simp)
 clear aU aV;refine AK _ rfl (λK aI=> ?_);go_wp2_with fail;refine(Wa _ s t key).mono ?_;rintro e bp ⟨ba,bt,rfl,bb,bc,bd,be,bf⟩;have U:=(Ac aj).trans (bf.mono (Ac aj).size);have aC:=QK;have aW:w.heap.size<=ba/\w.heap.size<=bt:=⟨Nat.le_trans (Nat.le_trans ax.size (Ac aj).size) bd,Nat.le_trans (Nat.le_trans ax.size (Ac aj).size) be⟩;have aX:=Zh (a5 bp aC _ (He key) (.inr (.inr ⟨ba,bt,key,rfl,rfl,bb,bc,aS _ aW.1,aS _ aW.2⟩)));have J:=Zh (z9.below U);have aL:=Zh U;clear bb bc bd be bf aW U a5;go_wp2;refine aI _ _ (Af aL) ?_;clear aI K;rw [<-a8.out] at aX;refine AK _ rfl (λK aI=> ?_);go_wp2_with fail;refine aX.mono ?_;have bq:=ah.2;have az:=J.out;rintro e w3 ⟨aG,bE,rfl,aY,aZ,am⟩;obtain⟨bF,now,ai,c7⟩:=aJ;dsimp only at aY aZ a6 ⊢;have wz9:=ah.2;obtain⟨bg,z9,n9⟩:=Ynx;clear wz9;obtain⟨⟨d0,d1⟩,f0,f1⟩:=Dl z9;obtain⟨g1,g2⟩:=C9 aY bg aN.1 z9 ⟨_,rfl,λp aH=>by cases aH⟩ n9 aN.2 (.int .u64 ai) (.int .u64 c7);obtain⟨ar,aq⟩:=Zx ((w3.setCell ⟨d,0,none⟩ (.int .u64 ai)).setCell ⟨d,1,none⟩ (.int .u64 c7));have bh:=Ynz;rw [<-aq] at g1 g2;have br:=Zh g1;have bs:=Zh g2;have bu:=Zh aZ;have J:=Zh (And.intro bh n9);have bv:=Zh aq;have aO:=Un;clear aY aZ am bg z9 n9 g1 g2 bh aq bq az Eo aX a8;go_wp2;refine aI _ _ ⟨⟨w3,aO.size,λk aw a0=>aO.keep k aw λaK=>a0 (.inl aK)⟩,rfl⟩ ?_;clear aI K
 iterate 4 (refine AE ?_;go_simp)
 refine AK _ rfl (λK aI=> ?_);go_wp2;refine aI _ _ (Bi (p:=⟨d,1,none⟩) (Bi (p:=⟨d,0,none⟩) ⟨⟨w3,aO.size,λk aw a0=>aO.keep k aw λaK=>a0 (.inl aK)⟩,rfl⟩ (.inr rfl) _) (.inr rfl) _) (AO ?_);clear aI K d0 d1 f0 f1;obtain⟨aU,aV⟩:=Yme;obtain⟨⟨d0,d1⟩,f0,f1⟩:=Dl J.1;obtain⟨g1,g2,g3,g4⟩:=I2 br bs aN.1 J.1 (λp aH=>by cases aH) J.2 aN.2 (.int .u64 ai) (.int .u64 c7);have bw:=Zh (a6 _ _ _ g1 bu g2);have bz:=Zh (And.intro g3 g4);clear g1 g2 g3 g4;go_wp2;rw [<-bv.out];refine AD (λw' => ∃X:Au (λ_=>False) ar,w' =X.W) [3,4,5] (.r 0<| .r 1<| .r 2<| .a 3<| .a 4<| .a 5<| .nil) (Ay _ _) ?_
 iterate 3 (refine AB ?_;go_simp)
 clear aU aV
 iterate 3 (refine AA _ rfl (by decide) (λK aI=> ?_);go_wp2;refine aI _ _ ?_;clear aI K)
 refine AF ?_;clear d0 d1 f0 f1;go_wp2;obtain⟨bA,r1⟩:=bz.out;exact bodyPost_ret (v:= .tuple #[.int .u64 now, .agg #[.int .u64 ai, .int .u64 c7], .bool true, .int .i64 0]) (by simp [results,f9,go_sem,bA,r1]) rfl bw.out
theorem AU.Rx(al:BN.A1 t)(h:AU w s F R H P q most last G t root Aa ns hg m){key:ByteArray}(aw:key.size<=1000)(U:Bt.Bb Aa key=none)(aC:Aa.length<549755813888):
 Calls prog 9 #[.pointer (some ⟨s,0,none⟩), .int .i64 t, .int .u64 root, .string key] w λe w' =>e= .returned (.tuple #[.int .u64 root, .agg #[.int .u64 0, .int .u64 0], .bool false, .int .i64 0])/\Below w.heap.size w w' :=by
 have aR:=h.st.FN;have aS:=h.st.CU;obtain⟨O,ae⟩:=Zx (w.alloc (Obj.cells #[.int .u64 0, .int .u64 0] 31));obtain⟨d,Z⟩:=Zx w.heap.size;have aA:=G5;obtain⟨aE,J,aF⟩:=YT;obtain⟨am,ah,ac,aq⟩:=Yqf;have ar:Hid (∀X,Below w.heap.size w X->Calls prog 31 #[.pointer (some ⟨s,0,none⟩), .int .i64 t, .int .u64 root, .string key] X λe w' =>e= .returned (.tuple #[.agg #[.int .u64 0, .int .u64 0], .bool false])/\Below X.heap.size X w'):=Zh (λX aG=>by
  have au:=(h.below aG).KW al aC key;rw [U] at au;exact au)
 clear U;clear h al ae Z aA aE aF;go_enter func9,ntmps9;go_wp2_with fail;rw [<-aq.1,<-aq.2];refine am.mono ?_;rintro e w1 ⟨rfl,aa⟩;obtain⟨ao,ab⟩:=Zx (w1.alloc (Obj.cells #[.pointer (some ⟨s,0,none⟩), .int .i64 t] 77));obtain⟨aT,ag⟩:=Zx w1.heap.size;have I:=Yy;have af:=DR;obtain⟨ax,aH⟩:=XZ;clear am aa I ab ag;go_wp2_with fail;rw [<-aH.1];refine(ar _ af).mono ?_;rintro e w3 ⟨rfl,aB⟩;obtain⟨aj,ay⟩:=Zx (w3.alloc (Obj.cells #[.int .u64 0, .int .u64 0] 31));have V:=Yii;have ai:=Jt;have z9:=Zh (ax.below V);have aI:=Zh ay;clear aB ay V ar ax;obtain⟨⟨d0,d1⟩,f0,f1⟩:=Dl z9.out;have aJ:=Zh (Pc z9);have aK:=Zh (Me z9);have aL:=Ypn;have aM:=Ymj;go_wp2;rw [<-aI.out];refine Aw (UZ aj d) [.r 0, .r 1, .r 2, .a 3, .r 4, .r 5] aK ?_
 iterate 3 (refine Ej _ _ rfl rfl (by rintro _ ⟨X,rfl,aN,aO⟩;go_simp;exact rfl) ?_;go_simp)
 refine AK _ rfl (λaP az=> ?_);go_wp2;refine az _ _ aJ ?_;clear az aP d0 d1 f0 f1
 iterate 2 (refine Ej _ _ rfl rfl (by rintro _ ⟨X,rfl,aN,aO⟩;go_simp;exact rfl) ?_;go_simp)
 refine AO ?_;go_wp2;obtain⟨aQ,r1⟩:=A2 aL.out;exact bodyPost_ret (v:= .tuple #[.int .u64 root, .agg #[.int .u64 0, .int .u64 0], .bool false, .int .i64 0]) (by simp [results,f9,go_sem,aQ,r1]) rfl ⟨rfl,aM⟩
end
def FI:List Pr:= [(⟨#[97]⟩,⟨#[]⟩),(⟨#[98]⟩,⟨#[]⟩),(⟨#[99]⟩,⟨#[]⟩),(⟨#[100]⟩,⟨#[]⟩)]
theorem Uf: ∀k (h:k<4),C4 (FI.take k) (FI[k]'h)=FI.take (k+1)/\ ¬0<=EG (FI.take k) (FI[k]'h).1/\(FI[k]'h).1.size<=1000/\(FI[k]'h).2=⟨#[]⟩:=by decide+kernel
theorem Gn{l:List It}{key:ByteArray}(d:AY (Bt.AI l))(h: ¬0<=EG (Bt.AI l) key):Bt.Bb l key=none:=by
 have h1:=(Bt.Df (key:=key) d).1
 cases I:Bt.Bb l key with
 |none=>rfl
 |some i=>
  rw [I] at h1;rw [h1] at h;simp at h
