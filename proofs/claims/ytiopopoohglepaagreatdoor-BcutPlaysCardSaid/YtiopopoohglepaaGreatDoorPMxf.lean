/- A part. -/
import Derived.Test.YtiopopoohglepaaGreatDoorPMx
import Derived.Deep.Cut
import Derived.Deep.DeepCutAuto
set_option linter.all false
set_option maxRecDepth 100000
set_option maxHeartbeats 8000000
namespace Go.Proofs.YtiopopoohglepaaGreatDoor
open Go.Proofs.Tryz
open Go.RowKit Go.Shelf
section
variable {s N M:Nat} {F:Nat->Prop} {bl b2:Nat} {vb:Option Nat} {H:List Nat} {P q most last G:Nat}
def Yai{P}(h:P:=by
 obtain⟨⟨c0,c1⟩,d0,d1⟩:=CV g13;have I:=Zh g13;clear g13;refine AA _ rfl (by decide) (λK O=> ?_);go_wp2;refine O _ _ ?_;clear O K;refine AA _ rfl (by decide) (λK O=> ?_);go_wp2;refine O _ _ ?_;clear O K;refine AA _ rfl (by decide) (λK O=> ?_);go_wp2;refine O _ _ (AG ?_);clear O K;go_wp2;go_meet
 case rel=>exact bJ.out _ _ _ _ _ bw.out):=h
def Yak{P}(h:P:=by
 have I:=Zh g13;clear g13;refine AA _ rfl (by decide) (λK O=> ?_);go_wp2;refine O _ _ ?_;clear O K;refine AA _ rfl (by decide) (λK O=> ?_);go_wp2;refine O _ _ ?_;clear O K;refine AA _ rfl (by decide) (λK O=> ?_);go_wp2;refine O _ _ (AG ?_);clear O K;go_wp2;go_meet
 case rel=>exact bK.out _ _ _ _ _ bw.out):=h
def Yba{P}(h:P:=by
 rw [aG,aS];have:=An.new ((w.alloc (Obj.cells #[.pointer (some ⟨s,0,none⟩), .int .i64 t] 96)).alloc (Obj.cells #[.int .u64 ak, .int .u64 av] 31)) 109 [.bool false, .int .u64 0, .int .u64 0, .int .u64 0]
 rwa [show((w.alloc (Obj.cells #[.pointer (some ⟨s,0,none⟩), .int .i64 t] 96)).alloc (Obj.cells #[.int .u64 ak, .int .u64 av] 31)).heap.size=w.heap.size+1+1 by simp] at this):=h
def Ybg{P}(h:P:=by
 obtain⟨I,r1,r2,r3⟩:=C5 bm.out;refine bodyPost_ret (v:= .agg #[.bool false, .int .u64 0, .int .u64 0, .int .u64 0]) (by simp [results,f48,go_sem,I,r1,r2,r3]) rfl bb.out):=h
def Ybw{P}(h:P:=by
 go_wp2_with fail;refine bi.mono ?_;rintro e aY ⟨V,af,rfl,bc,I⟩;have U:=Zh bc;have J:=Zh ((I _ _ aw));clear aw;have aw:=Zh J.out;clear J;clear bi bc I ay;go_wp2;refine O _ _ U.G2 ?_;clear O K;refine AD ?_;go_simp):=h
def Ydq{P}(h:P:=by
 by_cases I:Bk R2 t y=0
 . obtain⟨bL,bz,_⟩:=bj.str.rd
   exact(BR bz aO I).2.2.2.2
 . rw [Nr I];show 0<_;decide):=h
def Yds{P}(h:P:=by
 rw [<-bd] at bc aq a9 ⊢;have I:=Zh bc;have aw:=Zh aq;clear bd aV bc aq a9;refine O _ _ I.G2 ?_;clear O K):=h
def Yfd{P}(h:P:=by
 go_wp2;go_roundw
 case rel=>exact⟨j+1,by omega,by go_num,bI⟩
 case measure=>simp [intOf];omega):=h
def Ygg{P}(h:P:=by
 obtain⟨bL,bz,_⟩:=bj.str.rd;exact E6 (bz.below aI) t aO y bA):=h
def Xq{P}(h:P:=by
 have I:=Zh a0;have J:=Zh aF;have O:=Zh a5;exact And.intro I (And.intro J O)):=h
def Yia{P}(h:P:=by
 have ai:=Zh ai;have ah:=Zh ah;have aL:=Zh aL;have I:=Zh aD;exact And.intro ai (And.intro ah (And.intro aL I))):=h
def Yic{P}(h:P:=by
 have I:=Zh (And.intro g18 (And.intro g19 bg));have J:=Zh a6;have O:=Zh (((((bo.set 0 (.slice (some ⟨am,0,none⟩) t af)).set 1 (.slice (some ⟨an,0,none⟩) t aj)).set 2 (.slice none 0 0)).set 3 (.int .u64 0)));have U:=Zh (((((br.other (p:=⟨Z,0,none⟩) (Ne.symm bg) (.slice (some ⟨am,0,none⟩) t af)).other (p:=⟨Z,1,none⟩) (Ne.symm bg) (.slice (some ⟨an,0,none⟩) t aj)).other (p:=⟨Z,2,none⟩) (Ne.symm bg) (.slice none 0 0)).other (p:=⟨Z,3,none⟩) (Ne.symm bg) (.int .u64 0)));have V:=Zh (GO a6 g18 (.slice (some ⟨am,0,none⟩) t af) (.slice (some ⟨an,0,none⟩) t aj) (.slice none 0 0) (.int .u64 0));exact And.intro I (And.intro J (And.intro O (And.intro U V)))):=h
def XD{P}(h:P:=by
 have I:=Zh (And.intro aP aU);have J:=Zh (And.intro aX a1);exact And.intro I J):=h
def Ylx{P}(h:P:=by
 have J:k<=n.keys.length:=bG;have O:k<=n.Ab.length:=by rw [bB.out];exact bG
 have I:n.keys.length<=100000:=by have:=bs.1;omega
 have U:n.Ab.length<=100000:=by rw [bB.out];exact I
 exact And.intro J (And.intro O (And.intro I U))):=h
def Ylz{P}(h:P:=by
 have x6:An U b6 96 [.pointer (some ⟨s,0,none⟩), .int .i64 t]:=by rw [aG,aQ];exact((An.new w 96 [.pointer (some ⟨s,0,none⟩), .int .i64 t]).alloc _).alloc _
 exact x6):=h
def Ynx{P}(h:P:=by
 have bm:=Zh ((((v12.set 0 (.bool false)).set 1 (.int .u64 0)).set 2 (.int .u64 0)).set 3 (.int .u64 0));exact bm):=h
def Yoe{P}(h:P:=by
 have aa:Below A.heap.size A be:=by rw [bk];exact((Below.refl _ A).alloc (Nat.le_refl _) _).drew
 exact aa):=h
def You{P}(h:P:=by
 have I:Below wr.heap.size wr a7:=(Ac wr).trans (a6.mono (Nat.le_refl _));exact I):=h
def Ypk{P}(h:P:=by
 have bg:Z≠al:=by omega
 have g18:A.heap.size<=Z:=by omega
 have g19:A.heap.size<=al:=by omega
 exact And.intro bg (And.intro g18 g19)):=h
def Ypv{P}(h:P:=by
 have a6:Below A.heap.size A bp:=by rw [bf];exact aa.alloc aa.size _
 exact a6):=h
def Yqb{P}(h:P:=by
 have I: ¬FB F bl b12:=nF (by have:=aW.2.2.2;have:=aR.out;omega);exact I):=h
def Yqi{P}(h:P:=by
 have I: ¬FB F bl b6:=nF (by have:=aW.2.1;have:=aR.out;omega);exact I):=h
def Yqj{P}(h:P:=by
 have I:be.heap.size=A.heap.size+1:=by rw [bk];simp [World.drew]
 exact I):=h
def Yqn{P}(h:P:=by
 refine Ao _ rfl (λK O=> ?_);have J:=Zh (bC.call2 aZ aw k bF bH bE);go_wp2_with fail;refine J.mono ?_;rintro e be ⟨V,aj,rfl,U⟩;have I:=Zh U;clear J U aw;go_wp2;refine O _ _ I.G2 ?_;clear O K;have bw:=Zh I.out;clear I;have g13:=bD (bw.box b13 (.inl rfl));obtain⟨⟨c0,c1⟩,d0,d1⟩:=CV g13;exact Yak):=h
def Yqo{P}(h:P:=by
 refine Ao _ rfl (λK O=> ?_);have J:=Zh (bC.call2 a8 aw k bF bH bE);go_wp2_with fail;refine J.mono ?_;rintro e be ⟨V,aj,rfl,U⟩;have I:=Zh U;clear J U aw;go_wp2;refine O _ _ I.G2 ?_;clear O K;have bw:=Zh I.out;clear I;have g13:=bD (bw.box b13 rfl);exact Yai):=h
def Yrm{P}(h:P:=by
 have DY:An U b12 109 [.bool false, .int .u64 0, .int .u64 0, .int .u64 0]:=by
  exact Yba
 exact DY):=h
theorem Xv{t:Nat}(ec:BN.A0 t)(key:ByteArray){ak av:Nat}(hb:ak<18446744073709551616)(hc:av<18446744073709551616): ∀(f:Nat),f<=40-> ∀(w:World) (R:Zr) (st:List Nat) (x:Nat),G8 N M w s t F bl b2 vb H P q most last G R st->M<=w.heap.size->x<18446744073709551616->
 Calls prog 48 #[.agg #[.pointer (some ⟨s,0,none⟩), .int .i64 t], .int .u64 x, .string key, .agg #[.int .u64 ak, .int .u64 av], .func (.func 87) #[] #[.pointer (some ⟨bl,0,none⟩), .pointer (some ⟨b2,0,none⟩)], .int .i64 ((40-f:Nat):Int)] w (XK N M w s t F bl b2 vb H P q most last G (D6 t key ak av f R st.reverse x)):=by
 intro f
 induction f with
 |zero=>
  as_aux_lemma=>
  intro bb w R st x da dI hx;obtain⟨hf,h,fs⟩:=da.str.rd;obtain⟨U,aG⟩:=Zx (((w.alloc (Obj.cells #[.pointer (some ⟨s,0,none⟩), .int .i64 t] 96)).alloc (Obj.cells #[.int .u64 ak, .int .u64 av] 31)).alloc (Obj.cells #[.bool false, .int .u64 0, .int .u64 0, .int .u64 0] 109));have db:=Ykb;obtain⟨b6,aQ⟩:=Zx w.heap.size;obtain⟨b12,aS⟩:=Zx (w.heap.size+1+1);have x6:=Ylz;have DY:=Yrm;have dJ:=Zh (DS (h.below db) t ec x hx);have aW:=Zh (And.intro aG (And.intro aQ aS));have ae:=Zh db;have dn:=Zh DY;have cj:=Zh da;have aR:=Zh dI;obtain⟨cd,ce⟩:=AX x6;rw [aG,aQ] at cd ce;have d40:((40-0:Nat):Int)=40:=rfl;rw [d40];obtain⟨D,dc⟩:=Zx (D6 t key ak av 0 R st.reverse x);rw [<-dc];have ed:Hid (D=(R,st.reverse,none)):=Zh dc;clear h da dI bb aG aQ aS x6 DY db d40 dc;go_enter func48,ntmps48;go_wp2_with fail;rw [<-aW.1,<-aW.2.2,<-aW.2.1];refine dJ.mono ?_;rintro e w2 ⟨v1,v2,v3,rfl,b8,cU⟩;obtain⟨a3,q1,rfl⟩:=Ae b8.r1;obtain⟨a4,aA,rfl⟩:=Ae b8.r2;obtain⟨ba,aM,rfl⟩:=Ae b8.r3;generalize (Af R t x).keys.length=n1 at*;generalize (Af R t x).Ab.length=n2 at*;generalize (Af R t x).kids.length=n3 at*;generalize (Af R t x).size=n4 at*;obtain⟨aY,bd⟩:=Zx (w2.alloc (Obj.cells #[.slice a3 n1 q1, .slice a4 n2 aA, .slice ba n3 aM, .int .u64 n4] 100));have eF:Below U.heap.size U aY:=cU.trans (by rw [bd];exact((Below.refl _ _).alloc (Nat.le_refl _) _).mono cU.size);have v12:=dn.below eF;have dp:=v12.free 0;have k1:=v12.free 1;have k2:=v12.free 2;have cV:=v12.free 3;obtain⟨dq,dr,ds,dt⟩:=C5 v12;have bb:=Zh (O3 cj.out aR ed (GO (ae.trans (eF.mono ae.size)) (show w.heap.size<=b12 by have:=aW.2.2;omega) (.bool false) (.int .u64 0) (.int .u64 0) (.int .u64 0)));have bm:=Ynx;have cN:=Zh bd;rw [bd] at dp k1 k2 cV dq dr ds dt;clear v12 eF cU b8 bd dJ
  cases decide (Bk R t x=0) with
  |true=>
   go_wp2;rw [<-cN.out];exact Ybg
  |false=>
   go_wp2;rw [<-cN.out];exact Ybg
 |succ f ih=>
  intro bb w R st x da dI hx;obtain⟨d,hd⟩:=Zx (40-(f+1));have iX:d<40:=by omega
  rw [<-hd];obtain⟨hf,h,fs⟩:=da.str.rd;obtain⟨U,aG⟩:=Zx (((w.alloc (Obj.cells #[.pointer (some ⟨s,0,none⟩), .int .i64 t] 96)).alloc (Obj.cells #[.int .u64 ak, .int .u64 av] 31)).alloc (Obj.cells #[.bool false, .int .u64 0, .int .u64 0, .int .u64 0] 109));have db:=Ykb;obtain⟨b6,aQ⟩:=Zx w.heap.size;obtain⟨dK,aT⟩:=Zx (w.heap.size+1);obtain⟨b12,aS⟩:=Zx (w.heap.size+1+1);have x6:=Ylz;have ee:An U dK 31 [.int .u64 ak, .int .u64 av]:=by
   exact Ybs
  have DY:=Yrm;have aW:=VB;have ae:=Zh db;have ft:=Zh x6;have fu:=Zh ee;have dn:=Zh DY;have dJ:=Zh (DS (h.below db) t ec x hx);have fv:=Zh h;have cj:=Zh da;have aR:=Zh dI;have hj:=Zh hd;have hk:=Zh ih;have aO:=Zh ec;have fw:=Zh bb;obtain⟨D,dc⟩:=Zx (D6 t key ak av (f+1) R st.reverse x);rw [<-dc];have ed:=Zh dc;have d40:((d:Int)==40)=false:=by simp;omega
  obtain⟨cd,ce⟩:=AX x6;rw [aG,aQ] at cd ce;clear ih h ec da dI hd bb aG aQ aT aS x6 ee DY db dc fs;go_enter func48,ntmps48;go_wp2_with fail;rw [<-aW.1,<-aW.2.2.2,<-aW.2.2.1,<-aW.2.1];refine dJ.mono ?_;rintro e w2 ⟨v1,v2,v3,rfl,b8,cU⟩;obtain⟨a3,q1,rfl⟩:=Ae b8.r1;obtain⟨a4,aA,rfl⟩:=Ae b8.r2;obtain⟨ba,aM,rfl⟩:=Ae b8.r3;obtain⟨n,ef⟩:=Zx (Af R t x);rw [<-ef] at b8;rw [<-ef];obtain⟨aY,bd⟩:=Zx (w2.alloc (Obj.cells #[.slice a3 n.keys.length q1, .slice a4 n.Ab.length aA, .slice ba n.kids.length aM, .int .u64 n.size] 100));obtain⟨b13,eG⟩:=Zx w2.heap.size;have eH:Below w2.heap.size w2 aY:=by rw [bd];exact(Below.refl _ _).alloc (Nat.le_refl _) _
  have EJ:An aY b13 100 [.slice a3 n.keys.length q1, .slice a4 n.Ab.length aA, .slice ba n.kids.length aM, .int .u64 n.size]:=by rw [bd,eG];exact An.new w2 100 [.slice a3 n.keys.length q1, .slice a4 n.Ab.length aA, .slice ba n.kids.length aM, .int .u64 n.size]
  have I:Below U.heap.size U aY:=cU.trans (eH.mono cU.size);have eI:=Zh (ft.below I);have z9:=Zh (fu.below I);have z12:=Zh (dn.below I);have a9:=Dt;have bT:=Zh (show b6<U.heap.size/\dK<U.heap.size/\b12<U.heap.size/\U.heap.size<=b13 from⟨ft.lt,fu.lt,dn.lt,by have:=cU.size;omega⟩);have eJ:Hid (∀b,(Value.slice a3 n.keys.length q1).ownBlock=some b\/(Value.slice a4 n.Ab.length aA).ownBlock=some b\/(Value.slice ba n.kids.length aM).ownBlock=some b->b≠b13):=Zh λb aI=>by
   rcases aI with aI|aI|aI
   . have:=Br b8.r1 b aI;omega
   . have:=Br b8.r2 b aI;omega
   . have:=Br b8.r3 b aI;omega
  have cN:=Zh (And.intro bd eG);have fx:=Zh ef;have ao:=Zh EJ;have aE:=Zh (b8.below eH);clear cd ce dJ cU b8 ef bd eG eH I EJ;by_cases he:Bk R t x=0
  . rw [decide_eq_true he]
    have hw:=BR fv aO he;rw [<-fx.out] at hw;obtain⟨hl,eK,fy,wc,fz⟩:=hw;have t2:=aO.2;obtain⟨g1,g2,bu⟩:=hl;obtain⟨l1,l3,du⟩:=Yhq;have bq:=GU (fv.below a9) cj.sh du t eK key;obtain⟨k,az⟩:=Zx (DL R n.keys key);obtain⟨aI,fA⟩:=Zx (Gw R n.keys key);have bG:=YV;rw [<-az,<-fA] at bq;have fB:D=NW R t x st.reverse n k ak av (D6 t key ak av f R st.reverse (n.kids.getD k 0)):=by
     rw [ed.out];exact Tt fx.symm he az.symm
    have fC:n.Ok:=⟨λz bN=>by obtain⟨j,cf,rfl⟩:=List.getElem_of_mem bN;exact eK j cf,λz bN=>by obtain⟨j,cf,rfl⟩:=List.getElem_of_mem bN;exact fy j cf,λz bN=>by obtain⟨j,cf,rfl⟩:=List.getElem_of_mem bN;exact wc j cf,fz⟩;have fD:=Zh fB;obtain⟨fF,bh⟩:=Ykd;have bB:=Zh g2;have cC:=Zh fC;have bs:=Zh (And.intro l1 l3);obtain⟨cd,ce⟩:=AX eI.out;rw [cN.1] at cd ce;clear du bq az fA fB g1 g2 bu eK fy wc fz he l1 l3 fC;go_wp2_with fail;rw [<-cN.1,<-cN.2];refine fF.mono ?_;rintro e w4 ⟨rfl,aa⟩;have eg:=Zh (eI.below aa);have eh:=Zh (z9.below aa);have fG:=Zh (z12.below aa);obtain⟨cW,dv⟩:=VY;have dw:=Ygq;have fH:=Zh (cj.low (dw.mono aR));have f2:=cW.at' (i:=2) rfl;have a8:=Zh (show U.heap.size<=w4.heap.size from Nat.le_of_lt (Nat.lt_of_le_of_lt bT.2.2.2 cW.lt));clear aa eI z9 z12 ao aE a9 fF cN cd ce;go_upto_if 45 with (fail);go_cut [] from 42 (λwc=> ∃R2 dd n2 vk vv vi,Hid (Mid N M w s t F bl b2 vb H P q most last G D x b6 b12 b13 U.heap.size wc R2 dd n2 vk vv vi))
    case first=>
     by_cases ag:n.kids= []
     ·
      as_aux_lemma=>
      have iY:((n.kids.length:Int)==0)=true:=(by rw [ag];rfl);have bV:=fD.out;unfold NW at bV;rw [if_pos ag] at bV;have eL:=Zh bV;have eM:=Zh ag;have dL:Hid (Rows w4 U.heap.size (λb=>b=b13) w4 (.slice a3 n.keys.length q1) n.keys (.slice a4 n.Ab.length aA) n.Ab (.slice ba n.kids.length aM) n.kids):=Zh (Rows.start dv (λb aI=>by rw [aI];exact cW.lt) eJ a8);obtain⟨ck,bF,de,bH⟩:=Ylx;have bD:=(λ{W:World} (aI:W.heap[b13]? =w4.heap[b13]?)=>cW.block aI);obtain⟨Lk,dM⟩:=Zx (n.keys.take k++ak::n.keys.drop k);obtain⟨cD,dN⟩:=Zx (n.Ab.take k++av::n.Ab.drop k);have cO:=Zh dM;have bE:=Zh dN;clear dM dN
      have bJ:Hid (∀(A:Option Addr) (c:Nat) (cp :Option Addr) (cr :Nat) (W:World),Rows w4 U.heap.size (λb=>b=b13) W (.slice A Lk.length c) Lk (.slice cp cD.length cr) cD (.slice ba n.kids.length aM) n.kids->
       ∃R2 dd n2 vk vv vi,Hid (Mid N M w s t F bl b2 vb H P q most last G D x b6 b12 b13 U.heap.size ((W.setCell ⟨b13,0,none⟩ (.slice A Lk.length c)).setCell ⟨b13,1,none⟩ (.slice cp cD.length cr)) R2 dd n2 vk vv vi)):=Zh λA c cp cr W dO=>by
       have m4:=dO;have m1:D=B4 R t x st.reverse (n.DC k ak av).more:=eL.out;have m3:=Ad.below (F:=FB F bl) dw.out;have m7:=((bD (dO.box b13 rfl)).set 0 (.slice A Lk.length c)).set 1 (.slice cp cD.length cr);have m8:(n.DC k ak av).Ok:=⟨KI cC.keys k hb,KI cC.Ab k hc,cC.kids,cC.size⟩;have m9:(n.keys.take k++ak::n.keys.drop k).length<=32:=by
        rw [FI ck];have:=bs.1;omega
       have m10:(n.Ab.take k++av::n.Ab.drop k).length=(n.keys.take k++ak::n.keys.drop k).length:=by
        rw [FI ck,FI bF,bB.out]
       rw [cO.out,bE.out] at m4 m7 ⊢;exact⟨R,st,n.DC k ak av,_,_,_,Zh (Ql (bn:=λb=>b=b13) (n:=n.DC k ak av) rfl m1 fH (Nat.le_trans aR ae.size) ae.size m3 m4 (Bi (A3 W b13 0 _) (A3 _ b13 1 _)) bT.2.2.2 a8 eg bT.1 fG bT.2.2.1 m7 m8 m9 m10 (.inl eM))⟩
      obtain⟨f0,f1⟩:=AX cW.out;have n13: ¬(U.heap.size<=b13/\ ¬b13=b13):=(by simp);have n9: ¬(U.heap.size<=dK/\ ¬dK=b13):=(by have:=bT.2.1;omega);have b9:=(λX:Au (λb=>U.heap.size<=b/\ ¬b=b13) w4=>X.cell f0 n13);have cb:=(λX:Au (λb=>U.heap.size<=b/\ ¬b=b13) w4=>X.cell f1 n13);have cl:=(λX:Au (λb=>U.heap.size<=b/\ ¬b=b13) w4=>X.cell (eh.at' (i:=0) rfl) n9);have df:=(λX:Au (λb=>U.heap.size<=b/\ ¬b=b13) w4=>X.cell (eh.at' (i:=1) rfl) n9);clear bV ag f0 f1 n13 n9;go_wp2;refine AB (λw' => ∃X:Au (λb=>U.heap.size<=b/\ ¬b=b13) w4,w' =X.W) [15,16,17] (.r 0<| .r 1<| .r 2<| .r 3<| .r 4<| .r 7<| .r 8<| .r 9<| .r 10<| .r 11<| .two 5 (.two 6 (.r 14<| .a 12<| .a 13<| .a 15<| .a 16<| .a 17<| .nil) 12 (.a 6<| .r 14<| .a 13<| .a 15<| .a 16<| .a 17<| .nil)) 12 (.a 5<| .a 6<| .r 14<| .a 13<| .a 15<| .a 16<| .a 17<| .nil)) (Ay _ _) ?_
      iterate 10 (refine AD ?_;go_simp)
      clear b9 cb cl df;refine Bf _ _ rfl rfl (λK O=> ?_) (λK O=> ?_)
      . go_wp2
        obtain⟨bZ,bU⟩:=dL.QR a8 ak;obtain⟨eN,cs⟩:=Zx w4.heap.size;have cu:Below w4.heap.size w4 (w4.alloc (Obj.cells #[.int .u64 ak] 23)).drew:=((Below.refl _ _).alloc (Nat.le_refl _) _).drew;rw [<-cs] at bU ⊢;obtain⟨bQ,cv⟩:=Zx ((w4.alloc (Obj.cells #[.int .u64 ak] 23)).drew);rw [<-cv] at bZ bU cu ⊢;have cg:=Zh bZ;have ay:=Zh bU;clear cv cs bZ bU cu;refine O _ _ cg.G2 ?_;clear O K;refine Bf _ _ rfl rfl (λK O=> ?_) (λK O=> ?_)
        focus
         have dP:=Zh (cg.LB a8 ay k ck de cO);go_wp2_with fail;refine dP.mono ?_;rintro e b3 ⟨ei,af,rfl,bS,cw⟩;have bX:=Zh bS;clear dP bS cw ay;go_wp2;refine O _ _ bX.G2 ?_;clear O K;refine AD ?_;go_simp;refine Ao _ rfl (λK O=> ?_);go_wp2;obtain⟨bc,aq⟩:=bX.Mq a8 av;obtain⟨dQ,aV⟩:=Zx b3.heap.size;have a9:Below b3.heap.size b3 (b3.alloc (Obj.cells #[.int .u64 av] 23)):=((Below.refl _ _).alloc (Nat.le_refl _) _);rw [<-aV] at aq ⊢;obtain⟨aY,bd⟩:=Zx (b3.alloc (Obj.cells #[.int .u64 av] 23));rw [<-bd] at bc aq a9 ⊢;have bC:=Zh bc;have aw:=Zh aq;clear bd aV bc aq a9;refine O _ _ bC.G2 ?_;clear O K
        rotate_left
        focus
         go_wp2;obtain⟨bS,aq⟩:=cg.Mq a8 av;obtain⟨dQ,aV⟩:=Zx bQ.heap.size;have b4:Below bQ.heap.size bQ (bQ.alloc (Obj.cells #[.int .u64 av] 23)):=((Below.refl _ _).alloc (Nat.le_refl _) _);rw [<-aV] at aq ⊢;obtain⟨b3,cx⟩:=Zx (bQ.alloc (Obj.cells #[.int .u64 av] 23));rw [<-cx] at bS aq b4 ⊢;have dR:=Zh (ay.below b4);clear ay;have ay:=Zh dR.out;clear dR;have bX:=Zh bS;have aw:=Zh aq;clear cx aV bS aq b4;refine O _ _ bX.G2 ?_;clear O K;refine Ao _ rfl (λK O=> ?_);have bi:=Zh (bX.LB a8 ay k ck de cO);go_wp2_with fail;refine bi.mono ?_;rintro e aY ⟨ei,af,rfl,bc,I⟩;have bC:=Zh bc;have J:=Zh ((I _ _ aw));clear aw;have aw:=Zh J.out;clear J;clear bi bc I ay;go_wp2;refine O _ _ bC.G2 ?_;clear O K;refine AD ?_;go_simp
        all_goals
         exact Yqo
      . go_wp2
        obtain⟨bZ,aq⟩:=dL.QR a8 av;obtain⟨dQ,aV⟩:=Zx w4.heap.size;have cu:Below w4.heap.size w4 (w4.alloc (Obj.cells #[.int .u64 av] 23)).drew:=((Below.refl _ _).alloc (Nat.le_refl _) _).drew;rw [<-aV] at aq ⊢;obtain⟨bQ,cv⟩:=Zx ((w4.alloc (Obj.cells #[.int .u64 av] 23)).drew);rw [<-cv] at bZ aq cu ⊢;have cg:=Zh bZ;have aw:=Zh aq;clear cv aV bZ aq cu;refine O _ _ cg.G2 ?_;clear O K;refine Ao _ rfl (λK O=> ?_);go_wp2;obtain⟨bS,bU⟩:=cg.Mq a8 ak;obtain⟨eN,cs⟩:=Zx bQ.heap.size;have b4:Below bQ.heap.size bQ (bQ.alloc (Obj.cells #[.int .u64 ak] 23)):=((Below.refl _ _).alloc (Nat.le_refl _) _);rw [<-cs] at bU ⊢;obtain⟨b3,cx⟩:=Zx (bQ.alloc (Obj.cells #[.int .u64 ak] 23));rw [<-cx] at bS bU b4 ⊢;have cy:=Zh (aw.below b4);clear aw;have aw:=Zh cy.out;clear cy;have bX:=Zh bS;have ay:=Zh bU;clear cx cs bS bU b4;refine O _ _ bX.G2 ?_;clear O K;refine Ao _ rfl (λK O=> ?_);have bi:=Zh (bX.LB a8 ay k ck de cO);go_wp2_with fail;refine bi.mono ?_;rintro e aY ⟨ei,af,rfl,bc,cw⟩;have bC:=Zh bc;have cy:=Zh ((cw _ _ aw));clear aw;have aw:=Zh cy.out;clear cy;clear bi bc cw ay;go_wp2;refine O _ _ bC.G2 ?_;clear O K;refine AD ?_;go_simp;exact Yqo
     ·
      as_aux_lemma=>
      have eM:=Zh ag;have fI:=VT;have bV:=fD.out;unfold NW at bV;rw [if_neg ag] at bV;have hn :=bG;have eO:k<n.kids.length:=by
       exact Xh
      rw [show n.kids.getD k 0=n.kids[k] by simp [eO]] at bV;have eP:=cC.kids _ (List.getElem_mem eO);obtain⟨B3,cF,ho,fJ⟩:=A5 (F:=FB F bl) dv.r3 (λb aI=>Nat.lt_of_lt_of_le (cj.fb b aI) (Nat.le_trans aR ae.size))
      cases ho
      obtain⟨dx,dy,rfl,hq,fK,dS⟩:=fJ.Ny eO;have fL:=dS w4 (Below.refl _ _);obtain⟨dT,fM⟩: ∃dT,n.kids[k]=dT:=⟨_,rfl⟩;rw [fM] at fL eP bV;obtain⟨rc,eQ⟩:=Zx (D6 t key ak av f R st.reverse dT);rw [<-eQ] at bV;have eL:=Zh bV;have fN:Hid (∀W,Below w4.heap.size w4 W->Calls prog 48 #[.agg #[.pointer (some ⟨s,0,none⟩), .int .i64 t], .int .u64 (dT:Nat), .string key, .agg #[.int .u64 ak, .int .u64 av], .func (.func 87) #[] #[.pointer (some ⟨bl,0,none⟩), .pointer (some ⟨b2,0,none⟩)], .int .i64 ((d:Int)+1)] W (XK N M W s t F bl b2 vb H P q most last G rc)):=Zh λW aI=>by
       have ac:=hk.out (by have:=fw.out;omega) W R st dT (fH.low (aI.mono (Nat.le_trans aR dw.size))) (Nat.le_trans (Nat.le_trans aR dw.size) aI.size) eP;rw [show((40-f:Nat):Int)=(d:Int)+1 by have:=hj.out;have:=fw.out;omega,<-eQ] at ac;exact ac
      have nF: ∀{b},M<=b-> ¬FB F bl b:=(λ{b} aI bb=>by have:=cj.fb b bb;omega);have dg:=Nat.le_trans aR ae.size;have dz: ¬FB F bl b13:=nF (Nat.le_trans dg bT.2.2.2);have dh:=Yqi;have ej: ¬FB F bl dK:=nF (by have:=aW.2.2.1;have:=aR.out;omega);have dU:=Yqb;have cn:=Zh (And.intro dz (And.intro dh (And.intro ej dU)));have b9:=(λX:Au (FB F bl) w4=>X.cell (eg.at' (i:=0) rfl) dh);have cb:=(λX:Au (FB F bl) w4=>X.cell (eg.at' (i:=1) rfl) dh);have cl:=(λX:Au (FB F bl) w4=>X.cell (cW.at' (i:=2) rfl) dz);have df:=(λX:Au (FB F bl) w4=>X.cell fL fK);have eR:=(λX:Au (FB F bl) w4=>X.cell (eh.at' (i:=0) rfl) ej);have x6:=(λX:Au (FB F bl) w4=>X.cell (eh.at' (i:=1) rfl) ej);have cX:=Zh (And.intro dg (Nat.le_trans aR.out dw.size));clear bV ag eP fJ dS eQ fM nF dz dh ej dU dg hn;go_upto_region 7 with (fail);go_cut [17] from 42 (λhr wc=> ∃bO o R' st',hr= .pointer (some ⟨bO,0,none⟩)/\Hid (Up N M w4 s t F bl b2 vb H P q most last G rc bO o wc R' st'))
      case first=>
       as_aux_lemma=>
       refine AB (λw' => ∃X:Au (FB F bl) w4,w' =X.W) [13] (.r 0<| .r 1<| .r 2<| .r 3<| .r 4<| .r 5<| .r 6<| .r 7<| .r 8<| .r 9<| .r 10<| .two 11 (.a 12<| .a 13<| .nil) 12 (.a 11<| .a 13<| .nil)) (Ay _ _) ?_
       iterate 11 (refine AD ?_;go_simp)
       clear b9 cb cl df eR x6;refine Bf _ _ rfl rfl (λK O=> ?_) (λK O=> ?_)
       . go_wp2_with fail
         refine(fN _ (Ac w4)).mono ?_;rintro e a7 ⟨rfl,ab,dA,V⟩;obtain⟨R',L',o⟩:=rc;have J:=(Ad.below (F:=FB F bl) (Ac w4)).trans dA;obtain⟨cP,eS,eT⟩:=EA;clear ab dA J V;rcases o with _|⟨a,b,r⟩
         all_goals
          simp only [Rt];go_wp2;refine O _ _ (F7 cP) ?_;clear O K;refine Ao _ rfl (λK O=> ?_);go_wp2;refine O _ _ (F7 (cP.trans (Ad.below ((Below.refl _ a7).alloc (Nat.le_refl _) _)))) ?_;clear O K;refine AA _ rfl (by decide) (λK O=> ?_);go_wp2;refine O _ _ (AG ?_);clear O K;go_wp2;go_meet
          case rel=>exact⟨a7.heap.size,_,R',L'.reverse,rfl,Zh ⟨by rw [List.reverse_reverse],eS.low (((Below.refl _ a7).alloc (Nat.le_refl _) _).mono (Nat.le_trans cX.2 cP.size)),cP.trans (Ad.below ((Below.refl _ a7).alloc (Nat.le_refl _) _)),An.new a7 _ _,cP.size,eT⟩⟩
       . go_wp2
         have ek:Below w4.heap.size w4 (w4.alloc (Obj.cells #[.bool false, .int .u64 0, .int .u64 0, .int .u64 0] 109)).drew:=((Below.refl _ w4).alloc (Nat.le_refl _) _).drew;have el:An (w4.alloc (Obj.cells #[.bool false, .int .u64 0, .int .u64 0, .int .u64 0] 109)).drew w4.heap.size 109 [.bool false, .int .u64 0, .int .u64 0, .int .u64 0]:=BE (An.new w4 _ _);obtain⟨bO,eU⟩:=Zx w4.heap.size;rw [<-eU] at el ⊢;have em:=Zh eU;refine O _ _ (F7 (Ad.below ek)) ?_;clear O K;obtain⟨bp,bf⟩:=Zx ((w4.alloc (Obj.cells #[.bool false, .int .u64 0, .int .u64 0, .int .u64 0] 109)).drew);rw [<-bf] at ek el ⊢;have fO:=Zh ek;have ht:=Zh el;clear bf ek el eU;refine Ao _ rfl (λK O=> ?_);go_wp2_with fail;refine(fN _ fO).mono ?_;rintro e a7 ⟨rfl,ab,dA,V⟩;obtain⟨R',L',o⟩:=rc;have J:=(Ad.below (F:=FB F bl) fO).trans dA;have n17: ¬FB F bl bO:=(λbb=>by have:=cj.fb _ bb;have:=em.out;have:=cX.2;omega);have di:=ht.Aq dA n17;obtain⟨cP,eS,eT⟩:=EA;have hu:=Zh di;have dp:=di.free 0;have k1:=di.free 1;have k2:=di.free 2;have cV:=di.free 3;obtain⟨dq,dr,ds,dt⟩:=C5 di;clear ab dA J V n17 di;rcases o with _|⟨a,b,r⟩
         all_goals
          simp only [Rt];go_wp2;refine O _ _ (F7 cP) ?_;clear O K;refine AA _ rfl (by decide) (λK O=> ?_);go_wp2;refine O _ _ (AG ?_);clear O K;go_wp2;go_meet
          case rel=>
           have hg:=(λv0 v1 v2 v3=>Bi (Bi (Bi (A3 a7 bO 0 v0) (A3 _ bO 1 v1)) (A3 _ bO 2 v2)) (A3 _ bO 3 v3));exact⟨bO,_,R',L'.reverse,rfl,Zh ⟨by rw [List.reverse_reverse],eS.grow (by have:=em.out;have:=cX.2;omega) (Nat.le_trans cX.2 cP.size) (hg _ _ _ _),cP.grown (by have:=em.out;omega) (hg _ _ _ _),(((hu.set 0 _).set 1 _).set 2 _).set 3 _,by have:=em.out;omega,eT⟩⟩
      case rest=>
       obtain⟨bO,o,R',st',rfl,co⟩:=hcut;have bV:=eL.out;rw [co.req] at bV;have cY:=co.Sx;have fP:=co.Aq.size;have fQ:=co.ge;have dV:=Zh (cW.Aq co.Aq cn.1);have fR:=Zh (dv.Aq co.Aq (λb aI=>Nat.lt_of_lt_of_le (cj.fb b aI) cX.1));have fS:=Zh (eg.Aq co.Aq cn.2.1);have fT:=Zh (fG.Aq co.Aq cn.2.2.2);have fU:=Zh ((Ad.below (F:=FB F bl) dw).trans co.Aq);have en:=Zh (And.intro fP fQ);clear fP fQ;rcases o with _|⟨a,b,r⟩
       . have hv:=cY.at' (i:=0) rfl
         have hy :=Zh bV;have hz:=Zh (Rows.start (bn:=λb=>b=b13) fR (λb aI=>by rw [aI];exact dV.lt) eJ (Nat.le_trans a8 en.1));clear bV cY;go_wp2;go_meet
         case rel=>
          exact⟨R',st',n,_,_,_,Zh (Ql (bn:=λb=>b=b13) rfl hy co.e cX.1 ae.size fU.out hz (Gq (Below.refl _ _) _) bT.2.2.2 (Nat.le_trans a8 en.1) fS bT.1 fT bT.2.2.1 dV cC (by have:=bs.1;omega) bB bh)⟩
       . have hv:=cY.at' (i:=0) rfl
         obtain⟨aC,aB,aN⟩:=co.Q0 a b r rfl;have V:=QG;have aZ:=Zh (Nat.le_trans a8 en.1);have hB:w4.heap.size<=bO:=en.2;have fV: ∀z,(Value.slice a3 n.keys.length q1).ownBlock=some z\/(Value.slice a4 n.Ab.length aA).ownBlock=some z\/(Value.slice (some ⟨dx,dy,none⟩) n.kids.length aM).ownBlock=some z-> ¬(z=b13\/z=bO):=λz bN ac=>by
          rcases ac with ac|ac
          . exact eJ.out z bN ac
          . have:z<w4.heap.size:=by
             rcases bN with h1|h1|h1
             . exact Br dv.r1 z h1
             . exact Br dv.r2 z h1
             . exact Br dv.r3 z h1
            omega
         have dL:=Zh (Rows.start (bn:=λz=>z=b13\/z=bO) fR (λz bN=>by rcases bN with bN|bN<;>rw [bN];exact dV.lt;exact cY.lt) fV aZ)
         obtain⟨ck,bF,de,bH⟩:=Ylx;have bD:=(λ{W:World} (aI:W.heap[b13]? =wc.heap[b13]?)=>dV.block aI);obtain⟨Lk,dM⟩:=Zx (n.keys.take k++a::n.keys.drop k);obtain⟨cD,dN⟩:=Zx (n.Ab.take k++b::n.Ab.drop k);have cO:=Zh dM;have bE:=Zh dN;clear dM dN;have fW:bO≠b13:=(by have:=cW.lt;omega);have hC:=Zh cY
         have bK:Hid (∀(A:Option Addr) (c:Nat) (cp :Option Addr) (cr :Nat) (W:World),Rows wc U.heap.size (λz=>z=b13\/z=bO) W (.slice A Lk.length c) Lk (.slice cp cD.length cr) cD (.slice (some ⟨dx,dy,none⟩) n.kids.length aM) n.kids->
          ∃vk vv,Hid (XF wc U.heap.size b13 bO vk Lk vv cD (.slice (some ⟨dx,dy,none⟩) n.kids.length aM) n.kids n.size a b r ((W.setCell ⟨b13,0,none⟩ (.slice A Lk.length c)).setCell ⟨b13,1,none⟩ (.slice cp cD.length cr)))):=Zh λA c cp cr W dO=>
          ⟨_,_,Zh (X1 (bn:=λz=>z=b13\/z=bO) (.inl rfl) (.inr rfl) fW dO (Bi (A3 W b13 0 _) (A3 _ b13 1 _)) bT.2.2.2 aZ (((bD (dO.box b13 (.inl rfl))).set 0 _).set 1 _) hC)⟩
         obtain⟨f0,f1⟩:=AX dV.out;have n13: ¬(U.heap.size<=b13/\ ¬(b13=b13\/b13=bO)):=(by simp);have n17: ¬(U.heap.size<=bO/\ ¬(bO=b13\/bO=bO)):=(by simp);have b9:=(λX:Au (λz=>U.heap.size<=z/\ ¬(z=b13\/z=bO)) wc=>X.cell f0 n13);have cb:=(λX:Au (λz=>U.heap.size<=z/\ ¬(z=b13\/z=bO)) wc=>X.cell f1 n13);have cl:=(λX:Au (λz=>U.heap.size<=z/\ ¬(z=b13\/z=bO)) wc=>X.cell (cY.at' (i:=1) rfl) n17);have df:=(λX:Au (λz=>U.heap.size<=z/\ ¬(z=b13\/z=bO)) wc=>X.cell (cY.at' (i:=2) rfl) n17);have fX:D=B4 R' t x st'.reverse ((n.DC k a b).FZ (k+1) r).more:=(by rw [bV]);have hD:=Zh fX;clear bV fX f0 f1 n13 n17 cY fV hB fW aC aB aN;go_upto_region 9 with (fail);go_cut [] from 76 (λhE=> ∃vk vv,Hid (XF wc U.heap.size b13 bO vk Lk vv cD (.slice (some ⟨dx,dy,none⟩) n.kids.length aM) n.kids n.size a b r hE))
         case first=>
          as_aux_lemma=>
          refine AB (λw' => ∃X:Au (λz=>U.heap.size<=z/\ ¬(z=b13\/z=bO)) wc,w' =X.W) [17,18,19] (.r 0<| .r 1<| .r 2<| .r 3<| .r 4<| .r 5<| .r 8<| .r 9<| .r 10<| .r 11<| .r 12<| .r 13<| .two 6 (.two 7 (.r 16<| .a 14<| .a 15<| .a 17<| .a 18<| .a 19<| .nil) 14 (.a 7<| .r 16<| .a 15<| .a 17<| .a 18<| .a 19<| .nil)) 14 (.a 6<| .a 7<| .r 16<| .a 15<| .a 17<| .a 18<| .a 19<| .nil)) (Ay _ _) ?_
          iterate 12 (refine AD ?_;go_simp)
          clear b9 cb cl df;refine Bf _ _ rfl rfl (λK O=> ?_) (λK O=> ?_)
          . go_wp2
            obtain⟨bZ,bU⟩:=dL.QR aZ a;obtain⟨eN,cs⟩:=Zx wc.heap.size;have cu:Below wc.heap.size wc (wc.alloc (Obj.cells #[.int .u64 (a:Nat)] 23)).drew:=((Below.refl _ _).alloc (Nat.le_refl _) _).drew;rw [<-cs] at bU ⊢;obtain⟨bQ,cv⟩:=Zx ((wc.alloc (Obj.cells #[.int .u64 (a:Nat)] 23)).drew);rw [<-cv] at bZ bU cu ⊢;have cg:=Zh bZ;have ay:=Zh bU;clear cv cs bZ bU cu;refine O _ _ cg.G2 ?_;clear O K;refine Bf _ _ rfl rfl (λK O=> ?_) (λK O=> ?_)
            focus
             have dP:=Zh (cg.LB aZ ay k ck de cO);go_wp2_with fail;refine dP.mono ?_;rintro e b3 ⟨ei,af,rfl,bS,cw⟩;have bX:=Zh bS;clear dP bS cw ay;go_wp2;refine O _ _ bX.G2 ?_;clear O K;refine AD ?_;go_simp;refine Ao _ rfl (λK O=> ?_);go_wp2;obtain⟨bc,aq⟩:=bX.Mq aZ b;obtain⟨dQ,aV⟩:=Zx b3.heap.size;have a9:Below b3.heap.size b3 (b3.alloc (Obj.cells #[.int .u64 (b:Nat)] 23)):=((Below.refl _ _).alloc (Nat.le_refl _) _);rw [<-aV] at aq ⊢;obtain⟨aY,bd⟩:=Zx (b3.alloc (Obj.cells #[.int .u64 (b:Nat)] 23));rw [<-bd] at bc aq a9 ⊢;have bC:=Zh bc;have aw:=Zh aq;clear bd aV bc aq a9;refine O _ _ bC.G2 ?_;clear O K
            rotate_left
            focus
             go_wp2;obtain⟨bS,aq⟩:=cg.Mq aZ b;obtain⟨dQ,aV⟩:=Zx bQ.heap.size;have b4:Below bQ.heap.size bQ (bQ.alloc (Obj.cells #[.int .u64 (b:Nat)] 23)):=((Below.refl _ _).alloc (Nat.le_refl _) _);rw [<-aV] at aq ⊢;obtain⟨b3,cx⟩:=Zx (bQ.alloc (Obj.cells #[.int .u64 (b:Nat)] 23));rw [<-cx] at bS aq b4 ⊢;have dR:=Zh (ay.below b4);clear ay;have ay:=Zh dR.out;clear dR;have bX:=Zh bS;have aw:=Zh aq;clear cx aV bS aq b4;refine O _ _ bX.G2 ?_;clear O K;refine Ao _ rfl (λK O=> ?_);have bi:=Zh (bX.LB aZ ay k ck de cO);go_wp2_with fail;refine bi.mono ?_;rintro e aY ⟨ei,af,rfl,bc,I⟩;have bC:=Zh bc;have J:=Zh ((I _ _ aw));clear aw;have aw:=Zh J.out;clear J;clear bi bc I ay;go_wp2;refine O _ _ bC.G2 ?_;clear O K;refine AD ?_;go_simp
            all_goals
             exact Yqn
          . go_wp2
            obtain⟨bZ,aq⟩:=dL.QR aZ b;obtain⟨dQ,aV⟩:=Zx wc.heap.size;have cu:Below wc.heap.size wc (wc.alloc (Obj.cells #[.int .u64 (b:Nat)] 23)).drew:=((Below.refl _ _).alloc (Nat.le_refl _) _).drew;rw [<-aV] at aq ⊢;obtain⟨bQ,cv⟩:=Zx ((wc.alloc (Obj.cells #[.int .u64 (b:Nat)] 23)).drew);rw [<-cv] at bZ aq cu ⊢;have cg:=Zh bZ;have aw:=Zh aq;clear cv aV bZ aq cu;refine O _ _ cg.G2 ?_;clear O K;refine Ao _ rfl (λK O=> ?_);go_wp2;obtain⟨bS,bU⟩:=cg.Mq aZ a;obtain⟨eN,cs⟩:=Zx bQ.heap.size;have b4:Below bQ.heap.size bQ (bQ.alloc (Obj.cells #[.int .u64 (a:Nat)] 23)):=((Below.refl _ _).alloc (Nat.le_refl _) _);rw [<-cs] at bU ⊢;obtain⟨b3,cx⟩:=Zx (bQ.alloc (Obj.cells #[.int .u64 (a:Nat)] 23));rw [<-cx] at bS bU b4 ⊢;have cy:=Zh (aw.below b4);clear aw;have aw:=Zh cy.out;clear cy;have bX:=Zh bS;have ay:=Zh bU;clear cx cs bS bU b4;refine O _ _ bX.G2 ?_;clear O K;refine Ao _ rfl (λK O=> ?_);have bi:=Zh (bX.LB aZ ay k ck de cO);go_wp2_with fail;refine bi.mono ?_;rintro e aY ⟨ei,af,rfl,bc,cw⟩;have bC:=Zh bc;have cy:=Zh ((cw _ _ aw));clear aw;have aw:=Zh cy.out;clear cy;clear bi bc cw ay;go_wp2;refine O _ _ bC.G2 ?_;clear O K;refine AD ?_;go_simp;exact Yqn
         case rest=>
          as_aux_lemma=>
          obtain⟨iZ,i0,hN⟩:=hcut;have cG:=hN.out;have eV:k+1<=n.kids.length:=(by omega);have fY:n.kids.length<=100000:=(by have:=bs.2;omega);have fZ:=Rows.start (bn:=λz=>z=b13) cG.own (λz bN=>by rw [bN];exact cG.EJ.lt) cG.off (Nat.le_trans aZ cG.ge);obtain⟨dW,f7⟩:=fZ.Mq (Nat.le_trans aZ cG.ge) r;have eo:=dW.Fl.call (Nat.le_trans aZ cG.ge) f7.Fl (k+1) eV fY;obtain⟨hF,eW⟩:=Zx (n.kids.take (k+1)++r::n.kids.drop (k+1));rw [<-eW] at eo;push_cast at eo;have f8:=Zh eo;have f9:=Zh eW;have eX:=cG.EJ.at' (i:=2) rfl;have cF:=cG.Sx.at' (i:=3) rfl;have i1:k<=32:=(by have:=bs.1;omega);have dB:=Zh cG;have hG:=Zh eV;clear eo eW fZ dW f7 hN cG fY eV;go_wp2_with fail;refine f8.mono ?_;rintro e hH ⟨hI,aj,rfl,ga,cw⟩;have dW:=Zh ga.Fl;have g13:=dB.EJ.block (dW.box b13 rfl);have g2:=g13.free 2;have i2:=g13.at' (i:=2) rfl;have hJ:=Zh g13;clear f8 ga cw g13 eX cF;go_wp2;go_meet
          case rel=>
           have m1:D=B4 R' t x st'.reverse ((n.DC k a b).FZ (k+1) r).more:=hD.out;have m2:=co.e.low (dB.low.mono cX.1);have m3:=fU.low (dB.low.mono ae.size);have m4:=dW.out;have m5:=HC fS dB.low bT.1;have m6:=HC fT dB.low bT.2.2.1;have m7:=hJ.set 2 (.slice hI hF.length aj);have m8:((n.DC k a b).FZ (k+1) r).Ok:=⟨KI cC.keys k V.1,KI cC.Ab k V.2.1,KI cC.kids (k+1) V.2.2,cC.size⟩;have m9:(n.keys.take k++a::n.keys.drop k).length<=32:=by
            rw [FI ck];have:=bs.1;omega
           have m10:(n.Ab.take k++b::n.Ab.drop k).length=(n.keys.take k++a::n.keys.drop k).length:=by
            rw [FI ck,FI bF,bB.out]
           have m11:(n.kids.take (k+1)++r::n.kids.drop (k+1)).length=(n.keys.take k++a::n.keys.drop k).length+1:=by
            rw [FI ck,FI hG.out];rcases bh.out with ac|ac
            . exact absurd ac eM.out
            . omega
           rw [cO.out,bE.out,f9.out] at m4;rw [f9.out] at m7 ⊢;exact⟨R',st',(n.DC k a b).FZ (k+1) r,_,_,_,Zh (Ql (bn:=λz=>z=b13) (n:=(n.DC k a b).FZ (k+1) r) rfl m1 m2 cX.1 ae.size m3 m4 (A3 hH b13 2 _) bT.2.2.2 (Nat.le_trans aZ dB.ge) m5 bT.1 m6 bT.2.2.1 m7 m8 m9 m10 (.inr m11))⟩
    case rest=>
     as_aux_lemma=>
     obtain⟨R2,dd,n2,vk,vv,vi,gb⟩:=hcut;have hm:=gb.out;have d3:=hm.EJ.free 3;obtain⟨cd,ce⟩:=AX hm.x6;obtain⟨cH,ep⟩:=Zx n2.more.size;have i3:IntKind.u64.wrap ((n2.size:Int)+1)=(cH:Int):=(by rw [ep];exact Uy hm.ok.size);have hK:cH<18446744073709551616:=(by rw [ep];exact Nat.mod_lt _ (by decide));have t1:=aO.1;have t2:=aO.2;have dg:=Nat.le_trans aR ae.size;have eq:M<=b13:=Nat.le_trans dg bT.2.2.2;have eY:M<=wc.heap.size:=Nat.le_trans eq (Nat.le_of_lt hm.EJ.lt);obtain⟨A,hA⟩:=Zx (wc.setCell ⟨b13,3,none⟩ (.int .u64 cH));have es:wc.grownBy A (some b13):=(by rw [hA];exact A3 wc b13 3 _);have au:=hm.e.grow eq eY es;have ar:=hm.Aq.grown (Nat.le_trans ae.size bT.2.2.2) es;have aK:AS A U.heap.size vk n2.keys vv n2.Ab vi n2.kids:=(hm.own.off λz bN=>by rw [hA];exact Below.heap_setCell wc ⟨b13,3,none⟩ _ z (hm.off z bN));have ai:An A b13 100 [vk,vv,vi, .int .u64 cH]:=(by rw [hA];exact hm.EJ.set 3 _);have ah:An A b6 96 [.pointer (some ⟨s,0,none⟩), .int .i64 t]:=(by rw [hA];exact hm.x6.other (p:=⟨b13,3,none⟩) (by have:=bT.out;show b6≠b13;omega) _);have aL:An A b12 109 [.bool false, .int .u64 0, .int .u64 0, .int .u64 0]:=(by rw [hA];exact hm.DY.other (p:=⟨b13,3,none⟩) (by have:=bT.out;show b12≠b13;omega) _);have nF: ∀{z},M<=z-> ¬FB F bl z:=(λ{z} bN bb=>by have:=cj.fb z bb;omega);have dz: ¬FB F bl b13:=nF eq;have dh:=Yqi;have dU:=Yqb;have gc:M<=b12:=(by have:=aW.2.2.2;have:=aR.out;omega);have gd:w.heap.size<=b12:=(by have:=aW.2.2.2;omega);have gf:M<=A.heap.size:=Nat.le_trans eY es.size;have eZ: ∀z,FB F bl z->z<U.heap.size:=(λz bN=>Nat.lt_of_lt_of_le (cj.fb z bN) dg);have gg:n2.more.Ok:=⟨hm.ok.keys,hm.ok.Ab,hm.ok.kids,Nat.mod_lt _ (by decide)⟩;have i4:n2.keys.length<=32:=hm.l1;have gh:=hm.l2;have cZ:=hm.l3;have gi:n2.kids.length<=33:=by rcases cZ with ac|ac<;>rw [ac]<;>simp<;>omega
     have aD:=aK.MD (F:=FB F bl) eZ cH (by omega) (by omega) (by omega);obtain⟨ei,af,rfl⟩:=Ae hm.own.r1;have e0:=hm.EJ.at' (i:=0) rfl;have cF:=hm.EJ.at' (i:=3) rfl;have gj:=Zh hm.D;have cn:=Zh (And.intro dz (And.intro dh dU));obtain⟨bj,e1,cI⟩:=OT;obtain⟨ai,ah,aL,hL⟩:=Yia;have cJ:=Zh gg;have dX:=Zh (And.intro gh (And.intro cZ gi));have e2:=Zh hA;have gk:=Zh ep;have cQ:=Zh (And.intro gc (And.intro gd (And.intro gf eZ)));clear hm gb dz dh dU nF au ar aK aD gg gh cZ gi es ep gc gd gf eZ dg eq eY hA;by_cases gl:n2.keys.length<2*t
     . have dl:decide ((n2.keys.length:Int)<2*(t:Int))=true:=decide_eq_true (by omega)
       as_aux_lemma=>
       go_upto_region 12 with (fail);rw [<-e2.out];clear e0 cF d3 cd ce;obtain⟨e0,hM,eX,cF⟩:=C5 ai.out;obtain⟨cd,ce⟩:=AX ah.out;have hO:Hid (D=(Bp R2 t x n2.more,dd.reverse,none)):=Zh (by rw [gj.out];unfold B4;rw [if_pos (by exact gl)]);have du:=(hL.less (F' :=F) λz bN=> .inl bN);rw [show(BN.mk n2.keys n2.Ab n2.kids cH)=n2.more by rw [gk.out];rfl] at du;have dY:=Zh (Gb bj.str t aO x hx du cJ);clear du;go_wp2_with fail;refine dY.mono ?_;unfold Kl;rintro e hP ⟨rfl,gm,et⟩;have b5:=aL.Aq et (λac=>cn.2.2 (.inl ac));have dp:=b5.free 0;have k1:=b5.free 1;have k2:=b5.free 2;have cV:=b5.free 3;obtain⟨dq,dr,ds,dt⟩:=C5 b5;have bm:=Zh ((((b5.set 0 (.bool false)).set 1 (.int .u64 0)).set 2 (.int .u64 0)).set 3 (.int .u64 0));have hQ:=Zh (bj.Aq gm et (Ct aO bj.sh));have gn:=Zh (e1.trans et.fb);clear gm et b5 dY;go_wp2;obtain⟨e3,r1,r2,r3⟩:=C5 bm.out;refine bodyPost_ret (v:= .agg #[.bool false, .int .u64 0, .int .u64 0, .int .u64 0]) (by simp [results,f48,go_sem,e3,r1,r2,r3]) rfl ?_;rw [hO.out];have hg:=Bi (Bi (Bi (A3 hP b12 0 (.bool false)) (A3 _ b12 1 (.int .u64 0))) (A3 _ b12 2 (.int .u64 0))) (A3 _ b12 3 (.int .u64 0));refine⟨rfl, ?_,gn.grown cQ.2.1 hg,λa b r h=>by cases h⟩;simp only [List.reverse_reverse];exact hQ.grow cQ.1 (Nat.le_trans aR gn.size) hg
     . have dl:decide ((n2.keys.length:Int)<2*(t:Int))=false:=decide_eq_false (by omega)
       have dZ:t+1<n2.keys.length:=(by omega);have d2:t+1<n2.Ab.length:=(by rw [dX.1];omega);obtain⟨am,i5,e4,hR,aX⟩:=Bg cI.r1 (λe=>by rw [e] at dZ;simp at dZ)
       cases e4
       obtain⟨an,aj,rfl,hS,a1⟩:=Bg cI.r2 (λe=>by rw [e] at d2;simp at d2);have ax:n2.keys.length<=af:=(by rcases DR cI.r1 with ac|ac;exact ac.1;rw [ac.1] at dZ;simp at dZ);have aH:n2.Ab.length<=aj:=(by rcases DR cI.r2 with ac|ac;exact ac.1;rw [ac.1] at d2;simp at d2);obtain⟨bM,aJ⟩:=Zx (n2.keys.length-(t+1));have go:bM=n2.Ab.length-(t+1):=(by rw [dX.1];exact aJ);have i6:bM<=31:=(by omega);have aP:AK A (FB F bl) (some ⟨am,0,none⟩) (AF n2.keys):=(by obtain⟨cp,cr,dj,ac⟩:=A5 (F:=FB F bl) cI.r1 cQ.2.2.2;cases dj;exact ac);have aU:AK A (FB F bl) (some ⟨an,0,none⟩) (AF n2.Ab):=(by obtain⟨cp,cr,dj,ac⟩:=A5 (F:=FB F bl) cI.r2 cQ.2.2.2;cases dj;exact ac);have dC:(n2.keys.take t).length=t:=(by rw [List.length_take];omega);have e5:(n2.Ab.take t).length=t:=(by rw [List.length_take];omega);have dD:(n2.keys.drop (t+1)).length=bM:=(by rw [List.length_drop];omega);have e6:(n2.Ab.drop (t+1)).length=bM:=(by rw [List.length_drop];omega);have hT:Hid (C3 A (FB F bl) (.agg #[.slice (some ⟨am,0,none⟩) t af, .slice (some ⟨an,0,none⟩) t aj, .slice none 0 0, .int .u64 (0:Nat)]) ⟨n2.keys.take t,n2.Ab.take t,([]:List Nat).take (t+1),0⟩):=Zh ⟨⟨_,af,_,aj,none,0,by rw [dC,e5];rfl,aP.takeN t,aU.takeN t, .inl rfl⟩,by rw [dC];omega,by rw [e5];omega,by simp⟩;have hU:Hid (C3 A (FB F bl) (.agg #[.slice (some ⟨am,t+1,none⟩) bM (af-(t+1)), .slice (some ⟨an,t+1,none⟩) bM (aj-(t+1)), .slice none 0 0, .int .u64 (0:Nat)]) ⟨n2.keys.drop (t+1),n2.Ab.drop (t+1),([]:List Nat).drop (t+1),0⟩):=Zh ⟨⟨_,af-(t+1),_,aj-(t+1),none,0,by rw [dD,e6];rfl,by have ac:=aP.drop (t+1);rwa [Nat.zero_add] at ac,by have ac:=aU.drop (t+1);rwa [Nat.zero_add] at ac, .inl (by simp [AF])⟩,by rw [dD];omega,by rw [e6];omega,by simp⟩;have gp:=(λw=>Po w am af n2.keys.length t (by omega));have gq:=(λw=>Po w an aj n2.Ab.length t (by omega));have gr:=(λw=>Vo w am af n2.keys.length t bM (by omega) ax dZ aJ);have gs:=(λw=>Vo w an aj n2.Ab.length t bM (by omega) aH d2 go);have i7:IntKind.i64.wrap ((t:Int)+1)=(t:Int)+1:=(by rw [IntKind.wrap_i64];omega);obtain⟨hV,_⟩:=SA;obtain⟨gt,_⟩:=XD;clear go aP aU dC e5 dD e6 hR hS aX a1 aJ;obtain⟨eu,q1⟩:=AX ai.out;have ev:=ah.at' (i:=1) rfl;have b9:=(λX:Au (λ_=>False) A=>X.cell eu (λh=>h));have cb:=(λX:Au (λ_=>False) A=>X.cell q1 (λh=>h));have cl:=(λX:Au (λ_=>False) A=>X.cell ev (λh=>h));clear q1;go_upto_region 12 with (fail);rw [<-e2.out];clear e0 cF d3 cd ce;go_upto_region 15 with (fail);go_cut [18,19] from 114 (λhW hX hY=> ∃Z al,hW= .pointer (some ⟨Z,0,none⟩)/\hX= .pointer (some ⟨al,0,none⟩)/\Hid (Ks A hY (FB F bl) Z al t ⟨n2.keys,n2.Ab,[],cH⟩ (.slice (some ⟨am,0,none⟩) t af) (.slice (some ⟨an,0,none⟩) t aj) (.slice none 0 0) (.slice (some ⟨am,t+1,none⟩) bM (af-(t+1))) (.slice (some ⟨an,t+1,none⟩) bM (aj-(t+1))) (.slice none 0 0)))
       case first=>
        as_aux_lemma=>
        refine AB (λw' => ∃X:Au (λ_=>False) A,w' =X.W) [27] (.r 0<| .r 1<| .r 2<| .r 3<| .r 4<| .r 5<| .r 6<| .r 7<| .r 8<| .r 9<| .r 10<| .r 11<| .r 12<| .r 13<| .r 14<| .r 15<| .r 16<| .r 17<| .r 18<| .r 19<| .r 20<| .r 21<| .r 22<| .r 23<| .two 24 (.a 25<| .a 26<| .a 27<| .nil) 25 (.a 24<| .a 26<| .a 27<| .nil)) (Ay _ _) ?_
        iterate 24 (refine AD ?_;go_simp)
        clear b9 cb cl gp gq gr gs;refine Bf _ _ rfl rfl (λK O=> ?_) (λK O=> ?_)
        focus
         go_wp2;obtain⟨Z,cK⟩:=Zx A.heap.size;obtain⟨be,bk⟩:=Zx ((A.alloc (Obj.cells #[.slice none 0 0, .slice none 0 0, .slice none 0 0, .int .u64 0] 100)).drew);rw [<-bk,<-cK];have aa:=Yoe;have bo:An be Z 100 [.slice none 0 0, .slice none 0 0, .slice none 0 0, .int .u64 0]:=(by rw [bk,cK];exact BE (An.new A _ _));have cR:=Yqj;have e7:=Zh cR;have hZ:=Zh cK;refine O _ _ (Ag aa) ?_;clear O K bk cR cK;refine Ao _ rfl (λK O=> ?_);go_wp2;obtain⟨al,cL⟩:=Zx be.heap.size;obtain⟨bp,bf⟩:=Zx (be.alloc (Obj.cells #[.slice none 0 0, .slice none 0 0, .slice none 0 0, .int .u64 0] 100));rw [<-bf,<-cL];have a6:=Ypv;have bo:An bp Z 100 [.slice none 0 0, .slice none 0 0, .slice none 0 0, .int .u64 0]:=(by rw [bf];exact bo.alloc _);have br:An bp al 100 [.slice none 0 0, .slice none 0 0, .slice none 0 0, .int .u64 0]:=(by rw [bf,cL];exact An.new be _ _);have cR:=e7.out;have cK:=hZ.out;obtain⟨bg,g18,g19⟩:=Ypk;obtain⟨⟨c0,c1,c2,c3⟩,f0,f1,f2,f3⟩:=YM bo;obtain⟨cT,gu,dE,cz,dk⟩:=Yic;refine O _ _ (Ag a6) ?_;clear O K bf cK cL bo br a6 bg g18 g19 cR aa
        rotate_left
        focus
         go_wp2;obtain⟨al,cL⟩:=Zx A.heap.size;obtain⟨be,bk⟩:=Zx ((A.alloc (Obj.cells #[.slice none 0 0, .slice none 0 0, .slice none 0 0, .int .u64 0] 100)).drew);rw [<-bk,<-cL];have aa:=Yoe;have br:An be al 100 [.slice none 0 0, .slice none 0 0, .slice none 0 0, .int .u64 0]:=(by rw [bk,cL];exact BE (An.new A _ _));have cR:=Yqj;have e7:=Zh cR;have h2:=Zh cL;refine O _ _ (Ag aa) ?_;clear O K bk cR cL;refine Ao _ rfl (λK O=> ?_);go_wp2;obtain⟨Z,cK⟩:=Zx be.heap.size;obtain⟨bp,bf⟩:=Zx (be.alloc (Obj.cells #[.slice none 0 0, .slice none 0 0, .slice none 0 0, .int .u64 0] 100));rw [<-bf,<-cK];have a6:=Ypv;have br:An bp al 100 [.slice none 0 0, .slice none 0 0, .slice none 0 0, .int .u64 0]:=(by rw [bf];exact br.alloc _);have bo:An bp Z 100 [.slice none 0 0, .slice none 0 0, .slice none 0 0, .int .u64 0]:=(by rw [bf,cK];exact An.new be _ _);have cR:=e7.out;have cL:=h2.out;obtain⟨bg,g18,g19⟩:=Ypk;obtain⟨⟨c0,c1,c2,c3⟩,f0,f1,f2,f3⟩:=YM bo;obtain⟨cT,gu,dE,cz,dk⟩:=Yic;refine O _ _ (Ag a6) ?_;clear O K bf cL cK bo br a6 bg g18 g19 cR aa
        all_goals
         refine Ao _ rfl (λK O=> ?_);go_wp2;refine O _ _ (Ag dk) ?_;clear O K c0 c1 c2 c3 f0 f1 f2 f3;obtain⟨i8,e8⟩:=Zx ((((bp.setCell ⟨Z,0,none⟩ (.slice (some ⟨am,0,none⟩) t af)).setCell ⟨Z,1,none⟩ (.slice (some ⟨an,0,none⟩) t aj)).setCell ⟨Z,2,none⟩ (.slice none 0 0)).setCell ⟨Z,3,none⟩ (.int .u64 0));rw [<-e8];have dk:=dk.out;have dE:=dE.out;have cz:=cz.out;rw [<-e8] at dk dE cz;obtain⟨⟨c0,c1,c2,c3⟩,f0,f1,f2,f3⟩:=YM cz;have d4:=Zh (Ks.mk (FF:=FB F bl) (t:=t) (n:=⟨n2.keys,n2.Ab,[],cH⟩) (GO dk cT.2.1 (.slice (some ⟨am,t+1,none⟩) bM (af-(t+1))) (.slice (some ⟨an,t+1,none⟩) bM (aj-(t+1))) (.slice none 0 0) (.int .u64 0)) ((((dE.other (p:=⟨al,0,none⟩) cT.2.2 _).other (p:=⟨al,1,none⟩) cT.2.2 _).other (p:=⟨al,2,none⟩) cT.2.2 _).other (p:=⟨al,3,none⟩) cT.2.2 _) ((((cz.set 0 (.slice (some ⟨am,t+1,none⟩) bM (af-(t+1)))).set 1 (.slice (some ⟨an,t+1,none⟩) bM (aj-(t+1)))).set 2 (.slice none 0 0)).set 3 (.int .u64 0)) cT.1 cT.2.1 cT.2.2 hT hU);clear dk dE cz e8 gu;refine AA _ rfl (by decide) (λK O=> ?_);go_wp2;refine O _ _ (AG ?_);clear O K;go_wp2_with fail;go_meet
         case rel=>exact⟨Z,al,rfl,rfl,d4⟩
       case rest=>
        obtain⟨Z,al,rfl,rfl,cc⟩:=hcut;have h3:=Zh (ai.below cc.low);have h4:=Zh (ah.below cc.low);obtain⟨i9,h5⟩:=Zx wc;have aA:=h3.at' (i:=2) rfl;have ev:=h4.at' (i:=1) rfl;have cZ:=dX.2.1;clear b9 cb cl gp gq gr gs eu e2 h5;obtain⟨ja,ci,rfl⟩:=Ae cI.r3;go_upto_if 149 with (fail);go_cut [] from 146 (λh6=> ∃l3 r3,Hid (Ks A h6 (FB F bl) Z al t n2 (.slice (some ⟨am,0,none⟩) t af) (.slice (some ⟨an,0,none⟩) t aj) l3 (.slice (some ⟨am,t+1,none⟩) bM (af-(t+1))) (.slice (some ⟨an,t+1,none⟩) bM (aj-(t+1))) r3))
        case first=>
         as_aux_lemma=>
         by_cases ag:n2.kids= []
         . have fI:n2.kids.length=0:=by rw [ag];rfl
           have d4:Hid (∃l3 r3,Hid (Ks A wc (FB F bl) Z al t n2 (.slice (some ⟨am,0,none⟩) t af) (.slice (some ⟨an,0,none⟩) t aj) l3 (.slice (some ⟨am,t+1,none⟩) bM (af-(t+1))) (.slice (some ⟨an,t+1,none⟩) bM (aj-(t+1))) r3)):=Zh ⟨_,_,Zh { cc with
            vl:=by rw [ag];exact cc.vl
            vr:=by rw [ag];exact cc.vr }⟩
           clear ag cZ;go_wp2_with fail;go_meet
           case rel=>exact d4.out
         . have fI:0<n2.kids.length:=List.length_pos_iff.2 ag
           have jb:decide ((n2.kids.length:Int)>0)=true:=decide_eq_true (by omega);have jc:decide ((0:Int)<(n2.kids.length:Int))=true:=decide_eq_true (by omega);have h7:t+1+1<n2.kids.length:=(by rcases cZ with ac|ac;exact absurd ac ag;omega);obtain⟨cB,jd,e4,h8,h9⟩:=Bg cI.r3 ag
           cases e4
           have gv:n2.kids.length<=ci:=(by rcases DR cI.r3 with ac|ac;exact ac.1;exact absurd ac.1 ag);have e9:AK A (FB F bl) (some ⟨cB,0,none⟩) (AF n2.kids):=(by obtain⟨cp,cr,dj,ac⟩:=A5 (F:=FB F bl) cI.r3 cQ.2.2.2;cases dj;exact ac);obtain⟨li,gw⟩:=Zx (n2.kids.length-(t+1));have dC:(n2.kids.take (t+1)).length=t+1:=(by rw [List.length_take];omega);have dD:(n2.kids.drop (t+1)).length=li:=(by rw [List.length_drop];omega);have ia:n2.kids.length<=33:=dX.2.2;obtain⟨ew,fa⟩:=Zx (t+1);have ib: ∀w,(Instr.slice 46 (.slice (some ⟨cB,0,none⟩) n2.kids.length ci) none (some (.int .i64 ((t:Int)+1))) none).run prog w= .ok (.slice (some ⟨cB,0,none⟩) ew ci) w:=λw=>by
            have ac:=Po w cB ci n2.kids.length (t+1) (by omega);push_cast at ac;rw [fa];exact ac
           have ic:=(λw=>Vo w cB ci n2.kids.length t li (by omega) gv (by omega) gw);have d4:Hid (∀W,W=((wc.setCell ⟨Z,2,none⟩ (.slice (some ⟨cB,0,none⟩) ew ci)).setCell ⟨al,2,none⟩ (.slice (some ⟨cB,t+1,none⟩) li (ci-(t+1)))).drew-> ∃l3 r3,Hid (Ks A W (FB F bl) Z al t n2 (.slice (some ⟨am,0,none⟩) t af) (.slice (some ⟨an,0,none⟩) t aj) l3 (.slice (some ⟨am,t+1,none⟩) bM (af-(t+1))) (.slice (some ⟨an,t+1,none⟩) bM (aj-(t+1))) r3)):=Zh λW ie=>by
            subst ie;have ac:=cc.out;refine⟨.slice (some ⟨cB,0,none⟩) ew ci, .slice (some ⟨cB,t+1,none⟩) li (ci-(t+1)),Zh ⟨((ac.low.setCell (p:=⟨Z,2,none⟩) ac.g18 _).setCell (p:=⟨al,2,none⟩) ac.g19 _).drew,BE ((ac.Q1.set 2 _).other (p:=⟨al,2,none⟩) ac.ne _),BE ((ac.KC.other (p:=⟨Z,2,none⟩) (Ne.symm ac.ne) _).set 2 _),ac.g18,ac.g19,ac.ne, ?_, ?_⟩⟩
            . obtain⟨⟨u1,c1,u2,c2,u3,c3,e,k1,k2,cV⟩,m1,m2,m3⟩:=ac.vl
              refine⟨⟨u1,c1,u2,c2,some ⟨cB,0,none⟩,ci, ?_,k1,k2,e9.takeN (t+1)⟩,m1,m2,by show(n2.kids.take (t+1)).length<=_;omega⟩;have dj:(n2.kids.take (t+1)).length=ew:=(by rw [dC,fa]);simp only [Value.agg.injEq] at e ⊢;simp only [dj];simp at e ⊢;exact⟨e.1,e.2.1⟩
            . obtain⟨⟨u1,c1,u2,c2,u3,c3,e,k1,k2,cV⟩,m1,m2,m3⟩:=ac.vr
              refine⟨⟨u1,c1,u2,c2,some ⟨cB,t+1,none⟩,ci-(t+1), ?_,k1,k2,by have ig:=e9.drop (t+1);rwa [Nat.zero_add] at ig⟩,m1,m2,by show(n2.kids.drop (t+1)).length<=_;omega⟩;simp only [Value.agg.injEq] at e ⊢;simp only [dD];simp at e ⊢;exact⟨e.1,e.2.1⟩
           have gx:=cc.Q1.at' (i:=2) rfl;have gy:=cc.KC.at' (i:=2) rfl;have f18:=cc.Q1.free 2;have f19:=cc.KC.free 2;have bg:=cc.ne;have b9:=(λX:Au (λz=>z=Z) wc=>X.cell aA (show¬b13=Z by have:=cc.g18;have:=ai.lt;omega));have cb:=(λX:Au (λz=>z=Z) wc=>X.cell ev (show¬b6=Z by have:=cc.g18;have:=ah.lt;omega));clear ag cZ h8 h9 gv e9 gw dC dD h7 ia fa;go_upto_region 17 with (fail);refine AB (λw' => ∃X:Au (λz=>z=Z) wc,w' =X.W) [14,15] (.r 0<| .r 1<| .r 2<| .r 3<| .r 4<| .r 5<| .r 6<| .r 7<| .r 8<| .r 9<| .r 10<| .r 11<| .r 12<| .a 13<| .a 14<| .a 15<| .nil) (Ay _ _) ?_
           iterate 13 (refine AD ?_;go_simp)
           clear b9 cb ib ic;refine Ao _ rfl (λK O=> ?_);go_wp2;refine O _ _ (Ck (Bj (B:=λz=>z=Z) (p:=⟨Z,2,none⟩) (Ag (Below.refl _ _)) rfl _) (Ac _)) ?_;clear O K;refine AA _ rfl (by decide) (λK O=> ?_);go_wp2;refine O _ _ ?_;clear O K;refine AA _ rfl (by decide) (λK O=> ?_);go_wp2;refine O _ _ (AG ?_);clear O K;go_wp2_with fail;go_meet
           case rel=>exact d4.out _ rfl
        case rest=>
         obtain⟨l3,r3,bY⟩:=hcut;obtain⟨⟨je,c1,a2,c2,dF,dm,er,ii,ij,ex⟩,gz⟩:=bY.vr;obtain⟨bP,dG⟩:=Zx (n2.kids.drop (t+1));dsimp only at er ex gz;rw [<-dG] at er ex;have ik:r3= .slice dF bP.length dm:=by
          simp only [Value.agg.injEq] at er;simp at er;exact er.2.2
         subst ik;have jf:bP.length<=33:=(by rw [dG,List.length_drop];have:=dX.2.2;omega);have im:Hid (∀j (cf:j<bP.length),bP[j]<18446744073709551616):=Zh λj cf=>by
          have ac:bP[j]∈n2.kids.drop (t+1):=(by rw [<-dG];exact List.getElem_mem cf);exact cJ.kids _ (List.mem_of_mem_drop ac)
         have io:Hid (∀W,Below A.heap.size A W-> ∀y,y<18446744073709551616->Calls prog 49 #[.agg #[.pointer (some ⟨s,0,none⟩), .int .i64 t], .int .u64 (y:Nat)] W λe w' =>e= .returned (.int .i64 (Cq R2 t y))/\Below W.heap.size W w'):=Zh λW aI y bA=>by
          exact Ygg
         have ip:Hid (∀y,(Af R2 t y).size<18446744073709551616):=Zh λy=>by
          exact Ydq
         obtain⟨S,d5⟩: ∃S:Nat->Nat,S=λj=>DO R2 t (bP.take j) bM:=⟨_,rfl⟩
         have iq:Hid (S 0=bM):=Zh (by rw [d5];rfl);have ir:Hid (∀j (cf:j<bP.length),IntKind.u64.wrap ((S j:Int)+IntKind.u64.wrap (Cq R2 t bP[j]))=(S (j+1):Int)):=Zh λj cf=>by
          rw [WU R2 t _ _ (ip.out _),d5]
          show _=((DO R2 t (bP.take (j+1)) bM:Nat):Int)
          rw [N2 R2 t bP bM j cf]
         have iu:Hid (∀j,S j<18446744073709551616):=(Zh λj=>by rw [d5];exact S5 R2 t _ _ (by omega));have iv:Hid (S bP.length=(Eg R2 t n2.more).size):=Zh (by
          rw [d5]
          show DO R2 t (bP.take bP.length) bM=DO R2 t (n2.kids.drop (t+1)) (n2.keys.length-(t+1))
          rw [List.take_length,hV.out,dG])
         have jg:IntKind.u64.wrap (bM:Int)=(bM:Int):=(by rw [IH];unfold N1;omega);have c0:=bY.KC.at' (i:=0) rfl;have c2:=bY.KC.at' (i:=2) rfl;have c3:=bY.KC.at' (i:=3) rfl;have f3:=bY.KC.free 3;have gA:Hid (Lp A (wc.setCell ⟨al,3,none⟩ (.int .u64 bM)) Z al (.slice (some ⟨am,0,none⟩) t af) (.slice (some ⟨an,0,none⟩) t aj) l3 (.slice (some ⟨am,t+1,none⟩) bM (af-(t+1))) (.slice (some ⟨an,t+1,none⟩) bM (aj-(t+1))) (.slice dF bP.length dm) (S 0)):=Zh ⟨bY.low.setCell (p:=⟨al,3,none⟩) bY.g19 _,bY.Q1.other (p:=⟨al,3,none⟩) bY.ne _,by rw [iq.out];exact bY.KC.set 3 _⟩;have iw:=Zh ex;have ix:=Zh bY.vl;have iy:=Zh bY.vr;have hg:=Zh (And.intro bY.g18 (And.intro bY.g19 bY.ne));have jh:=Zh dG;clear er ii ij ex gz d5 bY cc dG aA ev cZ;go_wp2
         go_loopw [172] (λfc wr=> ∃j:Nat,j<=bP.length/\fc= .int .i64 j/\Hid (Lp A wr Z al (.slice (some ⟨am,0,none⟩) t af) (.slice (some ⟨an,0,none⟩) t aj) l3 (.slice (some ⟨am,t+1,none⟩) bM (af-(t+1))) (.slice (some ⟨an,t+1,none⟩) bM (aj-(t+1))) (.slice dF bP.length dm) (S j))) (λfc _=>bP.length-(intOf fc).toNat)
         case atStart=>exact⟨0,Nat.zero_le _,rfl,gA |> Zh⟩
         case round=>
          clear c0 c2 c3 f3 gA;obtain⟨j,cf,rfl,bR⟩:=hrel;by_cases ey:j<bP.length
          ·
           as_aux_lemma=>
           obtain⟨dx,dy,iz,hq,fK,dS⟩:=iw.Ny ey;have iA:=dS wr bR.low;have gB:=im.out j ey;have gC:=ir.out j ey;obtain⟨y,bA⟩: ∃y,bP[j]=y:=⟨_,rfl⟩;rw [bA] at iA gB gC;obtain⟨ji,fd⟩:=Zx (Cq R2 t y);rw [<-fd] at gC;have fe:=Zh (io wr.drew (bR.low.trans ((Ac wr).mono bR.low.size)) y gB);rw [<-fd] at fe;subst iz;have b9:=(λX:Au (λ_=>False) wr=>X.cell (bR.KC.at' (i:=3) rfl) (λh=>h));have cb:=(λX:Au (λ_=>False) wr=>X.cell ((ah.below bR.low).at' (i:=0) rfl) (λh=>h));have cl:=(λX:Au (λ_=>False) wr=>X.cell ((ah.below bR.low).at' (i:=1) rfl) (λh=>h));have jj:(j:Int)<40:=(by omega);have gD:Hid (∀a7,Below wr.drew.heap.size wr.drew a7->Lp A (a7.setCell ⟨al,3,none⟩ (.int .u64 (S (j+1):Nat))) Z al (.slice (some ⟨am,0,none⟩) t af) (.slice (some ⟨an,0,none⟩) t aj) l3 (.slice (some ⟨am,t+1,none⟩) bM (af-(t+1))) (.slice (some ⟨an,t+1,none⟩) bM (aj-(t+1))) (.slice (some ⟨dx,dy,none⟩) bP.length dm) (S (j+1))):=Zh λa7 a6=>by
            have ac:=You;exact⟨(bR.low.trans (ac.mono bR.low.size)).setCell (p:=⟨al,3,none⟩) hg.2.1 _,(bR.Q1.below ac).other (p:=⟨al,3,none⟩) hg.2.2 _,(bR.KC.below ac).set 3 _⟩
           have iB:=Zh bR.KC;clear dS bA fd bR;go_upto_region 22 with (fail);refine AB (λw' => ∃X:Au (λ_=>False) wr,w' =X.W) [6,7,8] (.r 0<| .r 1<| .r 2<| .r 3<| .a 4<| .r 5<| .a 6<| .a 7<| .a 8<| .nil) (Ay _ _) ?_
           iterate 4 (refine AD ?_;go_simp)
           clear cb cl b9;refine Ao _ rfl (λK O=> ?_);go_wp2_with fail;refine fe.mono ?_;rintro e a7 ⟨rfl,a6⟩;have ff:=You;have bI:=Zh (gD a7 a6);have cz:=iB.below ff;have c3:=cz.at' (i:=3) rfl;have f3:=cz.free 3;have hex:=Ag (B:=λ_=>False) ff;clear a6 gD ff cz fe;go_wp2;refine O _ _ hex ?_;clear O K hex;refine AD ?_;go_simp;refine AA _ rfl (by decide) (λK O=> ?_);go_wp2;refine O _ _ ?_;clear O K;refine AA _ rfl (by decide) (λK O=> ?_);go_wp2;refine O _ _ ?_;clear O K;refine AA _ rfl (by decide) (λK O=> ?_);go_wp2;refine O _ _ (AG ?_);clear O K;exact Yfd
          ·
           as_aux_lemma=>
           obtain rfl:j=bP.length:=by omega
           clear cf ey;obtain⟨rs,ez⟩:=Zx (S bP.length);have gE:rs<18446744073709551616:=(by rw [ez];exact iu.out _);rw [<-ez] at bR;obtain⟨jk,iC,jl,gF⟩:=T9 cH rs hK gE;obtain⟨ls,d6⟩:=Zx ((cH+36893488147419103232-rs-1)%18446744073709551616);rw [<-d6] at gF;have gG:Eg R2 t n2.more=⟨n2.keys.drop (t+1),n2.Ab.drop (t+1),n2.kids.drop (t+1),rs⟩:=by
            rw [show Eg R2 t n2.more=⟨n2.keys.drop (t+1),n2.Ab.drop (t+1),n2.kids.drop (t+1),(Eg R2 t n2.more).size⟩ from rfl,<-iv.out,<-ez]
           have gH:leftOf t n2.more rs=⟨n2.keys.take t,n2.Ab.take t,n2.kids.take (t+1),ls⟩:=(by rw [d6,gk.out];rfl);have gI:ls<18446744073709551616:=(by rw [d6];exact Nat.mod_lt _ (by decide));have iD:Hid (D=(B4.proj R2 t x dd n2 ls rs)):=Zh (by
            rw [gj.out];unfold B4;rw [if_neg (by exact gl)];dsimp only;rw [gG,show(BN.mk (n2.keys.drop (t+1)) (n2.Ab.drop (t+1)) (n2.kids.drop (t+1)) rs).size=rs from rfl,gH];rfl)
           have iE:Hid (Lp A wr Z al (.slice (some ⟨am,0,none⟩) t af) (.slice (some ⟨an,0,none⟩) t aj) l3 (.slice (some ⟨am,t+1,none⟩) bM (af-(t+1))) (.slice (some ⟨an,t+1,none⟩) bM (aj-(t+1))) (.slice dF bP.length dm) rs):=bR;obtain⟨eA,d7⟩:=Zx (wr.setCell ⟨Z,3,none⟩ (.int .u64 ls));have a5:Below A.heap.size A eA:=(by rw [d7];exact bR.low.setCell (p:=⟨Z,3,none⟩) hg.1 _);have a0:An eA Z 100 [.slice (some ⟨am,0,none⟩) t af, .slice (some ⟨an,0,none⟩) t aj,l3, .int .u64 ls]:=(by rw [d7];exact bR.Q1.set 3 _);have aF:An eA al 100 [.slice (some ⟨am,t+1,none⟩) bM (af-(t+1)), .slice (some ⟨an,t+1,none⟩) bM (aj-(t+1)), .slice dF bP.length dm, .int .u64 rs]:=(by rw [d7];exact bR.KC.other (p:=⟨Z,3,none⟩) (Ne.symm hg.2.2) _);have fg:=bj.low (a5.mono cQ.2.2.1);have gJ:C3 eA F (.agg #[.slice (some ⟨am,0,none⟩) t af, .slice (some ⟨an,0,none⟩) t aj,l3, .int .u64 ls]) ⟨n2.keys.take t,n2.Ab.take t,n2.kids.take (t+1),ls⟩:=((ix.Aq (Ad.below (F:=FB F bl) a5)).less λz bN=> .inl bN).sized;have gK:(BN.mk (n2.keys.take t) (n2.Ab.take t) (n2.kids.take (t+1)) ls).Ok:=⟨λz bN=>cJ.keys z (List.mem_of_mem_take bN),λz bN=>cJ.Ab z (List.mem_of_mem_take bN),λz bN=>cJ.kids z (List.mem_of_mem_take bN),gI⟩;have dY:=Zh (Gb fg.str t aO x hx gJ gK);have gL:=Zh fg;have iF:=Zh (And.intro gI gE);have gx:=bR.Q1.free 3;have iG:=bR.Q1.at' (i:=3) rfl;have gy:=bR.KC.at' (i:=3) rfl;have iH:=(ai.below bR.low).at' (i:=3) rfl;obtain⟨iI,iJ,c8⟩:=Xq;have iK:=Zh d7;have jm:=Zh d6;clear gG gH ez bR iE gJ gK fg a0 aF a5 d7 d6;go_upto_region 25 with (fail);rw [<-iK.out];clear gx iG gy iH iC gF;obtain⟨eu,q1,aA,aM⟩:=C5 iI.out;obtain⟨cd,ce⟩:=AX (ah.below c8);go_wp2_with fail;refine dY.mono ?_;unfold Kl;rintro e bW ⟨rfl,gM,cM⟩;have gN:=gL.Aq gM cM (Ct aO gL.sh);have fh:=(e1.low (c8.mono e1.size)).trans cM.fb;have gO:M<=bW.heap.size:=Nat.le_trans aR fh.size;have d8: ∀{z},¬FB F bl z-> ¬F z:=(λh iL=>h (.inl iL));have dH: ¬FB F bl al:=(λac=>by have:=cj.fb al ac;have:=hg.2.1;have:=cQ.2.2.1;omega);have d9:=iJ.Aq cM (d8 dH);have fi:=(ai.below c8).Aq cM (d8 cn.1);have gP:=(ah.below c8).Aq cM (d8 cn.2.1);have gQ:=(aL.below c8).Aq cM (d8 cn.2.2);have fj:t<n2.keys.length:=(by omega);have fk:t<n2.Ab.length:=(by omega);obtain⟨jn,ok,iM,iN,gR,gS⟩:=((gt.1.Aq (Ad.below (F:=FB F bl) c8)).Aq cM.fb).Ny fj
           cases iM
           obtain⟨bv,jo,iO,iP,gT,gU⟩:=((gt.2.Aq (Ad.below (F:=FB F bl) c8)).Aq cM.fb).Ny fk
           cases iO
           have eB:=gS bW (Below.refl _ _);have eC:=gU bW (Below.refl _ _);rw [Nat.zero_add] at eB eC;have eD:=cJ.keys _ (List.getElem_mem fj);have eE:=cJ.Ab _ (List.getElem_mem fk);have fm:n2.keys.getD t 0=n2.keys[t]:=(by simp [fj]);have fn:n2.Ab.getD t 0=n2.Ab[t]:=(by simp [fk]);obtain⟨ea,fo⟩: ∃z,n2.keys[t]=z:=⟨_,rfl⟩;obtain⟨va,fp⟩: ∃z,n2.Ab[t]=z:=⟨_,rfl⟩;have eD:ea<18446744073709551616:=(by rw [<-fo];exact eD);have eE:va<18446744073709551616:=(by rw [<-fp];exact eE);rw [fo] at eB fm;rw [fp] at eC fn;obtain⟨p,hp⟩:=Zx (DI (Bp R2 t x ⟨n2.keys.take t,n2.Ab.take t,n2.kids.take (t+1),ls⟩) t dd.reverse ⟨n2.keys.drop (t+1),n2.Ab.drop (t+1),n2.kids.drop (t+1),rs⟩);have iQ:Hid (D=(p.1,p.2.1,some (ea,va,p.2.2))):=Zh (by rw [iD.out,hp,<-fm,<-fn];rfl);have c9:=gN.low ((Ac bW).mono gO);obtain⟨vt,iR,gV⟩:=c9.tk;have gW:C3 bW.drew (FB F bl) (.agg #[.slice (some ⟨am,t+1,none⟩) bM (af-(t+1)), .slice (some ⟨an,t+1,none⟩) bM (aj-(t+1)), .slice dF bP.length dm, .int .u64 rs]) ⟨n2.keys.drop (t+1),n2.Ab.drop (t+1),n2.kids.drop (t+1),rs⟩:=(((iy.Aq (Ad.below (F:=FB F bl) c8)).Aq cM.fb).Aq (Ad.below (F:=FB F bl) (Ac bW))).sized;have gX:(BN.mk (n2.keys.drop (t+1)) (n2.Ab.drop (t+1)) (n2.kids.drop (t+1)) rs).Ok:=⟨λz bN=>cJ.keys z (List.mem_of_mem_drop bN),λz bN=>cJ.Ab z (List.mem_of_mem_drop bN),λz bN=>cJ.kids z (List.mem_of_mem_drop bN),iF.2⟩;have fq:=J2 c9.str aO gV c9.hN c9.J7 c9.Q0 c9.len gW gX;rw [<-hp,iR] at fq;have gY:=Zh fq;have iS:=Zh c9;have iT:=Zh hp;have gZ:=Zh (And.intro eD eE);have b9:=(λX:Au (FB F bl) bW=>X.cell (fi.at' (i:=0) rfl) cn.1);have cb:=(λX:Au (FB F bl) bW=>X.cell (fi.at' (i:=1) rfl) cn.1);have cl:=(λX:Au (FB F bl) bW=>X.cell (gP.at' (i:=1) rfl) cn.2.1);have df:=(λX:Au (FB F bl) bW=>X.cell eB gR);have eR:=(λX:Au (FB F bl) bW=>X.cell eC gT);have x6:=(λX:Au (FB F bl) bW=>X.cell (d9.at' (i:=0) rfl) dH);have x7:=(λX:Au (FB F bl) bW=>X.cell (d9.at' (i:=1) rfl) dH);have iU:=(λX:Au (FB F bl) bW=>X.cell (d9.at' (i:=2) rfl) dH);have ee:=(λX:Au (FB F bl) bW=>X.cell (d9.at' (i:=3) rfl) dH);have dn:=Zh (BE gQ);have iV:=Zh (fh.trans (Ad.below (Ac bW)));clear gN fh gO d8 dH d9 fi gP gQ gS gU eB eC fo fp fm fn hp gW gX fq c9 gV gM cM eD eE eu q1 aA aM cd ce dY iN iP gR gT;go_upto_region 26 with (fail);refine AB (λw' => ∃X:Au (FB F bl) bW,w' =X.W) [16,17] (.r 0<| .r 1<| .r 2<| .r 3<| .r 4<| .r 5<| .r 6<| .r 7<| .r 8<| .r 9<| .r 10<| .r 11<| .r 12<| .r 13<| .r 14<| .a 15<| .a 16<| .a 17<| .nil) (Ay _ _) ?_
           iterate 15 (refine AD ?_;go_simp)
           clear b9 cb cl df eR x6 x7 iU ee;refine Ao _ rfl (λK O=> ?_);go_wp2_with fail;refine gY.mono ?_;rintro e iW ⟨v',st',g0,rfl,g3,g4,eb,g5⟩;have g6:=Zh (iV.trans eb);have hex:=F7 ((Ad.below (F:=FB F bl) (Ac bW)).trans eb);have b5:=dn.Aq eb cn.2.2;have g7:=Zh (iS.take aO.out iT g0 g3 g4 eb g5);obtain⟨hM,eX,cF⟩:=p;dsimp only;have dp:=b5.free 0;have k1:=b5.free 1;have k2:=b5.free 2;have cV:=b5.free 3;obtain⟨dq,dr,ds,dt⟩:=C5 b5;have bm:=Zh ((((b5.set 0 (.bool true)).set 1 (.int .u64 ea)).set 2 (.int .u64 va)).set 3 (.int .u64 cF));clear eb g4 g5 b5 gY g3 g0;go_wp2;refine O _ _ hex ?_;clear O K hex;refine AA _ rfl (by decide) (λK O=> ?_);go_wp2;refine O _ _ ?_;clear O K;refine AA _ rfl (by decide) (λK O=> ?_);go_wp2;refine O _ _ (AG ?_);clear O K;go_wp2;obtain⟨e3,r1,r2,r3⟩:=C5 bm.out;refine bodyPost_ret (v:= .agg #[.bool true, .int .u64 ea, .int .u64 va, .int .u64 cF]) (by simp [results,f48,go_sem,e3,r1,r2,r3]) rfl ?_;rw [iQ.out];have g8:=Bi (Bi (Bi (A3 iW b12 0 (.bool true)) (A3 _ b12 1 (.int .u64 ea))) (A3 _ b12 2 (.int .u64 va))) (A3 _ b12 3 (.int .u64 cF));exact⟨rfl,g7.1.grow cQ.1 (Nat.le_trans aR g6.size) g8,g6.grown cQ.2.1 g8,λa b r h=>by cases h;exact⟨gZ.1,gZ.2,g7.2⟩⟩
  . rw [decide_eq_false he]
    have g9:D=(R,st.reverse,none):=(by rw [ed.out];exact VS he);clear he;have v12:=z12.out;have dp:=v12.free 0;have k1:=v12.free 1;have k2:=v12.free 2;have cV:=v12.free 3;obtain⟨dq,dr,ds,dt⟩:=C5 v12;have bb:=Zh (O3 cj.out aR g9 (GO a9 (show w.heap.size<=b12 by have:=aW.2.2.2;omega) (.bool false) (.int .u64 0) (.int .u64 0) (.int .u64 0)));have bm:=Ynx;clear v12 g9;rw [cN.1] at dp k1 k2 cV dq dr ds dt;go_wp2;rw [<-cN.1];exact Ybg
end
