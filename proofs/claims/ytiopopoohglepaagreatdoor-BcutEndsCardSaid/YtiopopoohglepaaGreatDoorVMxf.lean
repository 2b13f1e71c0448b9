/- A part. -/
import Derived.Test.YtiopopoohglepaaGreatDoorVMx
import Derived.Deep.Cut
import Derived.Deep.DeepCutAuto
set_option linter.all false
set_option maxRecDepth 100000
set_option maxHeartbeats 8000000
namespace Go.Proofs.YtiopopoohglepaaGreatDoor
open Go.Proofs.Tryz
open Go.RowKit Go.Shelf
section
variable {s N M:Nat} {F:Nat->Prop} {bl b2:Nat} {vb:Option Nat} {H:List Nat} {P q most last G:Nat}
def Yal{P}(h:P:=by
 obtain⟨⟨c0,c1⟩,d0,d1⟩:=Dl g13;have I:=Zh g13;clear g13;refine AA _ rfl (by decide) (λK d=> ?_);go_wp2;refine d _ _ ?_;clear d K;refine AA _ rfl (by decide) (λK d=> ?_);go_wp2;refine d _ _ ?_;clear d K;refine AA _ rfl (by decide) (λK d=> ?_);go_wp2;refine d _ _ (AF ?_);clear d K;go_wp2;go_meet
 case rel=>exact bJ.out _ _ _ _ _ bz.out):=h
def Yam{P}(h:P:=by
 have I:=Zh g13;clear g13;refine AA _ rfl (by decide) (λK d=> ?_);go_wp2;refine d _ _ ?_;clear d K;refine AA _ rfl (by decide) (λK d=> ?_);go_wp2;refine d _ _ ?_;clear d K;refine AA _ rfl (by decide) (λK d=> ?_);go_wp2;refine d _ _ (AF ?_);clear d K;go_wp2;go_meet
 case rel=>exact bK.out _ _ _ _ _ bz.out):=h
def Ybd{P}(h:P:=by
 rw [aH,aT];have:=An.new ((w.alloc (Obj.cells #[.pointer (some ⟨s,0,none⟩), .int .i64 t] 96)).alloc (Obj.cells #[.int .u64 ak, .int .u64 av] 31)) 109 [.bool false, .int .u64 0, .int .u64 0, .int .u64 0]
 rwa [show((w.alloc (Obj.cells #[.pointer (some ⟨s,0,none⟩), .int .i64 t] 96)).alloc (Obj.cells #[.int .u64 ak, .int .u64 av] 31)).heap.size=w.heap.size+1+1 by simp] at this):=h
def Ybh{P}(h:P:=by
 obtain⟨d,r1,r2,r3⟩:=C5 bo.out;refine bodyPost_ret (v:= .agg #[.bool false, .int .u64 0, .int .u64 0, .int .u64 0]) (by simp [results,f48,go_sem,d,r1,r2,r3]) rfl bc.out):=h
def Ydm{P}(h:P:=by
 by_cases d:Bm R2 t y=0
 . obtain⟨bL,bA,_⟩:=bk.str.rd
   exact(BR bA aN d).2.2.2.2
 . rw [No d];show 0<_;decide):=h
def Yey{P}(h:P:=by
 go_wp2;go_roundw
 case rel=>exact⟨j+1,by omega,by go_num,bI⟩
 case measure=>simp [intOf];omega):=h
def Ygd{P}(h:P:=by
 obtain⟨bL,bA,_⟩:=bk.str.rd;exact E4 (bA.below aI) t aN y bB):=h
def Wd{P}(h:P:=by
 have d:=Zh aZ;have I:=Zh aG;have J:=Zh a5;exact And.intro d (And.intro I J)):=h
def Yic{P}(h:P:=by
 have ag:=Zh ag;have ae:=Zh ae;have aK:=Zh aK;have d:=Zh ay;exact And.intro ag (And.intro ae (And.intro aK d))):=h
def Yie{P}(h:P:=by
 have d:=Zh (And.intro g18 (And.intro g19 bg));have I:=Zh a6;have J:=Zh (((((bp.set 0 (.slice (some ⟨aq,0,none⟩) t ai)).set 1 (.slice (some ⟨am,0,none⟩) t aj)).set 2 (.slice none 0 0)).set 3 (.int .u64 0)));have O:=Zh (((((bs.other (p:=⟨U,0,none⟩) (Ne.symm bg) (.slice (some ⟨aq,0,none⟩) t ai)).other (p:=⟨U,1,none⟩) (Ne.symm bg) (.slice (some ⟨am,0,none⟩) t aj)).other (p:=⟨U,2,none⟩) (Ne.symm bg) (.slice none 0 0)).other (p:=⟨U,3,none⟩) (Ne.symm bg) (.int .u64 0)));have V:=Zh (GR a6 g18 (.slice (some ⟨aq,0,none⟩) t ai) (.slice (some ⟨am,0,none⟩) t aj) (.slice none 0 0) (.int .u64 0));exact And.intro d (And.intro I (And.intro J (And.intro O V)))):=h
def Za{P}(h:P:=by
 have d:=Zh (And.intro aW aX);have I:=Zh (And.intro bi bh);exact And.intro d I):=h
def Ylo{P}(h:P:=by
 have I:k<=n.keys.length:=bG;have J:k<=n.Ab.length:=by rw [bC.out];exact bG
 have d:n.keys.length<=100000:=by have:=bu.1;omega
 have O:n.Ab.length<=100000:=by rw [bC.out];exact d
 exact And.intro I (And.intro J (And.intro d O))):=h
def Ylq{P}(h:P:=by
 have x6:An O b6 96 [.pointer (some ⟨s,0,none⟩), .int .i64 t]:=by rw [aH,aQ];exact((An.new w 96 [.pointer (some ⟨s,0,none⟩), .int .i64 t]).alloc _).alloc _
 exact x6):=h
def Ynj{P}(h:P:=by
 have bo:=Zh ((((v12.set 0 (.bool false)).set 1 (.int .u64 0)).set 2 (.int .u64 0)).set 3 (.int .u64 0));exact bo):=h
def Ynq{P}(h:P:=by
 have V:Below A.heap.size A bd:=by rw [bm];exact((Below.refl _ A).alloc (Nat.le_refl _) _).drew
 exact V):=h
def YA{P}(h:P:=by
 have d:=Zh aV;have I:=Zh ((a7 _ _ ax));exact And.intro d I):=h
def Yof{P}(h:P:=by
 have d:Below wr.heap.size wr a8:=(Ac wr).trans (a6.mono (Nat.le_refl _));exact d):=h
def You{P}(h:P:=by
 have bg:U≠al:=by omega
 have g18:A.heap.size<=U:=by omega
 have g19:A.heap.size<=al:=by omega
 exact And.intro bg (And.intro g18 g19)):=h
def Ype{P}(h:P:=by
 have a6:Below A.heap.size A bq:=by rw [be];exact V.alloc V.size _
 exact a6):=h
def Ypk{P}(h:P:=by
 have d: ¬FB F bl aO:=nF (by have:=a0.2.2.2;have:=aU.out;omega);exact d):=h
def Yps{P}(h:P:=by
 have d: ¬FB F bl b6:=nF (by have:=a0.2.1;have:=aU.out;omega);exact d):=h
def Ypt{P}(h:P:=by
 have d:bd.heap.size=A.heap.size+1:=by rw [bm];simp [World.drew]
 exact d):=h
def Ypx{P}(h:P:=by
 refine Ao _ rfl (λK I=> ?_);have J:=Zh (bf.call2 a1 ax k bE bH bF);go_wp2_with fail;refine J.mono ?_;rintro e bd ⟨U,aj,rfl,O⟩;have d:=Zh O;clear J O ax;go_wp2;refine I _ _ d.Gh ?_;clear I K;have bz:=Zh d.out;clear d;have g13:=bD (bz.box b13 (.inl rfl));obtain⟨⟨c0,c1⟩,d0,d1⟩:=Dl g13;exact Yam):=h
def Ypy{P}(h:P:=by
 refine Ao _ rfl (λK I=> ?_);have J:=Zh (bf.call2 a9 ax k bE bH bF);go_wp2_with fail;refine J.mono ?_;rintro e bd ⟨U,aj,rfl,O⟩;have d:=Zh O;clear J O ax;go_wp2;refine I _ _ d.Gh ?_;clear I K;have bz:=Zh d.out;clear d;have g13:=bD (bz.box b13 rfl);exact Yal):=h
def Yqs{P}(h:P:=by
 have Eo:An O aO 109 [.bool false, .int .u64 0, .int .u64 0, .int .u64 0]:=by
  exact Ybd
 exact Eo):=h
theorem WZ{t:Nat}(ej:BN.A1 t)(key:ByteArray){ak av:Nat}(hk:ak<18446744073709551616)(hl:av<18446744073709551616): ∀(f:Nat),f<=40-> ∀(w:World) (R:Zr) (st:List Nat) (x:Nat),Ha N M w s t F bl b2 vb H P q most last G R st->M<=w.heap.size->x<18446744073709551616->
 Calls prog 48 #[.agg #[.pointer (some ⟨s,0,none⟩), .int .i64 t], .int .u64 x, .string key, .agg #[.int .u64 ak, .int .u64 av], .func (.func 87) #[] #[.pointer (some ⟨bl,0,none⟩), .pointer (some ⟨b2,0,none⟩)], .int .i64 ((40-f:Nat):Int)] w (Xk N M w s t F bl b2 vb H P q most last G (D4 t key ak av f R st.reverse x)):=by
 intro f
 induction f with
 |zero=>
  as_aux_lemma=>
  intro bc w R st x df dP hx;obtain⟨hn,h,fw⟩:=df.str.rd;obtain⟨O,aH⟩:=Zx (((w.alloc (Obj.cells #[.pointer (some ⟨s,0,none⟩), .int .i64 t] 96)).alloc (Obj.cells #[.int .u64 ak, .int .u64 av] 31)).alloc (Obj.cells #[.bool false, .int .u64 0, .int .u64 0, .int .u64 0] 109));have dg:=ZR;obtain⟨b6,aQ⟩:=Zx w.heap.size;obtain⟨aO,aT⟩:=Zx (w.heap.size+1+1);have x6:=Ylq;have Eo:=Yqs;have dQ:=Zh (DQ (h.below dg) t ej x hx);have a0:=Zh (And.intro aH (And.intro aQ aT));have ac:=Zh dg;have du:=Zh Eo;have cp:=Zh df;have aU:=Zh dP;obtain⟨ck,cl⟩:=A2 x6;rw [aH,aQ] at ck cl;have d40:((40-0:Nat):Int)=40:=rfl;rw [d40];obtain⟨D,dh⟩:=Zx (D4 t key ak av 0 R st.reverse x);rw [<-dh];have ek:Hid (D=(R,st.reverse,none)):=Zh dh;clear h df dP bc aH aQ aT x6 Eo dg d40 dh;go_enter func48,ntmps48;go_wp2_with fail;rw [<-a0.1,<-a0.2.2,<-a0.2.1];refine dQ.mono ?_;rintro e w2 ⟨v1,v2,v3,rfl,ce,cZ⟩;obtain⟨a4,q1,rfl⟩:=Ae ce.r1;obtain⟨a3,aR,rfl⟩:=Ae ce.r2;obtain⟨bb,aP,rfl⟩:=Ae ce.r3;generalize (Ag R t x).keys.length=n1 at*;generalize (Ag R t x).Ab.length=n2 at*;generalize (Ag R t x).kids.length=n3 at*;generalize (Ag R t x).size=n4 at*;obtain⟨aY,an⟩:=Zx (w2.alloc (Obj.cells #[.slice a4 n1 q1, .slice a3 n2 aR, .slice bb n3 aP, .int .u64 n4] 100));have eK:Below O.heap.size O aY:=cZ.trans (by rw [an];exact((Below.refl _ _).alloc (Nat.le_refl _) _).mono cZ.size);have v12:=du.below eK;have dv:=v12.free 0;have k1:=v12.free 1;have k2:=v12.free 2;have c8:=v12.free 3;obtain⟨dw,dx,dy,dz⟩:=C5 v12;have bc:=Zh (O0 cp.out aU ek (GR (ac.trans (eK.mono ac.size)) (show w.heap.size<=aO by have:=a0.2.2;omega) (.bool false) (.int .u64 0) (.int .u64 0) (.int .u64 0)));have bo:=Ynj;have cT:=Zh an;rw [an] at dv k1 k2 c8 dw dx dy dz;clear v12 eK cZ ce an dQ
  cases decide (Bm R t x=0) with
  |true=>
   go_wp2;rw [<-cT.out];exact Ybh
  |false=>
   go_wp2;rw [<-cT.out];exact Ybh
 |succ f ih=>
  intro bc w R st x df dP hx;obtain⟨d,hd⟩:=Zx (40-(f+1));have i0:d<40:=by omega
  rw [<-hd];obtain⟨hn,h,fw⟩:=df.str.rd;obtain⟨O,aH⟩:=Zx (((w.alloc (Obj.cells #[.pointer (some ⟨s,0,none⟩), .int .i64 t] 96)).alloc (Obj.cells #[.int .u64 ak, .int .u64 av] 31)).alloc (Obj.cells #[.bool false, .int .u64 0, .int .u64 0, .int .u64 0] 109));have dg:=ZR;obtain⟨b6,aQ⟩:=Zx w.heap.size;obtain⟨dR,aS⟩:=Zx (w.heap.size+1);obtain⟨aO,aT⟩:=Zx (w.heap.size+1+1);have x6:=Ylq;have el:An O dR 31 [.int .u64 ak, .int .u64 av]:=by
   exact Ybu
  have Eo:=Yqs;have a0:=Vh;have ac:=Zh dg;have fx:=Zh x6;have fy:=Zh el;have du:=Zh Eo;have dQ:=Zh (DQ (h.below dg) t ej x hx);have fz:=Zh h;have cp:=Zh df;have aU:=Zh dP;have ho:=Zh hd;have hq:=Zh ih;have aN:=Zh ej;have fA:=Zh bc;obtain⟨D,dh⟩:=Zx (D4 t key ak av (f+1) R st.reverse x);rw [<-dh];have ek:=Zh dh;have d40:((d:Int)==40)=false:=by simp;omega
  obtain⟨ck,cl⟩:=A2 x6;rw [aH,aQ] at ck cl;clear ih h ej df dP hd bc aH aQ aS aT x6 el Eo dg dh fw;go_enter func48,ntmps48;go_wp2_with fail;rw [<-a0.1,<-a0.2.2.2,<-a0.2.2.1,<-a0.2.1];refine dQ.mono ?_;rintro e w2 ⟨v1,v2,v3,rfl,ce,cZ⟩;obtain⟨a4,q1,rfl⟩:=Ae ce.r1;obtain⟨a3,aR,rfl⟩:=Ae ce.r2;obtain⟨bb,aP,rfl⟩:=Ae ce.r3;obtain⟨n,aw⟩:=Zx (Ag R t x);rw [<-aw] at ce;rw [<-aw];obtain⟨aY,an⟩:=Zx (w2.alloc (Obj.cells #[.slice a4 n.keys.length q1, .slice a3 n.Ab.length aR, .slice bb n.kids.length aP, .int .u64 n.size] 100));obtain⟨b13,aD⟩:=Zx w2.heap.size;have eL:=Yig;have EH:An aY b13 100 [.slice a4 n.keys.length q1, .slice a3 n.Ab.length aR, .slice bb n.kids.length aP, .int .u64 n.size]:=by rw [an,aD];exact An.new w2 100 [.slice a4 n.keys.length q1, .slice a3 n.Ab.length aR, .slice bb n.kids.length aP, .int .u64 n.size]
  have I:Below O.heap.size O aY:=cZ.trans (eL.mono cZ.size);have eM:=Zh (fx.below I);have z9:=Zh (fy.below I);have z12:=Zh (du.below I);have af:=DR;have bW:=Zh (show b6<O.heap.size/\dR<O.heap.size/\aO<O.heap.size/\O.heap.size<=b13 from⟨fx.lt,fy.lt,du.lt,by have:=cZ.size;omega⟩);have eN:Hid (∀b,(Value.slice a4 n.keys.length q1).ownBlock=some b\/(Value.slice a3 n.Ab.length aR).ownBlock=some b\/(Value.slice bb n.kids.length aP).ownBlock=some b->b≠b13):=Zh λb aI=>by
   rcases aI with aI|aI|aI
   . have:=Bs ce.r1 b aI;omega
   . have:=Bs ce.r2 b aI;omega
   . have:=Bs ce.r3 b aI;omega
  obtain⟨cT,fB⟩:=OC;have ao:=Zh EH;have aA:=Zh (ce.below eL);clear ck cl dQ cZ ce aw an aD eL I EH;by_cases he:Bm R t x=0
  . rw [decide_eq_true he]
    have hw:=BR fz aN he;rw [<-fB.out] at hw;obtain⟨hr,eO,fC,wc,fD⟩:=hw;have t2:=aN.2;obtain⟨g1,g2,bw⟩:=hr;obtain⟨l1,l3,dA⟩:=Yho;have br:=GX (fz.below af) cp.sh dA t eO key;obtain⟨k,aL⟩:=Zx (DJ R n.keys key);obtain⟨aI,fF⟩:=Zx (Gx R n.keys key);have bG:=YV;rw [<-aL,<-fF] at br;have fG:D=NS R t x st.reverse n k ak av (D4 t key ak av f R st.reverse (n.kids.getD k 0)):=by
     rw [ek.out];exact S9 fB.symm he aL.symm
    have fH:n.Ok:=⟨λz bO=>by obtain⟨j,cn,rfl⟩:=List.getElem_of_mem bO;exact eO j cn,λz bO=>by obtain⟨j,cn,rfl⟩:=List.getElem_of_mem bO;exact fC j cn,λz bO=>by obtain⟨j,cn,rfl⟩:=List.getElem_of_mem bO;exact wc j cn,fD⟩;have fI:=Zh fG;obtain⟨fJ,bj⟩:=Yjy;have bC:=Zh g2;have cI:=Zh fH;have bu:=Zh (And.intro l1 l3);obtain⟨ck,cl⟩:=A2 eM.out;rw [cT.1] at ck cl;clear dA br aL fF fG g1 g2 bw eO fC wc fD he l1 l3 fH;go_wp2_with fail;rw [<-cT.1,<-cT.2];refine fJ.mono ?_;rintro e w4 ⟨rfl,V⟩;have em:=Zh (eM.below V);have en:=Zh (z9.below V);have fK:=Zh (z12.below V);obtain⟨c9,dB⟩:=VQ;have dC:=Jt;have fL:=Zh (cp.low (dC.mono aU));have f2:=c9.at' (i:=2) rfl;have a9:=Zh (show O.heap.size<=w4.heap.size from Nat.le_of_lt (Nat.lt_of_le_of_lt bW.2.2.2 c9.lt));clear V eM z9 z12 ao aA af fJ cT ck cl;go_upto_if 45 with (fail);go_cut [] from 42 (λwc=> ∃R2 di n2 vk vv vi,Hid (Mid N M w s t F bl b2 vb H P q most last G D x b6 aO b13 O.heap.size wc R2 di n2 vk vv vi))
    case first=>
     by_cases ah:n.kids= []
     ·
      as_aux_lemma=>
      have i1:((n.kids.length:Int)==0)=true:=(by rw [ah];rfl);have bY:=fI.out;unfold NS at bY;rw [if_pos ah] at bY;have eP:=Zh bY;have eQ:=Zh ah;have dS:Hid (Rows w4 O.heap.size (λb=>b=b13) w4 (.slice a4 n.keys.length q1) n.keys (.slice a3 n.Ab.length aR) n.Ab (.slice bb n.kids.length aP) n.kids):=Zh (Rows.start dB (λb aI=>by rw [aI];exact c9.lt) eN a9);obtain⟨cr,bE,dj,bH⟩:=Ylo;have bD:=(λ{W:World} (aI:W.heap[b13]? =w4.heap[b13]?)=>c9.block aI);obtain⟨Lk,dT⟩:=Zx (n.keys.take k++ak::n.keys.drop k);obtain⟨cJ,dU⟩:=Zx (n.Ab.take k++av::n.Ab.drop k);have cU:=Zh dT;have bF:=Zh dU;clear dT dU
      have bJ:Hid (∀(A:Option Addr) (c:Nat) (cx :Option Addr) (cy :Nat) (W:World),Rows w4 O.heap.size (λb=>b=b13) W (.slice A Lk.length c) Lk (.slice cx cJ.length cy) cJ (.slice bb n.kids.length aP) n.kids->
       ∃R2 di n2 vk vv vi,Hid (Mid N M w s t F bl b2 vb H P q most last G D x b6 aO b13 O.heap.size ((W.setCell ⟨b13,0,none⟩ (.slice A Lk.length c)).setCell ⟨b13,1,none⟩ (.slice cx cJ.length cy)) R2 di n2 vk vv vi)):=Zh λA c cx cy W dV=>by
       have m4:=dV;have m1:D=B7 R t x st.reverse (n.Dy k ak av).more:=eP.out;have m3:=Ad.below (F:=FB F bl) dC.out;have m7:=((bD (dV.box b13 rfl)).set 0 (.slice A Lk.length c)).set 1 (.slice cx cJ.length cy);have m8:(n.Dy k ak av).Ok:=⟨KH cI.keys k hk,KH cI.Ab k hl,cI.kids,cI.size⟩;have m9:(n.keys.take k++ak::n.keys.drop k).length<=32:=by
        rw [FE cr];have:=bu.1;omega
       have m10:(n.Ab.take k++av::n.Ab.drop k).length=(n.keys.take k++ak::n.keys.drop k).length:=by
        rw [FE cr,FE bE,bC.out]
       rw [cU.out,bF.out] at m4 m7 ⊢;exact⟨R,st,n.Dy k ak av,_,_,_,Zh (Qd (bn:=λb=>b=b13) (n:=n.Dy k ak av) rfl m1 fL (Nat.le_trans aU ac.size) ac.size m3 m4 (Bh (A3 W b13 0 _) (A3 _ b13 1 _)) bW.2.2.2 a9 em bW.1 fK bW.2.2.1 m7 m8 m9 m10 (.inl eQ))⟩
      obtain⟨f0,f1⟩:=A2 c9.out;have n13: ¬(O.heap.size<=b13/\ ¬b13=b13):=(by simp);have n9: ¬(O.heap.size<=dR/\ ¬dR=b13):=(by have:=bW.2.1;omega);have cf:=(λX:Au (λb=>O.heap.size<=b/\ ¬b=b13) w4=>X.cell f0 n13);have cg:=(λX:Au (λb=>O.heap.size<=b/\ ¬b=b13) w4=>X.cell f1 n13);have cu:=(λX:Au (λb=>O.heap.size<=b/\ ¬b=b13) w4=>X.cell (en.at' (i:=0) rfl) n9);have dk:=(λX:Au (λb=>O.heap.size<=b/\ ¬b=b13) w4=>X.cell (en.at' (i:=1) rfl) n9);clear bY ah f0 f1 n13 n9;go_wp2;refine AD (λw' => ∃X:Au (λb=>O.heap.size<=b/\ ¬b=b13) w4,w' =X.W) [15,16,17] (.r 0<| .r 1<| .r 2<| .r 3<| .r 4<| .r 7<| .r 8<| .r 9<| .r 10<| .r 11<| .two 5 (.two 6 (.r 14<| .a 12<| .a 13<| .a 15<| .a 16<| .a 17<| .nil) 12 (.a 6<| .r 14<| .a 13<| .a 15<| .a 16<| .a 17<| .nil)) 12 (.a 5<| .a 6<| .r 14<| .a 13<| .a 15<| .a 16<| .a 17<| .nil)) (Ay _ _) ?_
      iterate 10 (refine AB ?_;go_simp)
      clear cf cg cu dk;refine Be _ _ rfl rfl (λK bM=> ?_) (λK bM=> ?_)
      . go_wp2
        obtain⟨b9,bX⟩:=dS.QJ a9 ak;obtain⟨eR,cz⟩:=Zx w4.heap.size;have cB:Below w4.heap.size w4 (w4.alloc (Obj.cells #[.int .u64 ak] 23)).drew:=((Below.refl _ _).alloc (Nat.le_refl _) _).drew;rw [<-cz] at bX ⊢;obtain⟨bS,cC⟩:=Zx ((w4.alloc (Obj.cells #[.int .u64 ak] 23)).drew);rw [<-cC] at b9 bX cB ⊢;have co:=Zh b9;have bU:=Zh bX;clear cC cz b9 bX cB;refine bM _ _ co.Gh ?_;clear bM K;refine Be _ _ rfl rfl (λK bM=> ?_) (λK bM=> ?_)
        focus
         have dW:=Zh (co.Ls a9 bU k cr dj cU);go_wp2_with fail;refine dW.mono ?_;rintro e cb ⟨dD,ai,rfl,bV,a7⟩;have b3:=Zh bV;clear dW bV a7 bU;go_wp2;refine bM _ _ b3.Gh ?_;clear bM K;refine AB ?_;go_simp;refine Ao _ rfl (λK bM=> ?_);go_wp2;obtain⟨aV,bP⟩:=b3.Mm a9 av;obtain⟨dX,b4⟩:=Zx cb.heap.size;have af:Below cb.heap.size cb (cb.alloc (Obj.cells #[.int .u64 av] 23)):=((Below.refl _ _).alloc (Nat.le_refl _) _);rw [<-b4] at bP ⊢;obtain⟨aY,an⟩:=Zx (cb.alloc (Obj.cells #[.int .u64 av] 23));rw [<-an] at aV bP af ⊢;have bf:=Zh aV;have ax:=Zh bP;clear an b4 aV bP af;refine bM _ _ bf.Gh ?_;clear bM K
        rotate_left
        focus
         go_wp2;obtain⟨bV,bP⟩:=co.Mm a9 av;obtain⟨dX,b4⟩:=Zx bS.heap.size;have cc:Below bS.heap.size bS (bS.alloc (Obj.cells #[.int .u64 av] 23)):=((Below.refl _ _).alloc (Nat.le_refl _) _);rw [<-b4] at bP ⊢;obtain⟨cb,cD⟩:=Zx (bS.alloc (Obj.cells #[.int .u64 av] 23));rw [<-cD] at bV bP cc ⊢;have dY:=Zh (bU.below cc);clear bU;have bU:=Zh dY.out;clear dY;have b3:=Zh bV;have ax:=Zh bP;clear cD b4 bV bP cc;refine bM _ _ b3.Gh ?_;clear bM K;refine Ao _ rfl (λK bM=> ?_);have cF:=Zh (b3.Ls a9 bU k cr dj cU);go_wp2_with fail;refine cF.mono ?_;rintro e aY ⟨dD,ai,rfl,aV,a7⟩;obtain⟨bf,b5⟩:=YA;clear ax;have ax:=Zh b5.out;clear b5;clear cF aV a7 bU;go_wp2;refine bM _ _ bf.Gh ?_;clear bM K;refine AB ?_;go_simp
        all_goals
         exact Ypy
      . go_wp2
        obtain⟨b9,bP⟩:=dS.QJ a9 av;obtain⟨dX,b4⟩:=Zx w4.heap.size;have cB:Below w4.heap.size w4 (w4.alloc (Obj.cells #[.int .u64 av] 23)).drew:=((Below.refl _ _).alloc (Nat.le_refl _) _).drew;rw [<-b4] at bP ⊢;obtain⟨bS,cC⟩:=Zx ((w4.alloc (Obj.cells #[.int .u64 av] 23)).drew);rw [<-cC] at b9 bP cB ⊢;have co:=Zh b9;have ax:=Zh bP;clear cC b4 b9 bP cB;refine bM _ _ co.Gh ?_;clear bM K;refine Ao _ rfl (λK bM=> ?_);go_wp2;obtain⟨bV,bX⟩:=co.Mm a9 ak;obtain⟨eR,cz⟩:=Zx bS.heap.size;have cc:Below bS.heap.size bS (bS.alloc (Obj.cells #[.int .u64 ak] 23)):=((Below.refl _ _).alloc (Nat.le_refl _) _);rw [<-cz] at bX ⊢;obtain⟨cb,cD⟩:=Zx (bS.alloc (Obj.cells #[.int .u64 ak] 23));rw [<-cD] at bV bX cc ⊢;have b5:=Zh (ax.below cc);clear ax;have ax:=Zh b5.out;clear b5;have b3:=Zh bV;have bU:=Zh bX;clear cD cz bV bX cc;refine bM _ _ b3.Gh ?_;clear bM K;refine Ao _ rfl (λK bM=> ?_);have cF:=Zh (b3.Ls a9 bU k cr dj cU);go_wp2_with fail;refine cF.mono ?_;rintro e aY ⟨dD,ai,rfl,aV,a7⟩;obtain⟨bf,b5⟩:=YA;clear ax;have ax:=Zh b5.out;clear b5;clear cF aV a7 bU;go_wp2;refine bM _ _ bf.Gh ?_;clear bM K;refine AB ?_;go_simp;exact Ypy
     ·
      as_aux_lemma=>
      have eQ:=Zh ah;have fM:=V9;have bY:=fI.out;unfold NS at bY;rw [if_neg ah] at bY;have ht :=bG;have eS:k<n.kids.length:=by
       exact VD
      rw [show n.kids.getD k 0=n.kids[k] by simp [eS]] at bY;have eT:=cI.kids _ (List.getElem_mem eS);obtain⟨B3,cK,hu,fN⟩:=A5 (F:=FB F bl) dB.r3 (λb aI=>Nat.lt_of_lt_of_le (cp.fb b aI) (Nat.le_trans aU ac.size))
      cases hu
      obtain⟨dE,dF,rfl,hv,fO,dZ⟩:=fN.Nv eS;have fP:=dZ w4 (Below.refl _ _);obtain⟨d2,fQ⟩: ∃d2,n.kids[k]=d2:=⟨_,rfl⟩;rw [fQ] at fP eT bY;obtain⟨rc,eU⟩:=Zx (D4 t key ak av f R st.reverse d2);rw [<-eU] at bY;have eP:=Zh bY;have fR:Hid (∀W,Below w4.heap.size w4 W->Calls prog 48 #[.agg #[.pointer (some ⟨s,0,none⟩), .int .i64 t], .int .u64 (d2:Nat), .string key, .agg #[.int .u64 ak, .int .u64 av], .func (.func 87) #[] #[.pointer (some ⟨bl,0,none⟩), .pointer (some ⟨b2,0,none⟩)], .int .i64 ((d:Int)+1)] W (Xk N M W s t F bl b2 vb H P q most last G rc)):=Zh λW aI=>by
       have aa:=hq.out (by have:=fA.out;omega) W R st d2 (fL.low (aI.mono (Nat.le_trans aU dC.size))) (Nat.le_trans (Nat.le_trans aU dC.size) aI.size) eT;rw [show((40-f:Nat):Int)=(d:Int)+1 by have:=ho.out;have:=fA.out;omega,<-eU] at aa;exact aa
      have nF: ∀{b},M<=b-> ¬FB F bl b:=(λ{b} aI bc=>by have:=cp.fb b bc;omega);have dm:=Nat.le_trans aU ac.size;have dG: ¬FB F bl b13:=nF (Nat.le_trans dm bW.2.2.2);have dn:=Yps;have eo: ¬FB F bl dR:=nF (by have:=a0.2.2.1;have:=aU.out;omega);have d4:=Ypk;have cv:=Zh (And.intro dG (And.intro dn (And.intro eo d4)));have cf:=(λX:Au (FB F bl) w4=>X.cell (em.at' (i:=0) rfl) dn);have cg:=(λX:Au (FB F bl) w4=>X.cell (em.at' (i:=1) rfl) dn);have cu:=(λX:Au (FB F bl) w4=>X.cell (c9.at' (i:=2) rfl) dG);have dk:=(λX:Au (FB F bl) w4=>X.cell fP fO);have eV:=(λX:Au (FB F bl) w4=>X.cell (en.at' (i:=0) rfl) eo);have x6:=(λX:Au (FB F bl) w4=>X.cell (en.at' (i:=1) rfl) eo);have da:=Zh (And.intro dm (Nat.le_trans aU.out dC.size));clear bY ah eT fN dZ eU fQ nF dG dn eo d4 dm ht;go_upto_region 7 with (fail);go_cut [17] from 42 (λhy wc=> ∃bQ o R' st',hy= .pointer (some ⟨bQ,0,none⟩)/\Hid (Up N M w4 s t F bl b2 vb H P q most last G rc bQ o wc R' st'))
      case first=>
       as_aux_lemma=>
       refine AD (λw' => ∃X:Au (FB F bl) w4,w' =X.W) [13] (.r 0<| .r 1<| .r 2<| .r 3<| .r 4<| .r 5<| .r 6<| .r 7<| .r 8<| .r 9<| .r 10<| .two 11 (.a 12<| .a 13<| .nil) 12 (.a 11<| .a 13<| .nil)) (Ay _ _) ?_
       iterate 11 (refine AB ?_;go_simp)
       clear cf cg cu dk eV x6;refine Be _ _ rfl rfl (λK bM=> ?_) (λK bM=> ?_)
       . go_wp2_with fail
         refine(fR _ (Ac w4)).mono ?_;rintro e a8 ⟨rfl,ab,dH,Z⟩;obtain⟨R',L',o⟩:=rc;have J:=(Ad.below (F:=FB F bl) (Ac w4)).trans dH;obtain⟨cV,eW,eX⟩:=EW;clear ab dH J Z;rcases o with _|⟨a,b,r⟩
         all_goals
          simp only [Rg];go_wp2;refine bM _ _ (F3 cV) ?_;clear bM K;refine Ao _ rfl (λK bM=> ?_);go_wp2;refine bM _ _ (F3 (cV.trans (Ad.below ((Below.refl _ a8).alloc (Nat.le_refl _) _)))) ?_;clear bM K;refine AA _ rfl (by decide) (λK bM=> ?_);go_wp2;refine bM _ _ (AF ?_);clear bM K;go_wp2;go_meet
          case rel=>exact⟨a8.heap.size,_,R',L'.reverse,rfl,Zh ⟨by rw [List.reverse_reverse],eW.low (((Below.refl _ a8).alloc (Nat.le_refl _) _).mono (Nat.le_trans da.2 cV.size)),cV.trans (Ad.below ((Below.refl _ a8).alloc (Nat.le_refl _) _)),An.new a8 _ _,cV.size,eX⟩⟩
       . go_wp2
         have ep:Below w4.heap.size w4 (w4.alloc (Obj.cells #[.bool false, .int .u64 0, .int .u64 0, .int .u64 0] 109)).drew:=((Below.refl _ w4).alloc (Nat.le_refl _) _).drew;have eq:An (w4.alloc (Obj.cells #[.bool false, .int .u64 0, .int .u64 0, .int .u64 0] 109)).drew w4.heap.size 109 [.bool false, .int .u64 0, .int .u64 0, .int .u64 0]:=BG (An.new w4 _ _);obtain⟨bQ,eY⟩:=Zx w4.heap.size;rw [<-eY] at eq ⊢;have es:=Zh eY;refine bM _ _ (F3 (Ad.below ep)) ?_;clear bM K;obtain⟨bq,be⟩:=Zx ((w4.alloc (Obj.cells #[.bool false, .int .u64 0, .int .u64 0, .int .u64 0] 109)).drew);rw [<-be] at ep eq ⊢;have fS:=Zh ep;have hz:=Zh eq;clear be ep eq eY;refine Ao _ rfl (λK bM=> ?_);go_wp2_with fail;refine(fR _ fS).mono ?_;rintro e a8 ⟨rfl,ab,dH,Z⟩;obtain⟨R',L',o⟩:=rc;have J:=(Ad.below (F:=FB F bl) fS).trans dH;have n17: ¬FB F bl bQ:=(λbc=>by have:=cp.fb _ bc;have:=es.out;have:=da.2;omega);have dp:=hz.Ar dH n17;obtain⟨cV,eW,eX⟩:=EW;have hA:=Zh dp;have dv:=dp.free 0;have k1:=dp.free 1;have k2:=dp.free 2;have c8:=dp.free 3;obtain⟨dw,dx,dy,dz⟩:=C5 dp;clear ab dH J Z n17 dp;rcases o with _|⟨a,b,r⟩
         all_goals
          simp only [Rg];go_wp2;refine bM _ _ (F3 cV) ?_;clear bM K;refine AA _ rfl (by decide) (λK bM=> ?_);go_wp2;refine bM _ _ (AF ?_);clear bM K;go_wp2;go_meet
          case rel=>
           have hg:=(λv0 v1 v2 v3=>Bh (Bh (Bh (A3 a8 bQ 0 v0) (A3 _ bQ 1 v1)) (A3 _ bQ 2 v2)) (A3 _ bQ 3 v3));exact⟨bQ,_,R',L'.reverse,rfl,Zh ⟨by rw [List.reverse_reverse],eW.grow (by have:=es.out;have:=da.2;omega) (Nat.le_trans da.2 cV.size) (hg _ _ _ _),cV.grown (by have:=es.out;omega) (hg _ _ _ _),(((hA.set 0 _).set 1 _).set 2 _).set 3 _,by have:=es.out;omega,eX⟩⟩
      case rest=>
       obtain⟨bQ,o,R',st',rfl,cw⟩:=hcut;have bY:=eP.out;rw [cw.req] at bY;have db:=cw.R9;have fT:=cw.Ar.size;have fU:=cw.ge;have d5:=Zh (c9.Ar cw.Ar cv.1);have fV:=Zh (dB.Ar cw.Ar (λb aI=>Nat.lt_of_lt_of_le (cp.fb b aI) da.1));have fW:=Zh (em.Ar cw.Ar cv.2.1);have fX:=Zh (fK.Ar cw.Ar cv.2.2.2);have fY:=Zh ((Ad.below (F:=FB F bl) dC).trans cw.Ar);have et:=Zh (And.intro fT fU);clear fT fU;rcases o with _|⟨a,b,r⟩
       . have hB:=db.at' (i:=0) rfl
         have hC :=Zh bY;have hD:=Zh (Rows.start (bn:=λb=>b=b13) fV (λb aI=>by rw [aI];exact d5.lt) eN (Nat.le_trans a9 et.1));clear bY db;go_wp2;go_meet
         case rel=>
          exact⟨R',st',n,_,_,_,Zh (Qd (bn:=λb=>b=b13) rfl hC cw.e da.1 ac.size fY.out hD (Gp (Below.refl _ _) _) bW.2.2.2 (Nat.le_trans a9 et.1) fW bW.1 fX bW.2.2.1 d5 cI (by have:=bu.1;omega) bC bj)⟩
       . have hB:=db.at' (i:=0) rfl
         obtain⟨aB,aC,aM⟩:=cw.QS a b r rfl;have Z:=Qf;have a1:=Zh (Nat.le_trans a9 et.1);have hE:w4.heap.size<=bQ:=et.2;have fZ: ∀z,(Value.slice a4 n.keys.length q1).ownBlock=some z\/(Value.slice a3 n.Ab.length aR).ownBlock=some z\/(Value.slice (some ⟨dE,dF,none⟩) n.kids.length aP).ownBlock=some z-> ¬(z=b13\/z=bQ):=λz bO aa=>by
          rcases aa with aa|aa
          . exact eN.out z bO aa
          . have:z<w4.heap.size:=by
             rcases bO with h1|h1|h1
             . exact Bs dB.r1 z h1
             . exact Bs dB.r2 z h1
             . exact Bs dB.r3 z h1
            omega
         have dS:=Zh (Rows.start (bn:=λz=>z=b13\/z=bQ) fV (λz bO=>by rcases bO with bO|bO<;>rw [bO];exact d5.lt;exact db.lt) fZ a1)
         obtain⟨cr,bE,dj,bH⟩:=Ylo;have bD:=(λ{W:World} (aI:W.heap[b13]? =wc.heap[b13]?)=>d5.block aI);obtain⟨Lk,dT⟩:=Zx (n.keys.take k++a::n.keys.drop k);obtain⟨cJ,dU⟩:=Zx (n.Ab.take k++b::n.Ab.drop k);have cU:=Zh dT;have bF:=Zh dU;clear dT dU;have f7:bQ≠b13:=(by have:=c9.lt;omega);have hF:=Zh db
         have bK:Hid (∀(A:Option Addr) (c:Nat) (cx :Option Addr) (cy :Nat) (W:World),Rows wc O.heap.size (λz=>z=b13\/z=bQ) W (.slice A Lk.length c) Lk (.slice cx cJ.length cy) cJ (.slice (some ⟨dE,dF,none⟩) n.kids.length aP) n.kids->
          ∃vk vv,Hid (Xe wc O.heap.size b13 bQ vk Lk vv cJ (.slice (some ⟨dE,dF,none⟩) n.kids.length aP) n.kids n.size a b r ((W.setCell ⟨b13,0,none⟩ (.slice A Lk.length c)).setCell ⟨b13,1,none⟩ (.slice cx cJ.length cy)))):=Zh λA c cx cy W dV=>
          ⟨_,_,Zh (XA (bn:=λz=>z=b13\/z=bQ) (.inl rfl) (.inr rfl) f7 dV (Bh (A3 W b13 0 _) (A3 _ b13 1 _)) bW.2.2.2 a1 (((bD (dV.box b13 (.inl rfl))).set 0 _).set 1 _) hF)⟩
         obtain⟨f0,f1⟩:=A2 d5.out;have n13: ¬(O.heap.size<=b13/\ ¬(b13=b13\/b13=bQ)):=(by simp);have n17: ¬(O.heap.size<=bQ/\ ¬(bQ=b13\/bQ=bQ)):=(by simp);have cf:=(λX:Au (λz=>O.heap.size<=z/\ ¬(z=b13\/z=bQ)) wc=>X.cell f0 n13);have cg:=(λX:Au (λz=>O.heap.size<=z/\ ¬(z=b13\/z=bQ)) wc=>X.cell f1 n13);have cu:=(λX:Au (λz=>O.heap.size<=z/\ ¬(z=b13\/z=bQ)) wc=>X.cell (db.at' (i:=1) rfl) n17);have dk:=(λX:Au (λz=>O.heap.size<=z/\ ¬(z=b13\/z=bQ)) wc=>X.cell (db.at' (i:=2) rfl) n17);have f8:D=B7 R' t x st'.reverse ((n.Dy k a b).FX (k+1) r).more:=(by rw [bY]);have hG:=Zh f8;clear bY f8 f0 f1 n13 n17 db fZ hE f7 aB aC aM;go_upto_region 9 with (fail);go_cut [] from 76 (λhH=> ∃vk vv,Hid (Xe wc O.heap.size b13 bQ vk Lk vv cJ (.slice (some ⟨dE,dF,none⟩) n.kids.length aP) n.kids n.size a b r hH))
         case first=>
          as_aux_lemma=>
          refine AD (λw' => ∃X:Au (λz=>O.heap.size<=z/\ ¬(z=b13\/z=bQ)) wc,w' =X.W) [17,18,19] (.r 0<| .r 1<| .r 2<| .r 3<| .r 4<| .r 5<| .r 8<| .r 9<| .r 10<| .r 11<| .r 12<| .r 13<| .two 6 (.two 7 (.r 16<| .a 14<| .a 15<| .a 17<| .a 18<| .a 19<| .nil) 14 (.a 7<| .r 16<| .a 15<| .a 17<| .a 18<| .a 19<| .nil)) 14 (.a 6<| .a 7<| .r 16<| .a 15<| .a 17<| .a 18<| .a 19<| .nil)) (Ay _ _) ?_
          iterate 12 (refine AB ?_;go_simp)
          clear cf cg cu dk;refine Be _ _ rfl rfl (λK bM=> ?_) (λK bM=> ?_)
          . go_wp2
            obtain⟨b9,bX⟩:=dS.QJ a1 a;obtain⟨eR,cz⟩:=Zx wc.heap.size;have cB:Below wc.heap.size wc (wc.alloc (Obj.cells #[.int .u64 (a:Nat)] 23)).drew:=((Below.refl _ _).alloc (Nat.le_refl _) _).drew;rw [<-cz] at bX ⊢;obtain⟨bS,cC⟩:=Zx ((wc.alloc (Obj.cells #[.int .u64 (a:Nat)] 23)).drew);rw [<-cC] at b9 bX cB ⊢;have co:=Zh b9;have bU:=Zh bX;clear cC cz b9 bX cB;refine bM _ _ co.Gh ?_;clear bM K;refine Be _ _ rfl rfl (λK bM=> ?_) (λK bM=> ?_)
            focus
             have dW:=Zh (co.Ls a1 bU k cr dj cU);go_wp2_with fail;refine dW.mono ?_;rintro e cb ⟨dD,ai,rfl,bV,a7⟩;have b3:=Zh bV;clear dW bV a7 bU;go_wp2;refine bM _ _ b3.Gh ?_;clear bM K;refine AB ?_;go_simp;refine Ao _ rfl (λK bM=> ?_);go_wp2;obtain⟨aV,bP⟩:=b3.Mm a1 b;obtain⟨dX,b4⟩:=Zx cb.heap.size;have af:Below cb.heap.size cb (cb.alloc (Obj.cells #[.int .u64 (b:Nat)] 23)):=((Below.refl _ _).alloc (Nat.le_refl _) _);rw [<-b4] at bP ⊢;obtain⟨aY,an⟩:=Zx (cb.alloc (Obj.cells #[.int .u64 (b:Nat)] 23));rw [<-an] at aV bP af ⊢;have bf:=Zh aV;have ax:=Zh bP;clear an b4 aV bP af;refine bM _ _ bf.Gh ?_;clear bM K
            rotate_left
            focus
             go_wp2;obtain⟨bV,bP⟩:=co.Mm a1 b;obtain⟨dX,b4⟩:=Zx bS.heap.size;have cc:Below bS.heap.size bS (bS.alloc (Obj.cells #[.int .u64 (b:Nat)] 23)):=((Below.refl _ _).alloc (Nat.le_refl _) _);rw [<-b4] at bP ⊢;obtain⟨cb,cD⟩:=Zx (bS.alloc (Obj.cells #[.int .u64 (b:Nat)] 23));rw [<-cD] at bV bP cc ⊢;have dY:=Zh (bU.below cc);clear bU;have bU:=Zh dY.out;clear dY;have b3:=Zh bV;have ax:=Zh bP;clear cD b4 bV bP cc;refine bM _ _ b3.Gh ?_;clear bM K;refine Ao _ rfl (λK bM=> ?_);have cF:=Zh (b3.Ls a1 bU k cr dj cU);go_wp2_with fail;refine cF.mono ?_;rintro e aY ⟨dD,ai,rfl,aV,a7⟩;obtain⟨bf,b5⟩:=YA;clear ax;have ax:=Zh b5.out;clear b5;clear cF aV a7 bU;go_wp2;refine bM _ _ bf.Gh ?_;clear bM K;refine AB ?_;go_simp
            all_goals
             exact Ypx
          . go_wp2
            obtain⟨b9,bP⟩:=dS.QJ a1 b;obtain⟨dX,b4⟩:=Zx wc.heap.size;have cB:Below wc.heap.size wc (wc.alloc (Obj.cells #[.int .u64 (b:Nat)] 23)).drew:=((Below.refl _ _).alloc (Nat.le_refl _) _).drew;rw [<-b4] at bP ⊢;obtain⟨bS,cC⟩:=Zx ((wc.alloc (Obj.cells #[.int .u64 (b:Nat)] 23)).drew);rw [<-cC] at b9 bP cB ⊢;have co:=Zh b9;have ax:=Zh bP;clear cC b4 b9 bP cB;refine bM _ _ co.Gh ?_;clear bM K;refine Ao _ rfl (λK bM=> ?_);go_wp2;obtain⟨bV,bX⟩:=co.Mm a1 a;obtain⟨eR,cz⟩:=Zx bS.heap.size;have cc:Below bS.heap.size bS (bS.alloc (Obj.cells #[.int .u64 (a:Nat)] 23)):=((Below.refl _ _).alloc (Nat.le_refl _) _);rw [<-cz] at bX ⊢;obtain⟨cb,cD⟩:=Zx (bS.alloc (Obj.cells #[.int .u64 (a:Nat)] 23));rw [<-cD] at bV bX cc ⊢;have b5:=Zh (ax.below cc);clear ax;have ax:=Zh b5.out;clear b5;have b3:=Zh bV;have bU:=Zh bX;clear cD cz bV bX cc;refine bM _ _ b3.Gh ?_;clear bM K;refine Ao _ rfl (λK bM=> ?_);have cF:=Zh (b3.Ls a1 bU k cr dj cU);go_wp2_with fail;refine cF.mono ?_;rintro e aY ⟨dD,ai,rfl,aV,a7⟩;obtain⟨bf,b5⟩:=YA;clear ax;have ax:=Zh b5.out;clear b5;clear cF aV a7 bU;go_wp2;refine bM _ _ bf.Gh ?_;clear bM K;refine AB ?_;go_simp;exact Ypx
         case rest=>
          as_aux_lemma=>
          obtain⟨i2,i3,hN⟩:=hcut;have cL:=hN.out;have eZ:k+1<=n.kids.length:=(by omega);have f9:n.kids.length<=100000:=(by have:=bu.2;omega);have ga:=Rows.start (bn:=λz=>z=b13) cL.own (λz bO=>by rw [bO];exact cL.EH.lt) cL.off (Nat.le_trans a1 cL.ge);obtain⟨d6,gb⟩:=ga.Mm (Nat.le_trans a1 cL.ge) r;have eu:=d6.Fj.call (Nat.le_trans a1 cL.ge) gb.Fj (k+1) eZ f9;obtain⟨hI,e0⟩:=Zx (n.kids.take (k+1)++r::n.kids.drop (k+1));rw [<-e0] at eu;push_cast at eu;have gc:=Zh eu;have gd:=Zh e0;have e1:=cL.EH.at' (i:=2) rfl;have cK:=cL.R9.at' (i:=3) rfl;have i4:k<=32:=(by have:=bu.1;omega);have dI:=Zh cL;have hJ:=Zh eZ;clear eu e0 ga d6 gb hN cL f9 eZ;go_wp2_with fail;refine gc.mono ?_;rintro e hK ⟨hL,aj,rfl,gf,a7⟩;have d6:=Zh gf.Fj;have g13:=dI.EH.block (d6.box b13 rfl);have g2:=g13.free 2;have i5:=g13.at' (i:=2) rfl;have hM:=Zh g13;clear gc gf a7 g13 e1 cK;go_wp2;go_meet
          case rel=>
           have m1:D=B7 R' t x st'.reverse ((n.Dy k a b).FX (k+1) r).more:=hG.out;have m2:=cw.e.low (dI.low.mono da.1);have m3:=fY.low (dI.low.mono ac.size);have m4:=d6.out;have m5:=HI fW dI.low bW.1;have m6:=HI fX dI.low bW.2.2.1;have m7:=hM.set 2 (.slice hL hI.length aj);have m8:((n.Dy k a b).FX (k+1) r).Ok:=⟨KH cI.keys k Z.1,KH cI.Ab k Z.2.1,KH cI.kids (k+1) Z.2.2,cI.size⟩;have m9:(n.keys.take k++a::n.keys.drop k).length<=32:=by
            rw [FE cr];have:=bu.1;omega
           have m10:(n.Ab.take k++b::n.Ab.drop k).length=(n.keys.take k++a::n.keys.drop k).length:=by
            rw [FE cr,FE bE,bC.out]
           have m11:(n.kids.take (k+1)++r::n.kids.drop (k+1)).length=(n.keys.take k++a::n.keys.drop k).length+1:=by
            rw [FE cr,FE hJ.out];rcases bj.out with aa|aa
            . exact absurd aa eQ.out
            . omega
           rw [cU.out,bF.out,gd.out] at m4;rw [gd.out] at m7 ⊢;exact⟨R',st',(n.Dy k a b).FX (k+1) r,_,_,_,Zh (Qd (bn:=λz=>z=b13) (n:=(n.Dy k a b).FX (k+1) r) rfl m1 m2 da.1 ac.size m3 m4 (A3 hK b13 2 _) bW.2.2.2 (Nat.le_trans a1 dI.ge) m5 bW.1 m6 bW.2.2.1 m7 m8 m9 m10 (.inr m11))⟩
    case rest=>
     as_aux_lemma=>
     obtain⟨R2,di,n2,vk,vv,vi,gg⟩:=hcut;have hm:=gg.out;have d3:=hm.EH.free 3;obtain⟨ck,cl⟩:=A2 hm.x6;obtain⟨cM,ev⟩:=Zx n2.more.size;have i6:IntKind.u64.wrap ((n2.size:Int)+1)=(cM:Int):=(by rw [ev];exact Ud hm.ok.size);have hO:cM<18446744073709551616:=(by rw [ev];exact Nat.mod_lt _ (by decide));have t1:=aN.1;have t2:=aN.2;have dm:=Nat.le_trans aU ac.size;have ew:M<=b13:=Nat.le_trans dm bW.2.2.2;have e2:M<=wc.heap.size:=Nat.le_trans ew (Nat.le_of_lt hm.EH.lt);obtain⟨A,dq⟩:=Zx (wc.setCell ⟨b13,3,none⟩ (.int .u64 cM));have ex:wc.grownBy A (some b13):=(by rw [dq];exact A3 wc b13 3 _);have au:=hm.e.grow ew e2 ex;have ar:=hm.Ar.grown (Nat.le_trans ac.size bW.2.2.2) ex;have aJ:AQ A O.heap.size vk n2.keys vv n2.Ab vi n2.kids:=(hm.own.off λz bO=>by rw [dq];exact Below.heap_setCell wc ⟨b13,3,none⟩ _ z (hm.off z bO));have ag:An A b13 100 [vk,vv,vi, .int .u64 cM]:=(by rw [dq];exact hm.EH.set 3 _);have ae:An A b6 96 [.pointer (some ⟨s,0,none⟩), .int .i64 t]:=(by rw [dq];exact hm.x6.other (p:=⟨b13,3,none⟩) (by have:=bW.out;show b6≠b13;omega) _);have aK:An A aO 109 [.bool false, .int .u64 0, .int .u64 0, .int .u64 0]:=(by rw [dq];exact hm.Eo.other (p:=⟨b13,3,none⟩) (by have:=bW.out;show aO≠b13;omega) _);have nF: ∀{z},M<=z-> ¬FB F bl z:=(λ{z} bO bc=>by have:=cp.fb z bc;omega);have dG: ¬FB F bl b13:=nF ew;have dn:=Yps;have d4:=Ypk;have gh:M<=aO:=(by have:=a0.2.2.2;have:=aU.out;omega);have gi:w.heap.size<=aO:=(by have:=a0.2.2.2;omega);have gj:M<=A.heap.size:=Nat.le_trans e2 ex.size;have e3: ∀z,FB F bl z->z<O.heap.size:=(λz bO=>Nat.lt_of_lt_of_le (cp.fb z bO) dm);have gk:n2.more.Ok:=⟨hm.ok.keys,hm.ok.Ab,hm.ok.kids,Nat.mod_lt _ (by decide)⟩;have i7:n2.keys.length<=32:=hm.l1;have gl:=hm.l2;have dc:=hm.l3;have gm:n2.kids.length<=33:=by rcases dc with aa|aa<;>rw [aa]<;>simp<;>omega
     have ay:=aJ.Mz (F:=FB F bl) e3 cM (by omega) (by omega) (by omega);obtain⟨dD,ai,rfl⟩:=Ae hm.own.r1;have e4:=hm.EH.at' (i:=0) rfl;have cK:=hm.EH.at' (i:=3) rfl;have gn:=Zh hm.D;have cv:=Zh (And.intro dG (And.intro dn d4));obtain⟨bk,e5,cN⟩:=OT;obtain⟨ag,ae,aK,hP⟩:=Yic;have cO:=Zh gk;have d7:=Zh (And.intro gl (And.intro dc gm));have e6:=Zh dq;have go:=Zh ev;have cW:=Zh (And.intro gh (And.intro gi (And.intro gj e3)));clear hm gg dG dn d4 nF au ar aJ ay gk gl dc gm ex ev gh gi gj e3 dm ew e2 dq;by_cases gp:n2.keys.length<2*t
     . have dl:decide ((n2.keys.length:Int)<2*(t:Int))=true:=decide_eq_true (by omega)
       as_aux_lemma=>
       go_upto_region 12 with (fail);rw [<-e6.out];clear e4 cK d3 ck cl;obtain⟨e4,hQ,e1,cK⟩:=C5 ag.out;obtain⟨ck,cl⟩:=A2 ae.out;have hR:Hid (D=(Bq R2 t x n2.more,di.reverse,none)):=Zh (by rw [gn.out];unfold B7;rw [if_pos (by exact gp)]);have dA:=(hP.less (F' :=F) λz bO=> .inl bO);rw [show(BN.mk n2.keys n2.Ab n2.kids cM)=n2.more by rw [go.out];rfl] at dA;have d8:=Zh (F8 bk.str t aN x hx dA cO);clear dA;go_wp2_with fail;refine d8.mono ?_;unfold Kk;rintro e hS ⟨rfl,gq,ey⟩;have cd:=aK.Ar ey (λaa=>cv.2.2 (.inl aa));have dv:=cd.free 0;have k1:=cd.free 1;have k2:=cd.free 2;have c8:=cd.free 3;obtain⟨dw,dx,dy,dz⟩:=C5 cd;have bo:=Zh ((((cd.set 0 (.bool false)).set 1 (.int .u64 0)).set 2 (.int .u64 0)).set 3 (.int .u64 0));have hT:=Zh (bk.Ar gq ey (Cr aN bk.sh));have gr:=Zh (e5.trans ey.fb);clear gq ey cd d8;go_wp2;obtain⟨e7,r1,r2,r3⟩:=C5 bo.out;refine bodyPost_ret (v:= .agg #[.bool false, .int .u64 0, .int .u64 0, .int .u64 0]) (by simp [results,f48,go_sem,e7,r1,r2,r3]) rfl ?_;rw [hR.out];have hg:=Bh (Bh (Bh (A3 hS aO 0 (.bool false)) (A3 _ aO 1 (.int .u64 0))) (A3 _ aO 2 (.int .u64 0))) (A3 _ aO 3 (.int .u64 0));refine⟨rfl, ?_,gr.grown cW.2.1 hg,λa b r h=>by cases h⟩;simp only [List.reverse_reverse];exact hT.grow cW.1 (Nat.le_trans aU gr.size) hg
     . have dl:decide ((n2.keys.length:Int)<2*(t:Int))=false:=decide_eq_false (by omega)
       have d9:t+1<n2.keys.length:=(by omega);have ea:t+1<n2.Ab.length:=(by rw [d7.1];omega);obtain⟨aq,i8,e8,hU,bi⟩:=Bj cN.r1 (λe=>by rw [e] at d9;simp at d9)
       cases e8
       obtain⟨am,aj,rfl,hV,bh⟩:=Bj cN.r2 (λe=>by rw [e] at ea;simp at ea);have az:n2.keys.length<=ai:=(by rcases DP cN.r1 with aa|aa;exact aa.1;rw [aa.1] at d9;simp at d9);have aF:n2.Ab.length<=aj:=(by rcases DP cN.r2 with aa|aa;exact aa.1;rw [aa.1] at ea;simp at ea);obtain⟨bN,aE⟩:=Zx (n2.keys.length-(t+1));have gs:bN=n2.Ab.length-(t+1):=(by rw [d7.1];exact aE);have i9:bN<=31:=(by omega);have aW:AJ A (FB F bl) (some ⟨aq,0,none⟩) (AG n2.keys):=(by obtain⟨cx,cy,dr,aa⟩:=A5 (F:=FB F bl) cN.r1 cW.2.2.2;cases dr;exact aa);have aX:AJ A (FB F bl) (some ⟨am,0,none⟩) (AG n2.Ab):=(by obtain⟨cx,cy,dr,aa⟩:=A5 (F:=FB F bl) cN.r2 cW.2.2.2;cases dr;exact aa);have dJ:(n2.keys.take t).length=t:=(by rw [List.length_take];omega);have e9:(n2.Ab.take t).length=t:=(by rw [List.length_take];omega);have dK:(n2.keys.drop (t+1)).length=bN:=(by rw [List.length_drop];omega);have fa:(n2.Ab.drop (t+1)).length=bN:=(by rw [List.length_drop];omega);have hW:Hid (CX A (FB F bl) (.agg #[.slice (some ⟨aq,0,none⟩) t ai, .slice (some ⟨am,0,none⟩) t aj, .slice none 0 0, .int .u64 (0:Nat)]) ⟨n2.keys.take t,n2.Ab.take t,([]:List Nat).take (t+1),0⟩):=Zh ⟨⟨_,ai,_,aj,none,0,by rw [dJ,e9];rfl,aW.takeN t,aX.takeN t, .inl rfl⟩,by rw [dJ];omega,by rw [e9];omega,by simp⟩;have hX:Hid (CX A (FB F bl) (.agg #[.slice (some ⟨aq,t+1,none⟩) bN (ai-(t+1)), .slice (some ⟨am,t+1,none⟩) bN (aj-(t+1)), .slice none 0 0, .int .u64 (0:Nat)]) ⟨n2.keys.drop (t+1),n2.Ab.drop (t+1),([]:List Nat).drop (t+1),0⟩):=Zh ⟨⟨_,ai-(t+1),_,aj-(t+1),none,0,by rw [dK,fa];rfl,by have aa:=aW.drop (t+1);rwa [Nat.zero_add] at aa,by have aa:=aX.drop (t+1);rwa [Nat.zero_add] at aa, .inl (by simp [AG])⟩,by rw [dK];omega,by rw [fa];omega,by simp⟩;have gt:=(λw=>Pk w aq ai n2.keys.length t (by omega));have gu:=(λw=>Pk w am aj n2.Ab.length t (by omega));have gv:=(λw=>U1 w aq ai n2.keys.length t bN (by omega) az d9 aE);have gw:=(λw=>U1 w am aj n2.Ab.length t bN (by omega) aF ea gs);have ja:IntKind.i64.wrap ((t:Int)+1)=(t:Int)+1:=(by rw [IntKind.wrap_i64];omega);obtain⟨hY,_⟩:=QI;obtain⟨gx,_⟩:=Za;clear gs aW aX dJ e9 dK fa hU hV bi bh aE;obtain⟨ez,q1⟩:=A2 ag.out;have eA:=ae.at' (i:=1) rfl;have cf:=(λX:Au (λ_=>False) A=>X.cell ez (λh=>h));have cg:=(λX:Au (λ_=>False) A=>X.cell q1 (λh=>h));have cu:=(λX:Au (λ_=>False) A=>X.cell eA (λh=>h));clear q1;go_upto_region 12 with (fail);rw [<-e6.out];clear e4 cK d3 ck cl;go_upto_region 15 with (fail);go_cut [18,19] from 114 (λhZ h2 h3=> ∃U al,hZ= .pointer (some ⟨U,0,none⟩)/\h2= .pointer (some ⟨al,0,none⟩)/\Hid (Kr A h3 (FB F bl) U al t ⟨n2.keys,n2.Ab,[],cM⟩ (.slice (some ⟨aq,0,none⟩) t ai) (.slice (some ⟨am,0,none⟩) t aj) (.slice none 0 0) (.slice (some ⟨aq,t+1,none⟩) bN (ai-(t+1))) (.slice (some ⟨am,t+1,none⟩) bN (aj-(t+1))) (.slice none 0 0)))
       case first=>
        as_aux_lemma=>
        refine AD (λw' => ∃X:Au (λ_=>False) A,w' =X.W) [27] (.r 0<| .r 1<| .r 2<| .r 3<| .r 4<| .r 5<| .r 6<| .r 7<| .r 8<| .r 9<| .r 10<| .r 11<| .r 12<| .r 13<| .r 14<| .r 15<| .r 16<| .r 17<| .r 18<| .r 19<| .r 20<| .r 21<| .r 22<| .r 23<| .two 24 (.a 25<| .a 26<| .a 27<| .nil) 25 (.a 24<| .a 26<| .a 27<| .nil)) (Ay _ _) ?_
        iterate 24 (refine AB ?_;go_simp)
        clear cf cg cu gt gu gv gw;refine Be _ _ rfl rfl (λK bM=> ?_) (λK bM=> ?_)
        focus
         go_wp2;obtain⟨U,cP⟩:=Zx A.heap.size;obtain⟨bd,bm⟩:=Zx ((A.alloc (Obj.cells #[.slice none 0 0, .slice none 0 0, .slice none 0 0, .int .u64 0] 100)).drew);rw [<-bm,<-cP];have V:=Ynq;have bp:An bd U 100 [.slice none 0 0, .slice none 0 0, .slice none 0 0, .int .u64 0]:=(by rw [bm,cP];exact BG (An.new A _ _));have cX:=Ypt;have fc:=Zh cX;have h4:=Zh cP;refine bM _ _ (Af V) ?_;clear bM K bm cX cP;refine Ao _ rfl (λK bM=> ?_);go_wp2;obtain⟨al,cQ⟩:=Zx bd.heap.size;obtain⟨bq,be⟩:=Zx (bd.alloc (Obj.cells #[.slice none 0 0, .slice none 0 0, .slice none 0 0, .int .u64 0] 100));rw [<-be,<-cQ];have a6:=Ype;have bp:An bq U 100 [.slice none 0 0, .slice none 0 0, .slice none 0 0, .int .u64 0]:=(by rw [be];exact bp.alloc _);have bs:An bq al 100 [.slice none 0 0, .slice none 0 0, .slice none 0 0, .int .u64 0]:=(by rw [be,cQ];exact An.new bd _ _);have cX:=fc.out;have cP:=h4.out;obtain⟨bg,g18,g19⟩:=You;obtain⟨⟨c0,c1,c2,c3⟩,f0,f1,f2,f3⟩:=Yq bp;obtain⟨cY,gy,dL,cG,ds⟩:=Yie;refine bM _ _ (Af a6) ?_;clear bM K be cP cQ bp bs a6 bg g18 g19 cX V
        rotate_left
        focus
         go_wp2;obtain⟨al,cQ⟩:=Zx A.heap.size;obtain⟨bd,bm⟩:=Zx ((A.alloc (Obj.cells #[.slice none 0 0, .slice none 0 0, .slice none 0 0, .int .u64 0] 100)).drew);rw [<-bm,<-cQ];have V:=Ynq;have bs:An bd al 100 [.slice none 0 0, .slice none 0 0, .slice none 0 0, .int .u64 0]:=(by rw [bm,cQ];exact BG (An.new A _ _));have cX:=Ypt;have fc:=Zh cX;have h5:=Zh cQ;refine bM _ _ (Af V) ?_;clear bM K bm cX cQ;refine Ao _ rfl (λK bM=> ?_);go_wp2;obtain⟨U,cP⟩:=Zx bd.heap.size;obtain⟨bq,be⟩:=Zx (bd.alloc (Obj.cells #[.slice none 0 0, .slice none 0 0, .slice none 0 0, .int .u64 0] 100));rw [<-be,<-cP];have a6:=Ype;have bs:An bq al 100 [.slice none 0 0, .slice none 0 0, .slice none 0 0, .int .u64 0]:=(by rw [be];exact bs.alloc _);have bp:An bq U 100 [.slice none 0 0, .slice none 0 0, .slice none 0 0, .int .u64 0]:=(by rw [be,cP];exact An.new bd _ _);have cX:=fc.out;have cQ:=h5.out;obtain⟨bg,g18,g19⟩:=You;obtain⟨⟨c0,c1,c2,c3⟩,f0,f1,f2,f3⟩:=Yq bp;obtain⟨cY,gy,dL,cG,ds⟩:=Yie;refine bM _ _ (Af a6) ?_;clear bM K be cQ cP bp bs a6 bg g18 g19 cX V
        all_goals
         refine Ao _ rfl (λK bM=> ?_);go_wp2;refine bM _ _ (Af ds) ?_;clear bM K c0 c1 c2 c3 f0 f1 f2 f3;obtain⟨jb,fd⟩:=Zx ((((bq.setCell ⟨U,0,none⟩ (.slice (some ⟨aq,0,none⟩) t ai)).setCell ⟨U,1,none⟩ (.slice (some ⟨am,0,none⟩) t aj)).setCell ⟨U,2,none⟩ (.slice none 0 0)).setCell ⟨U,3,none⟩ (.int .u64 0));rw [<-fd];have ds:=ds.out;have dL:=dL.out;have cG:=cG.out;rw [<-fd] at ds dL cG;obtain⟨⟨c0,c1,c2,c3⟩,f0,f1,f2,f3⟩:=Yq cG;have eb:=Zh (Kr.mk (FF:=FB F bl) (t:=t) (n:=⟨n2.keys,n2.Ab,[],cM⟩) (GR ds cY.2.1 (.slice (some ⟨aq,t+1,none⟩) bN (ai-(t+1))) (.slice (some ⟨am,t+1,none⟩) bN (aj-(t+1))) (.slice none 0 0) (.int .u64 0)) ((((dL.other (p:=⟨al,0,none⟩) cY.2.2 _).other (p:=⟨al,1,none⟩) cY.2.2 _).other (p:=⟨al,2,none⟩) cY.2.2 _).other (p:=⟨al,3,none⟩) cY.2.2 _) ((((cG.set 0 (.slice (some ⟨aq,t+1,none⟩) bN (ai-(t+1)))).set 1 (.slice (some ⟨am,t+1,none⟩) bN (aj-(t+1)))).set 2 (.slice none 0 0)).set 3 (.int .u64 0)) cY.1 cY.2.1 cY.2.2 hW hX);clear ds dL cG fd gy;refine AA _ rfl (by decide) (λK bM=> ?_);go_wp2;refine bM _ _ (AF ?_);clear bM K;go_wp2_with fail;go_meet
         case rel=>exact⟨U,al,rfl,rfl,eb⟩
       case rest=>
        obtain⟨U,al,rfl,rfl,cj⟩:=hcut;have h6:=Zh (ag.below cj.low);have h7:=Zh (ae.below cj.low);obtain⟨jc,h8⟩:=Zx wc;have aR:=h6.at' (i:=2) rfl;have eA:=h7.at' (i:=1) rfl;have dc:=d7.2.1;clear cf cg cu gt gu gv gw ez e6 h8;obtain⟨jd,ci,rfl⟩:=Ae cN.r3;go_upto_if 149 with (fail);go_cut [] from 146 (λh9=> ∃l3 r3,Hid (Kr A h9 (FB F bl) U al t n2 (.slice (some ⟨aq,0,none⟩) t ai) (.slice (some ⟨am,0,none⟩) t aj) l3 (.slice (some ⟨aq,t+1,none⟩) bN (ai-(t+1))) (.slice (some ⟨am,t+1,none⟩) bN (aj-(t+1))) r3))
        case first=>
         as_aux_lemma=>
         by_cases ah:n2.kids= []
         . have fM:n2.kids.length=0:=by rw [ah];rfl
           have eb:Hid (∃l3 r3,Hid (Kr A wc (FB F bl) U al t n2 (.slice (some ⟨aq,0,none⟩) t ai) (.slice (some ⟨am,0,none⟩) t aj) l3 (.slice (some ⟨aq,t+1,none⟩) bN (ai-(t+1))) (.slice (some ⟨am,t+1,none⟩) bN (aj-(t+1))) r3)):=Zh ⟨_,_,Zh { cj with
            vl:=by rw [ah];exact cj.vl
            vr:=by rw [ah];exact cj.vr }⟩
           clear ah dc;go_wp2_with fail;go_meet
           case rel=>exact eb.out
         . have fM:0<n2.kids.length:=List.length_pos_iff.2 ah
           have je:decide ((n2.kids.length:Int)>0)=true:=decide_eq_true (by omega);have jf:decide ((0:Int)<(n2.kids.length:Int))=true:=decide_eq_true (by omega);have ia:t+1+1<n2.kids.length:=(by rcases dc with aa|aa;exact absurd aa ah;omega);obtain⟨cH,jg,e8,ib,ic⟩:=Bj cN.r3 ah
           cases e8
           have gz:n2.kids.length<=ci:=(by rcases DP cN.r3 with aa|aa;exact aa.1;exact absurd aa.1 ah);have fe:AJ A (FB F bl) (some ⟨cH,0,none⟩) (AG n2.kids):=(by obtain⟨cx,cy,dr,aa⟩:=A5 (F:=FB F bl) cN.r3 cW.2.2.2;cases dr;exact aa);obtain⟨li,gA⟩:=Zx (n2.kids.length-(t+1));have dJ:(n2.kids.take (t+1)).length=t+1:=(by rw [List.length_take];omega);have dK:(n2.kids.drop (t+1)).length=li:=(by rw [List.length_drop];omega);have ie:n2.kids.length<=33:=d7.2.2;obtain⟨eB,ff⟩:=Zx (t+1);have ig: ∀w,(Instr.slice 46 (.slice (some ⟨cH,0,none⟩) n2.kids.length ci) none (some (.int .i64 ((t:Int)+1))) none).run prog w= .ok (.slice (some ⟨cH,0,none⟩) eB ci) w:=λw=>by
            have aa:=Pk w cH ci n2.kids.length (t+1) (by omega);push_cast at aa;rw [ff];exact aa
           have ii:=(λw=>U1 w cH ci n2.kids.length t li (by omega) gz (by omega) gA);have eb:Hid (∀W,W=((wc.setCell ⟨U,2,none⟩ (.slice (some ⟨cH,0,none⟩) eB ci)).setCell ⟨al,2,none⟩ (.slice (some ⟨cH,t+1,none⟩) li (ci-(t+1)))).drew-> ∃l3 r3,Hid (Kr A W (FB F bl) U al t n2 (.slice (some ⟨aq,0,none⟩) t ai) (.slice (some ⟨am,0,none⟩) t aj) l3 (.slice (some ⟨aq,t+1,none⟩) bN (ai-(t+1))) (.slice (some ⟨am,t+1,none⟩) bN (aj-(t+1))) r3)):=Zh λW ij=>by
            subst ij;have aa:=cj.out;refine⟨.slice (some ⟨cH,0,none⟩) eB ci, .slice (some ⟨cH,t+1,none⟩) li (ci-(t+1)),Zh ⟨((aa.low.setCell (p:=⟨U,2,none⟩) aa.g18 _).setCell (p:=⟨al,2,none⟩) aa.g19 _).drew,BG ((aa.QT.set 2 _).other (p:=⟨al,2,none⟩) aa.ne _),BG ((aa.KA.other (p:=⟨U,2,none⟩) (Ne.symm aa.ne) _).set 2 _),aa.g18,aa.g19,aa.ne, ?_, ?_⟩⟩
            . obtain⟨⟨u1,c1,u2,c2,u3,c3,e,k1,k2,c8⟩,m1,m2,m3⟩:=aa.vl
              refine⟨⟨u1,c1,u2,c2,some ⟨cH,0,none⟩,ci, ?_,k1,k2,fe.takeN (t+1)⟩,m1,m2,by show(n2.kids.take (t+1)).length<=_;omega⟩;have dr:(n2.kids.take (t+1)).length=eB:=(by rw [dJ,ff]);simp only [Value.agg.injEq] at e ⊢;simp only [dr];simp at e ⊢;exact⟨e.1,e.2.1⟩
            . obtain⟨⟨u1,c1,u2,c2,u3,c3,e,k1,k2,c8⟩,m1,m2,m3⟩:=aa.vr
              refine⟨⟨u1,c1,u2,c2,some ⟨cH,t+1,none⟩,ci-(t+1), ?_,k1,k2,by have ik:=fe.drop (t+1);rwa [Nat.zero_add] at ik⟩,m1,m2,by show(n2.kids.drop (t+1)).length<=_;omega⟩;simp only [Value.agg.injEq] at e ⊢;simp only [dK];simp at e ⊢;exact⟨e.1,e.2.1⟩
           have gB:=cj.QT.at' (i:=2) rfl;have gC:=cj.KA.at' (i:=2) rfl;have f18:=cj.QT.free 2;have f19:=cj.KA.free 2;have bg:=cj.ne;have cf:=(λX:Au (λz=>z=U) wc=>X.cell aR (show¬b13=U by have:=cj.g18;have:=ag.lt;omega));have cg:=(λX:Au (λz=>z=U) wc=>X.cell eA (show¬b6=U by have:=cj.g18;have:=ae.lt;omega));clear ah dc ib ic gz fe gA dJ dK ia ie ff;go_upto_region 17 with (fail);refine AD (λw' => ∃X:Au (λz=>z=U) wc,w' =X.W) [14,15] (.r 0<| .r 1<| .r 2<| .r 3<| .r 4<| .r 5<| .r 6<| .r 7<| .r 8<| .r 9<| .r 10<| .r 11<| .r 12<| .a 13<| .a 14<| .a 15<| .nil) (Ay _ _) ?_
           iterate 13 (refine AB ?_;go_simp)
           clear cf cg ig ii;refine Ao _ rfl (λK bM=> ?_);go_wp2;refine bM _ _ (Cl (Bi (B:=λz=>z=U) (p:=⟨U,2,none⟩) (Af (Below.refl _ _)) rfl _) (Ac _)) ?_;clear bM K;refine AA _ rfl (by decide) (λK bM=> ?_);go_wp2;refine bM _ _ ?_;clear bM K;refine AA _ rfl (by decide) (λK bM=> ?_);go_wp2;refine bM _ _ (AF ?_);clear bM K;go_wp2_with fail;go_meet
           case rel=>exact eb.out _ rfl
        case rest=>
         obtain⟨l3,r3,b8⟩:=hcut;obtain⟨⟨jh,c1,a2,c2,dM,dt,er,im,io,eC⟩,gD⟩:=b8.vr;obtain⟨bR,dN⟩:=Zx (n2.kids.drop (t+1));dsimp only at er eC gD;rw [<-dN] at er eC;have ip:r3= .slice dM bR.length dt:=by
          simp only [Value.agg.injEq] at er;simp at er;exact er.2.2
         subst ip;have ji:bR.length<=33:=(by rw [dN,List.length_drop];have:=d7.2.2;omega);have iq:Hid (∀j (cn:j<bR.length),bR[j]<18446744073709551616):=Zh λj cn=>by
          have aa:bR[j]∈n2.kids.drop (t+1):=(by rw [<-dN];exact List.getElem_mem cn);exact cO.kids _ (List.mem_of_mem_drop aa)
         have ir:Hid (∀W,Below A.heap.size A W-> ∀y,y<18446744073709551616->Calls prog 49 #[.agg #[.pointer (some ⟨s,0,none⟩), .int .i64 t], .int .u64 (y:Nat)] W λe w' =>e= .returned (.int .i64 (Cq R2 t y))/\Below W.heap.size W w'):=Zh λW aI y bB=>by
          exact Ygd
         have iu:Hid (∀y,(Ag R2 t y).size<18446744073709551616):=Zh λy=>by
          exact Ydm
         obtain⟨S,ec⟩: ∃S:Nat->Nat,S=λj=>DM R2 t (bR.take j) bN:=⟨_,rfl⟩
         have iv:Hid (S 0=bN):=Zh (by rw [ec];rfl);have iw:Hid (∀j (cn:j<bR.length),IntKind.u64.wrap ((S j:Int)+IntKind.u64.wrap (Cq R2 t bR[j]))=(S (j+1):Int)):=Zh λj cn=>by
          rw [Wy R2 t _ _ (iu.out _),ec]
          show _=((DM R2 t (bR.take (j+1)) bN:Nat):Int)
          rw [NZ R2 t bR bN j cn]
         have ix:Hid (∀j,S j<18446744073709551616):=(Zh λj=>by rw [ec];exact SM R2 t _ _ (by omega));have iy:Hid (S bR.length=(Ee R2 t n2.more).size):=Zh (by
          rw [ec]
          show DM R2 t (bR.take bR.length) bN=DM R2 t (n2.kids.drop (t+1)) (n2.keys.length-(t+1))
          rw [List.take_length,hY.out,dN])
         have jj:IntKind.u64.wrap (bN:Int)=(bN:Int):=(by rw [IL];unfold NW;omega);have c0:=b8.KA.at' (i:=0) rfl;have c2:=b8.KA.at' (i:=2) rfl;have c3:=b8.KA.at' (i:=3) rfl;have f3:=b8.KA.free 3;have gE:Hid (Lp A (wc.setCell ⟨al,3,none⟩ (.int .u64 bN)) U al (.slice (some ⟨aq,0,none⟩) t ai) (.slice (some ⟨am,0,none⟩) t aj) l3 (.slice (some ⟨aq,t+1,none⟩) bN (ai-(t+1))) (.slice (some ⟨am,t+1,none⟩) bN (aj-(t+1))) (.slice dM bR.length dt) (S 0)):=Zh ⟨b8.low.setCell (p:=⟨al,3,none⟩) b8.g19 _,b8.QT.other (p:=⟨al,3,none⟩) b8.ne _,by rw [iv.out];exact b8.KA.set 3 _⟩;have iz:=Zh eC;have iA:=Zh b8.vl;have iB:=Zh b8.vr;have hg:=Zh (And.intro b8.g18 (And.intro b8.g19 b8.ne));have jk:=Zh dN;clear er im io eC gD ec b8 cj dN aR eA dc;go_wp2
         go_loopw [172] (λfg wr=> ∃j:Nat,j<=bR.length/\fg= .int .i64 j/\Hid (Lp A wr U al (.slice (some ⟨aq,0,none⟩) t ai) (.slice (some ⟨am,0,none⟩) t aj) l3 (.slice (some ⟨aq,t+1,none⟩) bN (ai-(t+1))) (.slice (some ⟨am,t+1,none⟩) bN (aj-(t+1))) (.slice dM bR.length dt) (S j))) (λfg _=>bR.length-(intOf fg).toNat)
         case atStart=>exact⟨0,Nat.zero_le _,rfl,gE |> Zh⟩
         case round=>
          clear c0 c2 c3 f3 gE;obtain⟨j,cn,rfl,bT⟩:=hrel;by_cases eD:j<bR.length
          ·
           as_aux_lemma=>
           obtain⟨dE,dF,iC,hv,fO,dZ⟩:=iz.Nv eD;have iD:=dZ wr bT.low;have gF:=iq.out j eD;have gG:=iw.out j eD;obtain⟨y,bB⟩: ∃y,bR[j]=y:=⟨_,rfl⟩;rw [bB] at iD gF gG;obtain⟨jl,fh⟩:=Zx (Cq R2 t y);rw [<-fh] at gG;have fi:=Zh (ir wr.drew (bT.low.trans ((Ac wr).mono bT.low.size)) y gF);rw [<-fh] at fi;subst iC;have cf:=(λX:Au (λ_=>False) wr=>X.cell (bT.KA.at' (i:=3) rfl) (λh=>h));have cg:=(λX:Au (λ_=>False) wr=>X.cell ((ae.below bT.low).at' (i:=0) rfl) (λh=>h));have cu:=(λX:Au (λ_=>False) wr=>X.cell ((ae.below bT.low).at' (i:=1) rfl) (λh=>h));have jm:(j:Int)<40:=(by omega);have gH:Hid (∀a8,Below wr.drew.heap.size wr.drew a8->Lp A (a8.setCell ⟨al,3,none⟩ (.int .u64 (S (j+1):Nat))) U al (.slice (some ⟨aq,0,none⟩) t ai) (.slice (some ⟨am,0,none⟩) t aj) l3 (.slice (some ⟨aq,t+1,none⟩) bN (ai-(t+1))) (.slice (some ⟨am,t+1,none⟩) bN (aj-(t+1))) (.slice (some ⟨dE,dF,none⟩) bR.length dt) (S (j+1))):=Zh λa8 a6=>by
            have aa:=Yof;exact⟨(bT.low.trans (aa.mono bT.low.size)).setCell (p:=⟨al,3,none⟩) hg.2.1 _,(bT.QT.below aa).other (p:=⟨al,3,none⟩) hg.2.2 _,(bT.KA.below aa).set 3 _⟩
           have iE:=Zh bT.KA;clear dZ bB fh bT;go_upto_region 22 with (fail);refine AD (λw' => ∃X:Au (λ_=>False) wr,w' =X.W) [6,7,8] (.r 0<| .r 1<| .r 2<| .r 3<| .a 4<| .r 5<| .a 6<| .a 7<| .a 8<| .nil) (Ay _ _) ?_
           iterate 4 (refine AB ?_;go_simp)
           clear cg cu cf;refine Ao _ rfl (λK bM=> ?_);go_wp2_with fail;refine fi.mono ?_;rintro e a8 ⟨rfl,a6⟩;have fj:=Yof;have bI:=Zh (gH a8 a6);have cG:=iE.below fj;have c3:=cG.at' (i:=3) rfl;have f3:=cG.free 3;have hex:=Af (B:=λ_=>False) fj;clear a6 gH fj cG fi;go_wp2;refine bM _ _ hex ?_;clear bM K hex;refine AB ?_;go_simp;refine AA _ rfl (by decide) (λK bM=> ?_);go_wp2;refine bM _ _ ?_;clear bM K;refine AA _ rfl (by decide) (λK bM=> ?_);go_wp2;refine bM _ _ ?_;clear bM K;refine AA _ rfl (by decide) (λK bM=> ?_);go_wp2;refine bM _ _ (AF ?_);clear bM K;exact Yey
          ·
           as_aux_lemma=>
           obtain rfl:j=bR.length:=by omega
           clear cn eD;obtain⟨rs,eE⟩:=Zx (S bR.length);have gI:rs<18446744073709551616:=(by rw [eE];exact ix.out _);rw [<-eE] at bT;obtain⟨jn,iF,jo,gJ⟩:=TR cM rs hO gI;obtain⟨ls,ed⟩:=Zx ((cM+36893488147419103232-rs-1)%18446744073709551616);rw [<-ed] at gJ;have gK:Ee R2 t n2.more=⟨n2.keys.drop (t+1),n2.Ab.drop (t+1),n2.kids.drop (t+1),rs⟩:=by
            rw [show Ee R2 t n2.more=⟨n2.keys.drop (t+1),n2.Ab.drop (t+1),n2.kids.drop (t+1),(Ee R2 t n2.more).size⟩ from rfl,<-iy.out,<-eE]
           have gL:leftOf t n2.more rs=⟨n2.keys.take t,n2.Ab.take t,n2.kids.take (t+1),ls⟩:=(by rw [ed,go.out];rfl);have gM:ls<18446744073709551616:=(by rw [ed];exact Nat.mod_lt _ (by decide));have iG:Hid (D=(B7.proj R2 t x di n2 ls rs)):=Zh (by
            rw [gn.out];unfold B7;rw [if_neg (by exact gp)];dsimp only;rw [gK,show(BN.mk (n2.keys.drop (t+1)) (n2.Ab.drop (t+1)) (n2.kids.drop (t+1)) rs).size=rs from rfl,gL];rfl)
           have iH:Hid (Lp A wr U al (.slice (some ⟨aq,0,none⟩) t ai) (.slice (some ⟨am,0,none⟩) t aj) l3 (.slice (some ⟨aq,t+1,none⟩) bN (ai-(t+1))) (.slice (some ⟨am,t+1,none⟩) bN (aj-(t+1))) (.slice dM bR.length dt) rs):=bT;obtain⟨eF,ee⟩:=Zx (wr.setCell ⟨U,3,none⟩ (.int .u64 ls));have a5:Below A.heap.size A eF:=(by rw [ee];exact bT.low.setCell (p:=⟨U,3,none⟩) hg.1 _);have aZ:An eF U 100 [.slice (some ⟨aq,0,none⟩) t ai, .slice (some ⟨am,0,none⟩) t aj,l3, .int .u64 ls]:=(by rw [ee];exact bT.QT.set 3 _);have aG:An eF al 100 [.slice (some ⟨aq,t+1,none⟩) bN (ai-(t+1)), .slice (some ⟨am,t+1,none⟩) bN (aj-(t+1)), .slice dM bR.length dt, .int .u64 rs]:=(by rw [ee];exact bT.KA.other (p:=⟨U,3,none⟩) (Ne.symm hg.2.2) _);have fk:=bk.low (a5.mono cW.2.2.1);have gN:CX eF F (.agg #[.slice (some ⟨aq,0,none⟩) t ai, .slice (some ⟨am,0,none⟩) t aj,l3, .int .u64 ls]) ⟨n2.keys.take t,n2.Ab.take t,n2.kids.take (t+1),ls⟩:=((iA.Ar (Ad.below (F:=FB F bl) a5)).less λz bO=> .inl bO).sized;have gO:(BN.mk (n2.keys.take t) (n2.Ab.take t) (n2.kids.take (t+1)) ls).Ok:=⟨λz bO=>cO.keys z (List.mem_of_mem_take bO),λz bO=>cO.Ab z (List.mem_of_mem_take bO),λz bO=>cO.kids z (List.mem_of_mem_take bO),gM⟩;have d8:=Zh (F8 fk.str t aN x hx gN gO);have gP:=Zh fk;have iI:=Zh (And.intro gM gI);have gB:=bT.QT.free 3;have iJ:=bT.QT.at' (i:=3) rfl;have gC:=bT.KA.at' (i:=3) rfl;have iK:=(ag.below bT.low).at' (i:=3) rfl;obtain⟨iL,iM,dd⟩:=Wd;have iN:=Zh ee;have jp:=Zh ed;clear gK gL eE bT iH gN gO fk aZ aG a5 ee ed;go_upto_region 25 with (fail);rw [<-iN.out];clear gB iJ gC iK iF gJ;obtain⟨ez,q1,aR,aP⟩:=C5 iL.out;obtain⟨ck,cl⟩:=A2 (ae.below dd);go_wp2_with fail;refine d8.mono ?_;unfold Kk;rintro e bZ ⟨rfl,gQ,cR⟩;have gR:=gP.Ar gQ cR (Cr aN gP.sh);have fm:=(e5.low (dd.mono e5.size)).trans cR.fb;have gS:M<=bZ.heap.size:=Nat.le_trans aU fm.size;have ef: ∀{z},¬FB F bl z-> ¬F z:=(λh iO=>h (.inl iO));have dO: ¬FB F bl al:=(λaa=>by have:=cp.fb al aa;have:=hg.2.1;have:=cW.2.2.1;omega);have eg:=iM.Ar cR (ef dO);have fn:=(ag.below dd).Ar cR (ef cv.1);have gT:=(ae.below dd).Ar cR (ef cv.2.1);have gU:=(aK.below dd).Ar cR (ef cv.2.2);have fo:t<n2.keys.length:=(by omega);have fp:t<n2.Ab.length:=(by omega);obtain⟨jq,ok,iP,iQ,gV,gW⟩:=((gx.1.Ar (Ad.below (F:=FB F bl) dd)).Ar cR.fb).Nv fo
           cases iP
           obtain⟨bv,jr,iR,iS,gX,gY⟩:=((gx.2.Ar (Ad.below (F:=FB F bl) dd)).Ar cR.fb).Nv fp
           cases iR
           have eG:=gW bZ (Below.refl _ _);have eH:=gY bZ (Below.refl _ _);rw [Nat.zero_add] at eG eH;have eI:=cO.keys _ (List.getElem_mem fo);have eJ:=cO.Ab _ (List.getElem_mem fp);have fq:n2.keys.getD t 0=n2.keys[t]:=(by simp [fo]);have fs:n2.Ab.getD t 0=n2.Ab[t]:=(by simp [fp]);obtain⟨eh,ft⟩: ∃z,n2.keys[t]=z:=⟨_,rfl⟩;obtain⟨va,fu⟩: ∃z,n2.Ab[t]=z:=⟨_,rfl⟩;have eI:eh<18446744073709551616:=(by rw [<-ft];exact eI);have eJ:va<18446744073709551616:=(by rw [<-fu];exact eJ);rw [ft] at eG fq;rw [fu] at eH fs;obtain⟨p,hp⟩:=Zx (DG (Bq R2 t x ⟨n2.keys.take t,n2.Ab.take t,n2.kids.take (t+1),ls⟩) t di.reverse ⟨n2.keys.drop (t+1),n2.Ab.drop (t+1),n2.kids.drop (t+1),rs⟩);have iT:Hid (D=(p.1,p.2.1,some (eh,va,p.2.2))):=Zh (by rw [iG.out,hp,<-fq,<-fs];rfl);have de:=gR.low ((Ac bZ).mono gS);obtain⟨vt,iU,gZ⟩:=de.tk;have g0:CX bZ.drew (FB F bl) (.agg #[.slice (some ⟨aq,t+1,none⟩) bN (ai-(t+1)), .slice (some ⟨am,t+1,none⟩) bN (aj-(t+1)), .slice dM bR.length dt, .int .u64 rs]) ⟨n2.keys.drop (t+1),n2.Ab.drop (t+1),n2.kids.drop (t+1),rs⟩:=(((iB.Ar (Ad.below (F:=FB F bl) dd)).Ar cR.fb).Ar (Ad.below (F:=FB F bl) (Ac bZ))).sized;have g3:(BN.mk (n2.keys.drop (t+1)) (n2.Ab.drop (t+1)) (n2.kids.drop (t+1)) rs).Ok:=⟨λz bO=>cO.keys z (List.mem_of_mem_drop bO),λz bO=>cO.Ab z (List.mem_of_mem_drop bO),λz bO=>cO.kids z (List.mem_of_mem_drop bO),iI.2⟩;have fv:=J1 de.str aN gZ de.hN de.J5 de.QS de.len g0 g3;rw [<-hp,iU] at fv;have g4:=Zh fv;have iV:=Zh de;have iW:=Zh hp;have g5:=Zh (And.intro eI eJ);have cf:=(λX:Au (FB F bl) bZ=>X.cell (fn.at' (i:=0) rfl) cv.1);have cg:=(λX:Au (FB F bl) bZ=>X.cell (fn.at' (i:=1) rfl) cv.1);have cu:=(λX:Au (FB F bl) bZ=>X.cell (gT.at' (i:=1) rfl) cv.2.1);have dk:=(λX:Au (FB F bl) bZ=>X.cell eG gV);have eV:=(λX:Au (FB F bl) bZ=>X.cell eH gX);have x6:=(λX:Au (FB F bl) bZ=>X.cell (eg.at' (i:=0) rfl) dO);have x7:=(λX:Au (FB F bl) bZ=>X.cell (eg.at' (i:=1) rfl) dO);have iX:=(λX:Au (FB F bl) bZ=>X.cell (eg.at' (i:=2) rfl) dO);have el:=(λX:Au (FB F bl) bZ=>X.cell (eg.at' (i:=3) rfl) dO);have du:=Zh (BG gU);have iY:=Zh (fm.trans (Ad.below (Ac bZ)));clear gR fm gS ef dO eg fn gT gU gW gY eG eH ft fu fq fs hp g0 g3 fv de gZ gQ cR eI eJ ez q1 aR aP ck cl d8 iQ iS gV gX;go_upto_region 26 with (fail);refine AD (λw' => ∃X:Au (FB F bl) bZ,w' =X.W) [16,17] (.r 0<| .r 1<| .r 2<| .r 3<| .r 4<| .r 5<| .r 6<| .r 7<| .r 8<| .r 9<| .r 10<| .r 11<| .r 12<| .r 13<| .r 14<| .a 15<| .a 16<| .a 17<| .nil) (Ay _ _) ?_
           iterate 15 (refine AB ?_;go_simp)
           clear cf cg cu dk eV x6 x7 iX el;refine Ao _ rfl (λK bM=> ?_);go_wp2_with fail;refine g4.mono ?_;rintro e iZ ⟨v',st',g6,rfl,g7,g8,ei,g9⟩;have hb:=Zh (iY.trans ei);have hex:=F3 ((Ad.below (F:=FB F bl) (Ac bZ)).trans ei);have cd:=du.Ar ei cv.2.2;have hc:=Zh (iV.take aN.out iW g6 g7 g8 ei g9);obtain⟨hQ,e1,cK⟩:=p;dsimp only;have dv:=cd.free 0;have k1:=cd.free 1;have k2:=cd.free 2;have c8:=cd.free 3;obtain⟨dw,dx,dy,dz⟩:=C5 cd;have bo:=Zh ((((cd.set 0 (.bool true)).set 1 (.int .u64 eh)).set 2 (.int .u64 va)).set 3 (.int .u64 cK));clear ei g8 g9 cd g4 g7 g6;go_wp2;refine bM _ _ hex ?_;clear bM K hex;refine AA _ rfl (by decide) (λK bM=> ?_);go_wp2;refine bM _ _ ?_;clear bM K;refine AA _ rfl (by decide) (λK bM=> ?_);go_wp2;refine bM _ _ (AF ?_);clear bM K;go_wp2;obtain⟨e7,r1,r2,r3⟩:=C5 bo.out;refine bodyPost_ret (v:= .agg #[.bool true, .int .u64 eh, .int .u64 va, .int .u64 cK]) (by simp [results,f48,go_sem,e7,r1,r2,r3]) rfl ?_;rw [iT.out];have hf:=Bh (Bh (Bh (A3 iZ aO 0 (.bool true)) (A3 _ aO 1 (.int .u64 eh))) (A3 _ aO 2 (.int .u64 va))) (A3 _ aO 3 (.int .u64 cK));exact⟨rfl,hc.1.grow cW.1 (Nat.le_trans aU hb.size) hf,hb.grown cW.2.1 hf,λa b r h=>by cases h;exact⟨g5.1,g5.2,hc.2⟩⟩
  . rw [decide_eq_false he]
    have hj:D=(R,st.reverse,none):=(by rw [ek.out];exact Vv he);clear he;have v12:=z12.out;have dv:=v12.free 0;have k1:=v12.free 1;have k2:=v12.free 2;have c8:=v12.free 3;obtain⟨dw,dx,dy,dz⟩:=C5 v12;have bc:=Zh (O0 cp.out aU hj (GR af (show w.heap.size<=aO by have:=a0.2.2.2;omega) (.bool false) (.int .u64 0) (.int .u64 0) (.int .u64 0)));have bo:=Ynj;clear v12 hj;rw [cT.1] at dv k1 k2 c8 dw dx dy dz;go_wp2;rw [<-cT.1];exact Ybh
end
