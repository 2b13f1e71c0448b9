/- A part. -/
import Derived.Test.YtiopopoohglepaaGreatDoorPMy
import Derived.Deep.CutRange
set_option linter.all false
set_option maxRecDepth 100000
set_option maxHeartbeats 4000000
namespace Go.Proofs.YtiopopoohglepaaGreatDoor
open Go.Proofs.Tryz
open Go.RowKit Go.Shelf
variable {W W' w:World}{bl:Nat}
def VG(p:Nat × Nat):List Value:= [.int .u64 p.1, .int .u64 p.2]
theorem ZN{ops:Array Oper}{rest:List Oper}{o:Oper}{a:Act}{Q:Exit->Act->World->Prop}(I:o.guard=none)(s x:Operand)
 (J:o.op= .call { callee:= .builtin .append,args:= #[s,x],argTypes:= #[88,88] }) (w:World) (base:Nat) (v:Value) (xs:List (Nat × Nat)) (hs:a.eval s=v)
 (O:w.ownsRow base 31 2 v xs.length (EK xs)) (b:Nat) (y:Nat × Nat) (hx:a.eval x= .slice (some ⟨b,0,none⟩) 1 1) (U: ∀j u,(VG y)[j]? =some u->w.cell? ⟨b,j,none⟩=some u) (hlen:xs.length<=9000000) (V:base<=w.heap.size)
 (h: ∀v' w',w'.ownsRow base 31 2 v' (xs++ [y]).length (EK (xs++ [y]))->w.grownBy w' v.ownBlock->(v'.ownBlock=v.ownBlock\/v'.ownBlock=some w.heap.size)->wpList prog ops Q rest (a.put o.dst v') w'):
 wpList prog ops Q (o::rest) a w:=by
 obtain⟨i0,hi,Z,aa,ab⟩:=info_parts Tryz.NL;have ac: ∀j u,(VG y)[j]? =some u->w.cell? ((⟨b,0,none⟩:Addr).add j)=some u:=by
  intro j u hu;rw [show(⟨b,0,none⟩:Addr).add j=⟨b,j,none⟩ by unfold Addr.add;split<;>simp_all]
  exact U j u hu
 refine wpList_append_own_at w I s x 88 J base 31 i0 _ 2 16 Tryz.P8 hi Z aa ab rfl (by decide) v xs.length (EK xs) hs O ⟨b,0,none⟩ 1 1 (VG y) hx rfl ac (by simp [VG,Value.oneCell']) (by unfold maxLen;omega) (by omega) V ?_;intro v' w' h1 ae _ af;exact h v' w' (by rw [List.length_append,TV];exact h1) ae af
theorem Zd(W:World)(y:Nat × Nat)(b:Nat)(I:b=W.heap.size)(T:TypeId)(j:Nat)(u:Value)(h:(VG y)[j]? =some u):(W.alloc (.cells #[.int .u64 y.1, .int .u64 y.2] T)).cell? ⟨b,j,none⟩=some u:=by
 subst I;exact(An.new W T (VG y)).at' h
theorem Vs{r U :Option Nat}(I:Below w.heap.size w W)(h:Lw W W' r U bl): ∃X:Au (λb=>some b=r\/b=bl) w,W' =X.W:=
 ⟨⟨W',Nat.le_trans I.size h.size,λk J O=>(h.keep k (Nat.lt_of_lt_of_le J I.size) (λe=>O (.inl e)) (λe=>O (.inr e))).trans (I.block k J)⟩,rfl⟩
theorem Ui{r:Option Nat}(I:Below w.heap.size w W)(h:W.grownBy W' r): ∃X:Au (λb=>some b=r\/b=bl) w,W' =X.W:=
 ⟨⟨W',Nat.le_trans I.size h.size,λk J O=>(h.block k (Nat.lt_of_lt_of_le J I.size) (λe=>O (.inl e))).trans (I.block k J)⟩,rfl⟩
def JU(N:Nat)(w:World)(r:Option Nat)(bl:Nat)(o:List (Nat × Nat) × Nat)(e:Ending)(w' :World):Prop:=
 ∃v',e= .returned v' /\w'.ownsRow N 31 2 v' o.1.length (EK o.1)/\An w' bl 3 [.int .i64 o.2]/\Lw w w' r v'.ownBlock bl
section
variable {s N:Nat} {R:Zr} {nn:Nat}
def Yeq{P}(h:P:=by
 rcases ab.2 with ⟨h1,af⟩|⟨g,cap,cur,h1,_⟩
 . exact⟨none,0,by rw [h1,af]⟩
 . exact⟨_,_,h1⟩):=h
theorem Uj(t:Nat)(al:BN.A0 t): ∀(f:Nat),f<=40-> ∀(w:World) (h:Rd N w s R nn) (hN:N<=w.heap.size) (x:Nat) (hx:x<18446744073709551616) (out:List (Nat × Nat)) (left bl:Nat) (v:Value) (ab:w.ownsRow N 31 2 v out.length (EK out)) (V:An w bl 3 [.int .i64 left]) (bs:N<=bl) (bu:v.ownBlock≠some bl) (cj:out.length+33*left<=8650785),
 Calls prog 77 #[.agg #[.pointer (some ⟨s,0,none⟩), .int .i64 t],v, .int .u64 x, .pointer (some ⟨bl,0,none⟩), .int .i64 ((40-f:Nat):Int)] w (JU N w v.ownBlock bl (AO R t f (out,left) x)):=by
 intro f
 induction f with
 |zero=>
  intro _ w h hN x hx out left bl v ab V bs bu cj;obtain⟨A,c,bL⟩: ∃A c,v= .slice A out.length c:=by
   exact Yeq
  subst bL;have J:=XP;have bM:=ZE;obtain⟨aq,aT,bw⟩:=EA;have d40:((40-0:Nat):Int)=40:=rfl;rw [d40];clear d40 h J ab V;go_enter func77,ntmps77;go_wp2_with fail;refine bM.mono ?_;rintro e w2 ⟨v1,v2,v3,rfl,Z,ay⟩;obtain⟨aA,q1,rfl⟩:=Ae Z.r1;obtain⟨aD,aw,rfl⟩:=Ae Z.r2;obtain⟨ax,au,rfl⟩:=Ae Z.r3;obtain⟨az,aa⟩:=Ykj;have ae:Hid (JU N w (Value.slice A out.length c).ownBlock bl (out,left) (.returned (.slice A out.length c)) (w2.alloc (Obj.cells #[Value.slice aA (Af R t x).keys.length q1,Value.slice aD (Af R t x).Ab.length aw,Value.slice ax (Af R t x).kids.length au,Value.int IntKind.u64 ((Af R t x).size:Nat)] 100))):=Zh ⟨_,rfl,B6 aT aa,bw.below aa,Lw.below aa _ _⟩;have ah:Hid (AO R t 0 (out,left) x=(out,left)):=Zh (by unfold AO;rfl);exact Ybj
 |succ f ih=>
  intro dn w h hN x hx out left bl v ab V bs bu cj;obtain⟨A,c,bL⟩: ∃A c,v= .slice A out.length c:=by
   exact Yeq
  subst bL;have cO:Hid (∀(o:List (Nat × Nat) × Nat) (y:Nat),(AO R t f o y).1.length+33*(AO R t f o y).2<=o.1.length+33*o.2):=Zh (I5 (λy aP=>by
   have:=(BR h al aP).1.1;have:=al.2;omega) f)
  obtain⟨i0,hi,dp,dq,dr⟩:=info_parts Tryz.NL;obtain⟨O,U⟩:=Zx (w.alloc (Obj.cells #[.pointer (some ⟨s,0,none⟩), .int .i64 t] 96));have J:=EI;obtain⟨ag,ac⟩:=Zx w.heap.size;have am:=YF;have I:=DS (h.below J) t al x hx;obtain⟨d,hd⟩:=Zx (40-(f+1));have ds:d<40:=by omega
  rw [<-hd];obtain⟨aq,bz⟩:=K7;obtain⟨aE,bM,ck⟩:=Rf;have aT:=Zh ab;have bw:=Zh V;have cl:=Zh bu;have cP:=Zh hd;have cQ:=Zh ih;have g5:w.heap.size<=ag:=by omega
  have cn:Hid (AO R t (f+1) (out,left) x=if Bk R t x≠0\/left=0 then (out,left) else AO.lsFrom (Af R t x) (AO R t f) (Af R t x).keys.length 0 (out,left-1)):=Zh (by conv=>lhs;unfold AO)
  clear U ac am I h ab J hd ih V bu;go_enter func77,ntmps77;have d40:((d:Int)==40)=false:=by simp;omega
  obtain⟨a7,a8⟩:=AX aE.out;rw [bz.1,bz.2] at a7 a8;go_wp2_with fail;rw [<-bz.1,<-bz.2];refine bM.mono ?_;rintro e w2 ⟨v1,v2,v3,rfl,Z,ay⟩;obtain⟨aA,q1,rfl⟩:=Ae Z.r1;obtain⟨aD,aw,rfl⟩:=Ae Z.r2;obtain⟨ax,au,rfl⟩:=Ae Z.r3;obtain⟨n,aj⟩:=Zx (Af R t x);rw [<-aj] at Z;rw [<-aj];obtain⟨ai,an⟩:=Zx (w2.alloc (Obj.cells #[.slice aA n.keys.length q1, .slice aD n.Ab.length aw, .slice ax n.kids.length au, .int .u64 n.size] 100));obtain⟨ao,ar⟩:=Zx w2.heap.size;obtain⟨aF,aG⟩:=Yt;obtain⟨aU,bN,bi,a2⟩:=Yjv;obtain⟨co,cp⟩:=Oo;have cr:=Zh (B6 aT aU);have bj:=Zh (bw.below aU);have cR:=bj.at' (i:=0) rfl;have cT:=bj.free 0;have a3:=Yqc;have cs:Hid (Bk R t x≠0\/left=0->JU N w (Value.slice A out.length c).ownBlock bl (AO R t (f+1) (out,left) x) (.returned (.slice A out.length c)) ai):=Zh (λh=>by
   rw [cn.out,if_pos h];exact⟨_,rfl,cr,bj,Lw.below aU _ _⟩)
  clear aj ay aF Z an ar aG;go_upto_region 2 with fail;rw [<-co.1,<-co.2];by_cases he:Bk R t x=0
  . rw [decide_eq_true he]
    by_cases bA:left=0
    . subst bA
      go_wp2;go_ret;exact cs.out (.inr (by simp))
    . have dl:((left:Int)==0)=false:=by simp;omega
      have hw:=BR (ck.below aU) al he;rw [<-cp.out] at hw;obtain⟨bB,cU,cV,wc,dt⟩:=hw;have cu:n.kids.length=0\/n.kids.length=n.keys.length+1:=by
       rcases bB.2.2 with aJ|aJ
       . exact .inl (by rw [aJ];rfl)
       . exact .inr aJ.1
      have du:n.keys.length<=33:=(by have:=bB.1;have:=al.2;omega);have cW:Hid (n.Ab.length=n.keys.length):=Zh bB.2.1;have cv:=Zh wc;have cX:Hid (AO R t (f+1) (out,left) x=AO.lsFrom n (AO R t f) n.keys.length 0 (out,left-1)):=Zh (by rw [cn.out,if_neg (by rintro(aJ|aJ);exact aJ he;exact bA aJ),cp.out]);clear bB cU cV wc he;go_upto_region 5 with fail;obtain⟨bO,bf⟩:=Zx (ai.setCell ⟨bl,0,none⟩ (.int .i64 ((left:Int)-1)));rw [<-bf];have aB:An bO bl 3 [.int .i64 ((left-1:Nat):Int)]:=by
       rw [bf,show((left:Int)-1)=((left-1:Nat):Int) by omega];exact bj.set 0 _
      have aN:Lw ai bO (Value.slice A out.length c).ownBlock (Value.slice A out.length c).ownBlock bl:=(by rw [bf];exact Lw.set bl 0 _ _);have dv:bl<w.heap.size:=bw.lt;have aC:bO.ownsRow N 31 2 (.slice A out.length c) out.length (EK out):=Eo cr (λk aV=>by
       rw [bf];exact Below.heap_setCell _ ⟨bl,0,none⟩ _ k (λe=>cl (by rw [aV];exact congrArg some e)))
      have bC:=QG;have bP:=bi.other (p:=⟨bl,0,none⟩) (by show ao≠bl;omega) (.int .i64 ((left:Int)-1));rw [<-bf] at bP;have bk:=bP.at' (i:=0) rfl;clear bf aB aN aC bP cR cT;obtain⟨aW,bQ⟩:=Zx ((Value.slice A out.length c).ownBlock);rw [<-bQ] at bC;have aQ:=Zh bQ;clear bQ;rw [<-aQ.out];go_wp2
      go_loopw [1,41] (λv0 bR wr=> ∃(vv:Value) (j:Nat) (o:List (Nat × Nat) × Nat),vv=v0/\j<=n.keys.length/\bR= .int .i64 j/\o.1.length+33*o.2+(n.keys.length-j)<=8650785/\Hid (AO.lsFrom n (AO R t f) (n.keys.length-j) j o=AO R t (f+1) (out,left) x)/\Hid (wr.ownsRow N 31 2 vv o.1.length (EK o.1)/\An wr bl 3 [.int .i64 o.2]/\Lw ai wr aW vv.ownBlock bl)) (λ_ bR _=>n.keys.length-(intOf bR).toNat)
      case atStart=>exact⟨_,0,(out,left-1),rfl,Nat.zero_le _,rfl,by simp only;omega,Zh cX.symm,Zh ⟨bC.1,bC.2.1,by rw [<-aQ.out];exact bC.2.2⟩⟩
      case round=>
       obtain⟨vv,j,o,rfl,dw,rfl,cw,bg,aK⟩:=hrel;have bS:some ao≠aW:=λe=>by
        rw [aQ.out] at e;have:=Br aT ao e.symm;omega
       have bk:=aK.2.2.cell (bi.at' (i:=0) rfl) bS (by show ao≠bl;omega);have bD:=aK.2.2.cell (bi.at' (i:=1) rfl) bS (by show ao≠bl;omega);have bE:=aK.2.2.cell (bi.at' (i:=2) rfl) bS (by show ao≠bl;omega);have a4:ao<ai.heap.size:=bi.lt;have aL:Hid (∀k,w.heap.size<=k->k<ai.heap.size-> ¬(some k=vv.ownBlock\/k=bl)):=Zh (λk h1 af aO=>by
        rcases aO with aO|aO
        . rcases aK.2.2.row with aM|aM
          . rw [aM,aQ.out] at aO
            have:=Br aT k aO.symm;omega
          . have:=aM k aO.symm;omega
        . omega)
       have cx:some ag≠aW:=λe=>by
        rw [aQ.out] at e;have:=Br aT ag e.symm;omega
       have a7:=aK.2.2.cell (bN.at' (i:=0) rfl) cx (by show ag≠bl;omega);have a8:=aK.2.2.cell (bN.at' (i:=1) rfl) cx (by show ag≠bl;omega);have bF:ag<ai.heap.size:=bN.lt;have cY:=Zh ((ck.below aU).kb (KB.GN (aK.2.2.low (Nat.le_trans hN aU.size) (λk aV=>by rw [aQ.out] at aV;exact(BM aT.out aV).1) bs) (Nat.le_refl _)) λ_ aV=>aV);have cy:Hid (N<=wr.heap.size):=Zh (Nat.le_trans (Nat.le_trans hN aU.size) aK.2.2.size);have cz:Hid (vv.ownBlock≠some bl):=Zh (λe=>by
        rcases aK.2.2.row with aM|aM
        . rw [aM,aQ.out] at e;exact cl.out e
        . have:=aM bl e;have:=bj.lt;omega)
       have cB:Hid (∀(y:Nat),y<18446744073709551616-> ∀W,Below wr.heap.size wr W->Calls prog 77 #[.agg #[.pointer (some ⟨s,0,none⟩), .int .i64 t],vv, .int .u64 (y:Nat), .pointer (some ⟨bl,0,none⟩), .int .i64 ((d:Int)+1)] W (JU N W vv.ownBlock bl (AO R t f o y))):=Zh (λy aP W aX=>by
        have aJ:=cQ.out (by omega) W (cY.below aX) (Nat.le_trans cy aX.size) y aP o.1 o.2 bl vv (B6 aK.1 aX) (aK.2.1.below aX) bs cz (by omega);rw [show((40-f:Nat):Int)=(d:Int)+1 by rw [cP.out];omega] at aJ;exact aJ)
       by_cases bT:j<n.keys.length
       . have cC:j<n.Ab.length:=by rw [cW.out];exact bT
         obtain⟨bh,ok,cD,bU,cF⟩:=AK.num (F:=λ_=>False) (by obtain⟨bV,bW,a9,h1⟩:=A5 (F:=λ_=>False) a2.r1 (λ_ h=>h.elim);cases a9;exact h1) bT;obtain⟨bv,dx,cG,bX,cH⟩:=AK.num (F:=λ_=>False) (by obtain⟨bV,bW,a9,h1⟩:=A5 (F:=λ_=>False) a2.r2 (λ_ h=>h.elim);cases a9;exact h1) cC;have bG:w.heap.size<=bh:=Nat.le_trans aq.size (BM a2.r1 (by rw [cD];rfl)).1;have bH:w.heap.size<=bv:=Nat.le_trans aq.size (BM a2.r2 (by rw [cG];rfl)).1;have bY:=λb (aX:w.heap.size<=b)=>(show some b≠aW from λe=>by
          rw [aQ.out] at e;have:=Br aT b e.symm;omega)
         have bZ:=aK.2.2.cell (cF ai (Below.refl _ _)) (bY bh bG) (by show bh≠bl;omega);have b3:=aK.2.2.cell (cH ai (Below.refl _ _)) (bY bv bH) (by show bv≠bl;omega);obtain⟨aY,b4⟩: ∃y,n.keys[j]=y:=⟨_,rfl⟩;obtain⟨aZ,b5⟩: ∃y,n.Ab[j]=y:=⟨_,rfl⟩;rw [b4] at bZ;rw [b5] at b3;subst cD;subst cG;have cZ:Hid (∀aH :List (Nat × Nat) × Nat,aH =(if n.kids= [] then o else AO R t f o (n.kids.getD j 0))->AO.lsFrom n (AO R t f) (n.keys.length-(j+1)) (j+1) (aH.1++ [(aY,aZ)],aH.2)=AO R t (f+1) (out,left) x):=Zh (λaH b8 =>by
          rw [<-bg.out,show n.keys.length-j=(n.keys.length-(j+1))+1 by omega]
          conv=>rhs;unfold AO.lsFrom;unfold AO.lsStep
          rw [<-b8,show n.keys.getD j 0=aY by rw [<-b4];simp [bT],show n.Ab.getD j 0=aZ by rw [<-b5];simp [cC]])
         have c8:=Zh bZ;have c9:=Zh b3;have a0:=Zh aK.out;clear cF cH b4 b5 bZ b3 bg aK bY;go_upto_if 47 with fail;go_cut [1] from 44 to 73 (λv0 wc=> ∃(v1:Value) (aH :List (Nat × Nat) × Nat),v1=v0/\Hid (aH =if n.kids= [] then o else AO R t f o (n.kids.getD j 0))/\aH.1.length+33*aH.2+(n.keys.length-j)<=8650785/\Hid (wc.ownsRow N 31 2 v1 aH.1.length (EK aH.1)/\An wc bl 3 [.int .i64 (aH.2:Nat)]/\Lw wr wc vv.ownBlock v1.ownBlock bl))
         case first=>
          by_cases aR:n.kids= []
          . have bA:n.kids.length=0:=by rw [aR];rfl
            have b9:=Zh (show o=if n.kids= [] then o else AO R t f o (n.kids.getD j 0) from(if_pos aR).symm);clear aR;go_wp2;go_meet
            case rel=>exact⟨_,o,rfl,b9,cw,Zh ⟨a0.1,a0.2.1,Lw.below (Below.refl _ _) _ _⟩⟩
          . have ba:j<n.kids.length:=by
             rcases cu with aJ|aJ
             . exact absurd (List.length_eq_zero_iff.1 aJ) aR
             . omega
            obtain⟨a1,da,bm,cb,bo⟩:=AK.num (F:=λ_=>False) (by obtain⟨bV,bW,a9,h1⟩:=A5 (F:=λ_=>False) a2.r3 (λ_ h=>h.elim);cases a9;exact h1) ba;have gc:w.heap.size<=a1:=Nat.le_trans aq.size (BM a2.r3 (by rw [bm];rfl)).1;have bb:=a0.2.2.cell (bo ai (Below.refl _ _)) (λe=>by rw [aQ.out] at e;have:=Br aT a1 e.symm;omega) (by show a1≠bl;omega);obtain⟨y,aP⟩: ∃y,n.kids[j]=y:=⟨_,rfl⟩;rw [aP] at bb;have bc:=cv.out (j) ba;rw [aP] at bc;subst bm;have cc:=Zh (λW aX=>cB y bc W aX);have cd:=(λX:Au (λb=>some b=vv.ownBlock\/b=bl) wr=>X.cell a7 (aL ag g5 bF));have ce:=(λX:Au (λb=>some b=vv.ownBlock\/b=bl) wr=>X.cell a8 (aL ag g5 bF));have cf:=(λX:Au (λb=>some b=vv.ownBlock\/b=bl) wr=>X.cell bE (aL ao a3 a4));have cg:=(λX:Au (λb=>some b=vv.ownBlock\/b=bl) wr=>X.cell bb (aL a1 gc cb));have ci:=Zh aP;clear bo aP bc bb;have b9:=Zh (show AO R t f o y=if n.kids= [] then o else AO R t f o (n.kids.getD j 0) from by rw [if_neg aR,show n.kids.getD j 0=y by rw [<-ci.out];simp [ba]]);have dy:=cO.out o y;generalize AO R t f o y=cI at*;clear aR a7 a8 bk bD bE;go_wp2;refine As (λw' => ∃X:Au (λb=>some b=vv.ownBlock\/b=bl) wr,w' =X.W) [.r 0, .r 1, .r 2, .r 3, .r 4, .r 5, .r 6, .r 7, .r 8, .r 9, .a 10, .r 11] (Ay _ _) ?_
            iterate 10 (refine AH ?_;go_simp)
            clear cd ce cf cg;refine AI _ rfl (λbp a5=> ?_);go_wp2_with fail;refine(cc _ (Ac wr)).mono ?_;rintro e cJ ⟨v5,rfl,bq,br,bd⟩;have bI:=Zh (And.intro bq (And.intro br ((Lw.below (Ac wr) vv.ownBlock bl).trans bd)));have a6:=Vs (Ac wr) bd;clear bq br bd;go_wp2;refine a5 _ _ a6 ?_;clear a5 bp a6;refine AH ?_;go_simp;refine AP ?_;go_wp2;go_meet
            case rel=>exact⟨_,_,rfl,b9,by omega,bI⟩
         case rest=>
          obtain⟨v1,aH,rfl,b8,db,aS⟩:=hcut;have bJ:Hid (∀k,w.heap.size<=k->k<ai.heap.size-> ¬(some k=v1.ownBlock\/k=bl)):=Zh (λk h1 af aO=>by
           rcases aO with aO|aO
           . rcases aS.2.2.row with aM|aM
             . rw [aM] at aO;exact aL.out k h1 af (.inl aO)
             . have:=aM k aO.symm;have:=a0.2.2.size;omega
           . exact aL.out k h1 af (.inr aO))
          have q1:=(λX:Au (λb=>some b=v1.ownBlock\/b=bl) wc=>X.cell (aS.2.2.cell bk (λe=>aL ao a3 a4 (.inl e)) (λe=>aL ao a3 a4 (.inr e))) (bJ ao a3 a4));have aw:=(λX:Au (λb=>some b=v1.ownBlock\/b=bl) wc=>X.cell (aS.2.2.cell bD (λe=>aL ao a3 a4 (.inl e)) (λe=>aL ao a3 a4 (.inr e))) (bJ ao a3 a4));have au:=(λX:Au (λb=>some b=v1.ownBlock\/b=bl) wc=>X.cell (aS.2.2.cell c8 (λe=>aL bh bG bU (.inl e)) (λe=>aL bh bG bU (.inr e))) (bJ bh bG bU));have dc:=(λX:Au (λb=>some b=v1.ownBlock\/b=bl) wc=>X.cell (aS.2.2.cell c9 (λe=>aL bv bH bX (.inl e)) (λe=>aL bv bH bX (.inr e))) (bJ bv bH bX));clear a7 a8 bk bD bE;obtain⟨lo,cK⟩:=Zx aH.1.length;have dd:lo<=9000000:=(by omega);have de:N<=wc.heap.size:=Nat.le_trans cy aS.2.2.size;have df:Hid ((aH.1++ [(aY,aZ)]).length+33*aH.2+(n.keys.length-(j+1))<=8650785):=Zh (by rw [List.length_append,List.length_singleton];omega);have dg:=Zh cK;have be:Hid (Below wc.heap.size wc (wc.alloc (Obj.cells #[.int .u64 aY, .int .u64 aZ] 31)).drew):=Zh (((Below.refl _ wc).alloc (Nat.le_refl _) _).trans ((Ac _).mono (by simp)));have dh:=Zh (B6 aS.1 be);clear db cw cK;go_wp2;refine As (λw' => ∃X:Au (λb=>some b=v1.ownBlock\/b=bl) wc,w' =X.W) [.r 0, .r 1, .r 2, .r 3, .r 4, .r 5, .r 6, .r 7, .r 8, .r 9, .r 10, .r 11, .a 12, .a 13, .r 14] (Ay _ _) ?_
          iterate 12 (refine AH ?_;go_simp)
          clear q1 aw au dc;refine AI _ rfl (λbp a5=> ?_);go_wp2;refine a5 _ _ (Ag be) ?_;clear a5 bp;refine AI _ rfl (λdi cL=> ?_);refine ZN rfl _ _ rfl _ N v1 aH.1 rfl dh wc.heap.size (aY,aZ) rfl (λj u h=>Zd wc (aY,aZ) _ rfl 31 j u h) (by rw [<-dg.out];exact dd) (Nat.le_trans de be.size) ?_;intro v' w4 cM bK cN;have dj:Hid (v1.ownBlock≠some bl):=Zh (λe=>by
           rcases aS.2.2.row with aM|aM
           . rw [aM] at e;exact cz.out e
           . have:=aM bl e;have:=a0.2.1.lt;omega)
          have a6:=Ui (bl:=bl) be bK
          have ae:=Zh (show w4.ownsRow N 31 2 v' (aH.1++ [(aY,aZ)]).length (EK (aH.1++ [(aY,aZ)]))/\An w4 bl 3 [.int .i64 (aH.2:Nat)]/\Lw ai w4 aW v'.ownBlock bl from
           have h1:=Lw.below be v1.ownBlock bl;have af:=h1.trans (Lw.rw (show Rw _ w4 v1.ownBlock v'.ownBlock from⟨bK,cN.imp id (λh k aV=>by rw [h] at aV;cases aV;exact Nat.le_refl _)⟩) bl)
           ⟨cM,((aS.2.1.below be).block (bK.block bl (Nat.lt_of_lt_of_le aS.2.1.lt be.size) (λe=>dj e.symm))),(a0.2.2.trans aS.2.2).trans af⟩)
          clear cM bK cN;go_wp2;refine cL _ _ a6 ?_;clear cL di a6;refine AH ?_;go_simp;refine AP ?_;go_wp2;go_roundw
          case rel=>exact⟨_,j+1,(aH.1++ [(aY,aZ)],aH.2),rfl,by omega,by go_num,df,Zh (cZ aH b8),ae⟩
          case measure=>simp [intOf];omega
       . obtain rfl:j=n.keys.length:=by omega
         rw [Nat.sub_self] at bg;by_cases aR:n.kids= []
         . have ah:AO R t (f+1) (out,left) x=o:=by
            have aJ:=bg.out;unfold AO.lsFrom at aJ;rw [if_pos aR] at aJ;exact aJ.symm
           have ae:=Zh (show JU N w aW bl o (.returned _) wr from⟨_,rfl,aK.1,aK.2.1,(Lw.below aU aW bl).trans aK.2.2⟩);rw [<-ah] at ae;clear ah;have bA:n.kids.length=0:=(by rw [aR];rfl);rw [aQ.out] at ae;go_wp2;go_ret;exact ae.out
         . have dk:n.kids.length=n.keys.length+1:=by
            rcases cu with aJ|aJ
            . exact absurd (List.length_eq_zero_iff.1 aJ) aR
            . exact aJ
           have ba:n.keys.length<n.kids.length:=(by omega);have a0:=Zh aK.out;obtain⟨a1,da,bm,cb,bo⟩:=AK.num (F:=λ_=>False) (by obtain⟨bV,bW,a9,h1⟩:=A5 (F:=λ_=>False) a2.r3 (λ_ h=>h.elim);cases a9;exact h1) ba;have gc:w.heap.size<=a1:=Nat.le_trans aq.size (BM a2.r3 (by rw [bm];rfl)).1;have bb:=a0.2.2.cell (bo ai (Below.refl _ _)) (λe=>by rw [aQ.out] at e;have:=Br aT a1 e.symm;omega) (by show a1≠bl;omega);obtain⟨y,aP⟩: ∃y,n.kids[n.keys.length]=y:=⟨_,rfl⟩;rw [aP] at bb;have bc:=cv.out (n.keys.length) ba;rw [aP] at bc;subst bm;have cc:=Zh (λW aX=>cB y bc W aX);have cd:=(λX:Au (λb=>some b=vv.ownBlock\/b=bl) wr=>X.cell a7 (aL ag g5 bF));have ce:=(λX:Au (λb=>some b=vv.ownBlock\/b=bl) wr=>X.cell a8 (aL ag g5 bF));have cf:=(λX:Au (λb=>some b=vv.ownBlock\/b=bl) wr=>X.cell bE (aL ao a3 a4));have cg:=(λX:Au (λb=>some b=vv.ownBlock\/b=bl) wr=>X.cell bb (aL a1 gc cb));have ci:=Zh aP;clear bo aP bc bb;have ah:Hid (AO R t (f+1) (out,left) x=AO R t f o y):=Zh (by
            rw [<-bg.out];unfold AO.lsFrom;rw [if_neg aR,show n.kids.getD (n.kids.length-1) 0=y by rw [show n.kids.length-1=n.keys.length by omega,<-ci.out];simp [ba]])
           have dz:(n.kids.length:Int)-1=(n.keys.length:Nat):=(by omega);have dA:IntKind.i64.wrap (n.keys.length:Nat)=(n.keys.length:Nat):=(by rw [IntKind.wrap_i64];omega);generalize AO R t f o y=cI at*;have dm:Hid (∀v' w',JU N wr vv.ownBlock bl cI (.returned v') w' ->JU N w aW bl (AO R t (f+1) (out,left) x) (.returned v') w'):=Zh (λv' w' ⟨v2,h1,af,aO,aM⟩=>by
            cases h1
            rw [ah.out];exact⟨_,rfl,af,aO,((Lw.below aU aW bl).trans a0.2.2).trans aM⟩)
           clear aR a7 a8 bk bD bg aK dk;go_wp2;refine As (λw' => ∃X:Au (λb=>some b=vv.ownBlock\/b=bl) wr,w' =X.W) [.r 0, .r 1, .r 2, .r 3, .r 4, .r 5, .r 6, .r 7, .r 8, .r 9, .r 10, .r 11, .r 12, .a 13, .r 14] (Ay _ _) ?_
           iterate 13 (refine AH ?_;go_simp)
           clear cd ce cf cg;refine AI _ rfl (λbp a5=> ?_);go_wp2_with fail;refine(cc _ (Ac wr)).mono ?_;rintro e cJ ⟨v5,rfl,bq,br,bd⟩;have bI:=Zh (dm v5 cJ ⟨v5,rfl,bq,br,(Lw.below (Ac wr) vv.ownBlock bl).trans bd⟩);have a6:=Vs (Ac wr) bd;clear bq br bd;go_wp2;refine a5 _ _ a6 ?_;clear a5 bp a6;refine AH ?_;go_simp;refine AP ?_;rw [aQ.out] at bI;go_wp2;go_ret;exact bI.out
  . rw [decide_eq_false he]
    go_wp2;go_ret;exact cs.out (.inl he)
end
section
variable {s N:Nat} {R:Zr} {nn:Nat}
theorem Pw(h:Rd N w s R nn)(t:Nat)(V:BN.A0 t)(x:Nat)(hx:x<18446744073709551616):
 Calls prog 37 #[.pointer (some ⟨s,0,none⟩), .int .i64 t, .int .u64 x] w λe w' => ∃v',e= .returned v' /\w'.ownsRow w.heap.size 31 2 v' (AO R t 40 ([],BF nn t) x).1.length (EK (AO R t 40 ([],BF nn t) x).1)/\Below w.heap.size w w' :=by
 obtain⟨h,hle,hA⟩:=Yqa;obtain⟨O,U⟩:=Zx (w.alloc (Obj.cells #[.pointer (some ⟨s,0,none⟩), .int .i64 t] 96));have J:=EI;obtain⟨b7,ac⟩:=Zx w.heap.size;obtain⟨ab,ai⟩:=Ymd;have aB:=Lu (t:=t) hle;have ae:=Zh (λW (aj:Below w.heap.size w W) (bl:Nat) (aH:An W bl 3 [.int .i64 (BF nn t:Nat)]) (aJ:w.heap.size<=bl)=>Uj t V 40 (Nat.le_refl _) W (h.below aj) aj.size x hx [] (BF nn t) bl (.slice none 0 0) (World.ownsRow_nil _ _ _ _) aH aJ (by simp [Value.ownBlock]) (by simp only [List.length_nil];omega));rw [show((40-40:Nat):Int)=0 from rfl] at ae;generalize AO R t 40 ([],BF nn t) x=l at*;generalize BF nn t=m at*;obtain⟨af,al⟩:=K7;have au:=Zh ab;obtain⟨c0,c1⟩:=AX ab;rw [U,ac] at c0 c1;clear U ac J ab h hle;go_enter func37,ntmps37;go_wp2_with fail;refine hA.mono ?_;rintro e w1 ⟨rfl,rfl⟩;go_wp2_with fail;rw [<-al.1,<-al.2];refine(ai _ af).mono ?_;rintro e w2 ⟨rfl,ag⟩;clear c0 c1;have I:=af.trans (ag.mono af.size);obtain⟨aa,ax⟩:=Zx (w2.alloc (Obj.cells #[.int .i64 m] 3));obtain⟨bl,aH⟩:=Zx w2.heap.size;have ah:Below w.heap.size w aa:=by rw [ax];exact I.alloc I.size _
 have am:An aa bl 3 [.int .i64 m]:=by rw [ax,aH];exact An.new w2 _ _
 have Sx:An aa b7 96 [.pointer (some ⟨s,0,none⟩), .int .i64 t]:=by rw [ax];exact(au.below ag).alloc _
 obtain⟨c0,c1⟩:=AX Sx;have aJ:w.heap.size<=bl:=by rw [aH];exact I.size
 have aw:=Zh (ae aa ah bl am aJ);have an:=Zh ah;obtain⟨ay,ao⟩:=SA;rw [ax] at c0 c1;clear ax aH ah am Sx aJ I ag ae ai;go_wp2_with fail;rw [<-ao.1,<-ao.2];refine aw.mono ?_;rintro e w4 ⟨v',rfl,aq,_,ar⟩;have az:=Zh (And.intro aq (an.trans (ar.low an.size (λk aA=>by cases aA) ay.out)));clear aq ar;go_wp2;go_ret;exact⟨_,rfl,az⟩
end
def A1(A W:World)(Az:Nat)(zs0:List Nat):Prop:= ∃zs:List Nat,zs.Perm zs0/\(∃sp,An W Az 23 (AF zs++sp))/\A.grownBy W (some Az)
section
variable {A:World} {Az:Nat} {zs0:List Nat}
theorem A1.start{sp:List Value}(h:An A Az 23 (AF zs0++sp)):A1 A A Az zs0:=⟨zs0,List.Perm.refl _,⟨sp,h⟩,⟨rfl,rfl,rfl,Nat.le_refl _,λ_ _ _=>rfl⟩⟩
theorem A1.below(h:A1 A W Az zs0)(I:Below W.heap.size W W'):A1 A W' Az zs0:=by
 obtain⟨zs,h1,⟨sp,J⟩,O⟩:=h;exact⟨zs,h1,⟨sp,J.below I⟩,Bi O (Gq I _)⟩
theorem A1.drewN(h:A1 A W Az zs0)(q:Nat):A1 A (W.drewN q) Az zs0:=h.below (Tx.AL W q)
theorem A1.open(h:A1 A W Az zs0)(off:Nat)(V:off=0): ∃G:Nat->Nat,(∀t,t<zs0.length->W.cell? ⟨Az,off+t,none⟩=some (.int .u64 (G t:Nat)))/\(∀t,t<zs0.length->W.frozen? ⟨Az,off+t,none⟩=false)/\
 Hid (∀q i j,i<zs0.length->j<zs0.length->A1 A (((W.drewN q).setCell ⟨Az,off+i,none⟩ (.int .u64 (G j:Nat))).setCell ⟨Az,off+j,none⟩ (.int .u64 (G i:Nat))) Az zs0):=by
 subst V;obtain⟨zs,h1,⟨sp,I⟩,Z⟩:=h;have ae:=h1.length_eq;refine⟨λt=>zs.getD t 0,λt af=> ?_,λt _=>I.free _,Zh λq i j hi ag=> ?_⟩
 . have J:t<zs.length:=by omega
   rw [Nat.zero_add,I.at' (v:= .int .u64 (zs[t]:Nat)) (by rw [List.getElem?_append_left (by rw [Dg];exact J)];exact EM J)];simp [J]
 . have O:i<zs.length:=by omega
   have U:j<zs.length:=(by omega);simp only [Nat.zero_add];have aa:zs.getD i 0=zs[i]:=(by simp [O]);have ab:zs.getD j 0=zs[j]:=(by simp [U]);rw [aa,ab];refine⟨(zs.set i zs[j]).set j zs[i],(List.set_set_perm O U).trans h1,⟨sp, ?_⟩,Bi Z (Bi (Gq (Tx.AL W q) _) (Bi (A3 _ Az i _) (A3 _ Az j _)))⟩;have ac:=((I.below (Tx.AL W q)).set i (.int .u64 (zs[j]:Nat))).set j (.int .u64 (zs[i]:Nat))
   rwa [List.set_append_left _ _ (by rw [Dg];exact O),NJ,List.set_append_left _ _ (by rw [Dg,List.length_set];exact U),NJ] at ac
theorem A1.lt(h:A1 A W Az zs0):Az<W.heap.size:=by
 obtain⟨zs,_,⟨_,I⟩,_⟩:=h;exact I.lt
theorem A1.trans{B:World}(h:A1 A B Az zs0)(g:A1 B W Az zs0):A1 A W Az zs0:=by
 obtain⟨zs,h1,I,J⟩:=g;obtain⟨_,_,_,O⟩:=h;exact⟨zs,h1,I,Bi O J⟩
end
theorem Xs(x:Nat)(w:World):Calls prog 202 #[.int .u64 x] w λe w' =>e= .returned (.bool false)/\w=w' :=by
 go_enter func202,ntmps202;go_wp2;go_ret;exact⟨by simp,rfl⟩
theorem Bh(x y:Nat)(w:World):Calls prog 183 #[.int .u64 x, .int .u64 y] w λe w' =>e= .returned (.bool (decide (x<y)))/\w=w' :=by
 have hN:=Zh (λz=>Xs z w);go_enter func183,ntmps183;go_wp2_with fail;refine(hN _).mono ?_;rintro e w1 ⟨rfl,rfl⟩;go_wp2;go_ret;exact⟨by simp,rfl⟩
