/- A part. -/
import Derived.Test.YtiopopoohglepaaGreatDoorVMy
import Derived.Deep.CutRange
set_option linter.all false
set_option maxRecDepth 100000
set_option maxHeartbeats 4000000
namespace Go.Proofs.YtiopopoohglepaaGreatDoor
open Go.Proofs.Tryz
open Go.RowKit Go.Shelf
variable {W W' w:World}{bl:Nat}
def Vk(p:Nat × Nat):List Value:= [.int .u64 p.1, .int .u64 p.2]
theorem Zi{ops:Array Oper}{rest:List Oper}{o:Oper}{a:Act}{Q:Exit->Act->World->Prop}(d:o.guard=none)(s x:Operand)
 (I:o.op= .call { callee:= .builtin .append,args:= #[s,x],argTypes:= #[88,88] }) (w:World) (base:Nat) (v:Value) (xs:List (Nat × Nat)) (hs:a.eval s=v)
 (J:w.ownsRow base 31 2 v xs.length (EI xs)) (b:Nat) (y:Nat × Nat) (hx:a.eval x= .slice (some ⟨b,0,none⟩) 1 1) (O: ∀j u,(Vk y)[j]? =some u->w.cell? ⟨b,j,none⟩=some u) (hlen:xs.length<=9000000) (U:base<=w.heap.size)
 (h: ∀v' w',w'.ownsRow base 31 2 v' (xs++ [y]).length (EI (xs++ [y]))->w.grownBy w' v.ownBlock->(v'.ownBlock=v.ownBlock\/v'.ownBlock=some w.heap.size)->wpList prog ops Q rest (a.put o.dst v') w'):
 wpList prog ops Q (o::rest) a w:=by
 obtain⟨i0,hi,V,Z,aa⟩:=info_parts Tryz.NI;have ab: ∀j u,(Vk y)[j]? =some u->w.cell? ((⟨b,0,none⟩:Addr).add j)=some u:=by
  intro j u hu;rw [show(⟨b,0,none⟩:Addr).add j=⟨b,j,none⟩ by unfold Addr.add;split<;>simp_all]
  exact O j u hu
 refine wpList_append_own_at w d s x 88 I base 31 i0 _ 2 16 Tryz.P0 hi V Z aa rfl (by decide) v xs.length (EI xs) hs J ⟨b,0,none⟩ 1 1 (Vk y) hx rfl ab (by simp [Vk,Value.oneCell']) (by unfold maxLen;omega) (by omega) U ?_;intro v' w' h1 ac _ ae;exact h v' w' (by rw [List.length_append,TD];exact h1) ac ae
theorem YP(W:World)(y:Nat × Nat)(b:Nat)(d:b=W.heap.size)(T:TypeId)(j:Nat)(u:Value)(h:(Vk y)[j]? =some u):(W.alloc (.cells #[.int .u64 y.1, .int .u64 y.2] T)).cell? ⟨b,j,none⟩=some u:=by
 subst d;exact(An.new W T (Vk y)).at' h
theorem U5{r O :Option Nat}(d:Below w.heap.size w W)(h:Lw W W' r O bl): ∃X:Au (λb=>some b=r\/b=bl) w,W' =X.W:=
 ⟨⟨W',Nat.le_trans d.size h.size,λk I J=>(h.keep k (Nat.lt_of_lt_of_le I d.size) (λe=>J (.inl e)) (λe=>J (.inr e))).trans (d.block k I)⟩,rfl⟩
theorem T0{r:Option Nat}(d:Below w.heap.size w W)(h:W.grownBy W' r): ∃X:Au (λb=>some b=r\/b=bl) w,W' =X.W:=
 ⟨⟨W',Nat.le_trans d.size h.size,λk I J=>(h.block k (Nat.lt_of_lt_of_le I d.size) (λe=>J (.inl e))).trans (d.block k I)⟩,rfl⟩
def JU(N:Nat)(w:World)(r:Option Nat)(bl:Nat)(o:List (Nat × Nat) × Nat)(e:Ending)(w' :World):Prop:=
 ∃v',e= .returned v' /\w'.ownsRow N 31 2 v' o.1.length (EI o.1)/\An w' bl 3 [.int .i64 o.2]/\Lw w w' r v'.ownBlock bl
section
variable {s N:Nat} {R:Zr} {nn:Nat}
def Yem{P}(h:P:=by
 rcases ab.2 with ⟨h1,U⟩|⟨g,cap,cur,h1,_⟩
 . exact⟨none,0,by rw [h1,U]⟩
 . exact⟨_,_,h1⟩):=h
theorem T1(t:Nat)(al:BN.A1 t): ∀(f:Nat),f<=40-> ∀(w:World) (h:Rd N w s R nn) (hN:N<=w.heap.size) (x:Nat) (hx:x<18446744073709551616) (out:List (Nat × Nat)) (left bl:Nat) (v:Value) (ab:w.ownsRow N 31 2 v out.length (EI out)) (Z:An w bl 3 [.int .i64 left]) (bs:N<=bl) (bu:v.ownBlock≠some bl) (cj:out.length+33*left<=8650785),
 Calls prog 77 #[.agg #[.pointer (some ⟨s,0,none⟩), .int .i64 t],v, .int .u64 x, .pointer (some ⟨bl,0,none⟩), .int .i64 ((40-f:Nat):Int)] w (JU N w v.ownBlock bl (AN R t f (out,left) x)):=by
 intro f
 induction f with
 |zero=>
  intro _ w h hN x hx out left bl v ab Z bs bu cj;obtain⟨A,c,bL⟩: ∃A c,v= .slice A out.length c:=by
   exact Yem
  subst bL;have J:=Yn;have bM:=Yx;obtain⟨ax,aT,bw⟩:=EW;have d40:((40-0:Nat):Int)=40:=rfl;rw [d40];clear d40 h J ab Z;go_enter func77,ntmps77;go_wp2_with fail;refine bM.mono ?_;rintro e w2 ⟨v1,v2,v3,rfl,ah,aA⟩;obtain⟨ay,q1,rfl⟩:=Ae ah.r1;obtain⟨az,au,rfl⟩:=Ae ah.r2;obtain⟨ar,am,rfl⟩:=Ae ah.r3;obtain⟨ag,V⟩:=Ykc;have ac:Hid (JU N w (Value.slice A out.length c).ownBlock bl (out,left) (.returned (.slice A out.length c)) (w2.alloc (Obj.cells #[Value.slice ay (Ag R t x).keys.length q1,Value.slice az (Ag R t x).Ab.length au,Value.slice ar (Ag R t x).kids.length am,Value.int IntKind.u64 ((Ag R t x).size:Nat)] 100))):=Zh ⟨_,rfl,B8 aT V,bw.below V,Lw.below V _ _⟩;have af:Hid (AN R t 0 (out,left) x=(out,left)):=Zh (by unfold AN;rfl);exact Ybk
 |succ f ih=>
  intro dp w h hN x hx out left bl v ab Z bs bu cj;obtain⟨A,c,bL⟩: ∃A c,v= .slice A out.length c:=by
   exact Yem
  subst bL;have cP:Hid (∀(o:List (Nat × Nat) × Nat) (y:Nat),(AN R t f o y).1.length+33*(AN R t f o y).2<=o.1.length+33*o.2):=Zh (I8 (λy aP=>by
   have:=(BR h al aP).1.1;have:=al.2;omega) f)
  obtain⟨i0,hi,dq,dr,ds⟩:=info_parts Tryz.NI;obtain⟨O,ae⟩:=Zx (w.alloc (Obj.cells #[.pointer (some ⟨s,0,none⟩), .int .i64 t] 96));have J:=G5;obtain⟨ao,aa⟩:=Zx w.heap.size;have aq:=X5;have I:=DQ (h.below J) t al x hx;obtain⟨d,hd⟩:=Zx (40-(f+1));have dt:d<40:=by omega
  rw [<-hd];obtain⟨ax,bz⟩:=LJ;obtain⟨aF,bM,ck⟩:=Sq;have aT:=Zh ab;have bw:=Zh Z;have cl:=Zh bu;have cQ:=Zh hd;have cR:=Zh ih;have g5:w.heap.size<=ao:=by omega
  have cn:Hid (AN R t (f+1) (out,left) x=if Bm R t x≠0\/left=0 then (out,left) else AN.lsFrom (Ag R t x) (AN R t f) (Ag R t x).keys.length 0 (out,left-1)):=Zh (by conv=>lhs;unfold AN)
  clear ae aa aq I h ab J hd ih Z bu;go_enter func77,ntmps77;have d40:((d:Int)==40)=false:=by simp;omega
  obtain⟨a7,a8⟩:=A2 aF.out;rw [bz.1,bz.2] at a7 a8;go_wp2_with fail;rw [<-bz.1,<-bz.2];refine bM.mono ?_;rintro e w2 ⟨v1,v2,v3,rfl,ah,aA⟩;obtain⟨ay,q1,rfl⟩:=Ae ah.r1;obtain⟨az,au,rfl⟩:=Ae ah.r2;obtain⟨ar,am,rfl⟩:=Ae ah.r3;obtain⟨n,aw⟩:=Zx (Ag R t x);rw [<-aw] at ah;rw [<-aw];obtain⟨aj,an⟩:=Zx (w2.alloc (Obj.cells #[.slice ay n.keys.length q1, .slice az n.Ab.length au, .slice ar n.kids.length am, .int .u64 n.size] 100));obtain⟨ai,aD⟩:=Zx w2.heap.size;obtain⟨aE,aH⟩:=Yk;obtain⟨aU,bN,bi,a2⟩:=Yjs;obtain⟨co,cp⟩:=OC;have cr:=Zh (B8 aT aU);have bj:=Zh (bw.below aU);have cT:=bj.at' (i:=0) rfl;have cU:=bj.free 0;have a3:=Ypl;have cu:Hid (Bm R t x≠0\/left=0->JU N w (Value.slice A out.length c).ownBlock bl (AN R t (f+1) (out,left) x) (.returned (.slice A out.length c)) aj):=Zh (λh=>by
   rw [cn.out,if_pos h];exact⟨_,rfl,cr,bj,Lw.below aU _ _⟩)
  clear aw aA aE ah an aD aH;go_upto_region 2 with fail;rw [<-co.1,<-co.2];by_cases he:Bm R t x=0
  . rw [decide_eq_true he]
    by_cases bA:left=0
    . subst bA
      go_wp2;go_ret;exact cu.out (.inr (by simp))
    . have dl:((left:Int)==0)=false:=by simp;omega
      have hw:=BR (ck.below aU) al he;rw [<-cp.out] at hw;obtain⟨bB,cV,cW,wc,du⟩:=hw;have cv:n.kids.length=0\/n.kids.length=n.keys.length+1:=by
       rcases bB.2.2 with aJ|aJ
       . exact .inl (by rw [aJ];rfl)
       . exact .inr aJ.1
      have dv:n.keys.length<=33:=(by have:=bB.1;have:=al.2;omega);have cX:Hid (n.Ab.length=n.keys.length):=Zh bB.2.1;have cw:=Zh wc;have cY:Hid (AN R t (f+1) (out,left) x=AN.lsFrom n (AN R t f) n.keys.length 0 (out,left-1)):=Zh (by rw [cn.out,if_neg (by rintro(aJ|aJ);exact aJ he;exact bA aJ),cp.out]);clear bB cV cW wc he;go_upto_region 5 with fail;obtain⟨bO,bf⟩:=Zx (aj.setCell ⟨bl,0,none⟩ (.int .i64 ((left:Int)-1)));rw [<-bf];have aC:An bO bl 3 [.int .i64 ((left-1:Nat):Int)]:=by
       rw [bf,show((left:Int)-1)=((left-1:Nat):Int) by omega];exact bj.set 0 _
      have aM:Lw aj bO (Value.slice A out.length c).ownBlock (Value.slice A out.length c).ownBlock bl:=(by rw [bf];exact Lw.set bl 0 _ _);have dw:bl<w.heap.size:=bw.lt;have aB:bO.ownsRow N 31 2 (.slice A out.length c) out.length (EI out):=Em cr (λk aV=>by
       rw [bf];exact Below.heap_setCell _ ⟨bl,0,none⟩ _ k (λe=>cl (by rw [aV];exact congrArg some e)))
      have bC:=Qf;have bP:=bi.other (p:=⟨bl,0,none⟩) (by show ai≠bl;omega) (.int .i64 ((left:Int)-1));rw [<-bf] at bP;have bk:=bP.at' (i:=0) rfl;clear bf aC aM aB bP cT cU;obtain⟨aW,bQ⟩:=Zx ((Value.slice A out.length c).ownBlock);rw [<-bQ] at bC;have aQ:=Zh bQ;clear bQ;rw [<-aQ.out];go_wp2
      go_loopw [1,41] (λv0 bR wr=> ∃(vv:Value) (j:Nat) (o:List (Nat × Nat) × Nat),vv=v0/\j<=n.keys.length/\bR= .int .i64 j/\o.1.length+33*o.2+(n.keys.length-j)<=8650785/\Hid (AN.lsFrom n (AN R t f) (n.keys.length-j) j o=AN R t (f+1) (out,left) x)/\Hid (wr.ownsRow N 31 2 vv o.1.length (EI o.1)/\An wr bl 3 [.int .i64 o.2]/\Lw aj wr aW vv.ownBlock bl)) (λ_ bR _=>n.keys.length-(intOf bR).toNat)
      case atStart=>exact⟨_,0,(out,left-1),rfl,Nat.zero_le _,rfl,by simp only;omega,Zh cY.symm,Zh ⟨bC.1,bC.2.1,by rw [<-aQ.out];exact bC.2.2⟩⟩
      case round=>
       obtain⟨vv,j,o,rfl,dx,rfl,cx,bg,aK⟩:=hrel;have bS:some ai≠aW:=λe=>by
        rw [aQ.out] at e;have:=Bs aT ai e.symm;omega
       have bk:=aK.2.2.cell (bi.at' (i:=0) rfl) bS (by show ai≠bl;omega);have bD:=aK.2.2.cell (bi.at' (i:=1) rfl) bS (by show ai≠bl;omega);have bE:=aK.2.2.cell (bi.at' (i:=2) rfl) bS (by show ai≠bl;omega);have a4:ai<aj.heap.size:=bi.lt;have aL:Hid (∀k,w.heap.size<=k->k<aj.heap.size-> ¬(some k=vv.ownBlock\/k=bl)):=Zh (λk h1 U aO=>by
        rcases aO with aO|aO
        . rcases aK.2.2.row with aN|aN
          . rw [aN,aQ.out] at aO
            have:=Bs aT k aO.symm;omega
          . have:=aN k aO.symm;omega
        . omega)
       have cy:some ao≠aW:=λe=>by
        rw [aQ.out] at e;have:=Bs aT ao e.symm;omega
       have a7:=aK.2.2.cell (bN.at' (i:=0) rfl) cy (by show ao≠bl;omega);have a8:=aK.2.2.cell (bN.at' (i:=1) rfl) cy (by show ao≠bl;omega);have bF:ao<aj.heap.size:=bN.lt;have cZ:=Zh ((ck.below aU).kb (KB.GQ (aK.2.2.low (Nat.le_trans hN aU.size) (λk aV=>by rw [aQ.out] at aV;exact(BM aT.out aV).1) bs) (Nat.le_refl _)) λ_ aV=>aV);have cz:Hid (N<=wr.heap.size):=Zh (Nat.le_trans (Nat.le_trans hN aU.size) aK.2.2.size);have cB:Hid (vv.ownBlock≠some bl):=Zh (λe=>by
        rcases aK.2.2.row with aN|aN
        . rw [aN,aQ.out] at e;exact cl.out e
        . have:=aN bl e;have:=bj.lt;omega)
       have cC:Hid (∀(y:Nat),y<18446744073709551616-> ∀W,Below wr.heap.size wr W->Calls prog 77 #[.agg #[.pointer (some ⟨s,0,none⟩), .int .i64 t],vv, .int .u64 (y:Nat), .pointer (some ⟨bl,0,none⟩), .int .i64 ((d:Int)+1)] W (JU N W vv.ownBlock bl (AN R t f o y))):=Zh (λy aP W aX=>by
        have aJ:=cR.out (by omega) W (cZ.below aX) (Nat.le_trans cz aX.size) y aP o.1 o.2 bl vv (B8 aK.1 aX) (aK.2.1.below aX) bs cB (by omega);rw [show((40-f:Nat):Int)=(d:Int)+1 by rw [cQ.out];omega] at aJ;exact aJ)
       by_cases bT:j<n.keys.length
       . have cD:j<n.Ab.length:=by rw [cX.out];exact bT
         obtain⟨bh,ok,cF,bU,cG⟩:=AJ.num (F:=λ_=>False) (by obtain⟨bV,bW,a9,h1⟩:=A5 (F:=λ_=>False) a2.r1 (λ_ h=>h.elim);cases a9;exact h1) bT;obtain⟨bv,dy,cH,bX,cI⟩:=AJ.num (F:=λ_=>False) (by obtain⟨bV,bW,a9,h1⟩:=A5 (F:=λ_=>False) a2.r2 (λ_ h=>h.elim);cases a9;exact h1) cD;have bG:w.heap.size<=bh:=Nat.le_trans ax.size (BM a2.r1 (by rw [cF];rfl)).1;have bH:w.heap.size<=bv:=Nat.le_trans ax.size (BM a2.r2 (by rw [cH];rfl)).1;have bY:=λb (aX:w.heap.size<=b)=>(show some b≠aW from λe=>by
          rw [aQ.out] at e;have:=Bs aT b e.symm;omega)
         have bZ:=aK.2.2.cell (cG aj (Below.refl _ _)) (bY bh bG) (by show bh≠bl;omega);have b3:=aK.2.2.cell (cI aj (Below.refl _ _)) (bY bv bH) (by show bv≠bl;omega);obtain⟨aY,b4⟩: ∃y,n.keys[j]=y:=⟨_,rfl⟩;obtain⟨aZ,b5⟩: ∃y,n.Ab[j]=y:=⟨_,rfl⟩;rw [b4] at bZ;rw [b5] at b3;subst cF;subst cH;have c8:Hid (∀aG :List (Nat × Nat) × Nat,aG =(if n.kids= [] then o else AN R t f o (n.kids.getD j 0))->AN.lsFrom n (AN R t f) (n.keys.length-(j+1)) (j+1) (aG.1++ [(aY,aZ)],aG.2)=AN R t (f+1) (out,left) x):=Zh (λaG b8 =>by
          rw [<-bg.out,show n.keys.length-j=(n.keys.length-(j+1))+1 by omega]
          conv=>rhs;unfold AN.lsFrom;unfold AN.lsStep
          rw [<-b8,show n.keys.getD j 0=aY by rw [<-b4];simp [bT],show n.Ab.getD j 0=aZ by rw [<-b5];simp [cD]])
         have c9:=Zh bZ;have da:=Zh b3;have a0:=Zh aK.out;clear cG cI b4 b5 bZ b3 bg aK bY;go_upto_if 47 with fail;go_cut [1] from 44 to 73 (λv0 wc=> ∃(v1:Value) (aG :List (Nat × Nat) × Nat),v1=v0/\Hid (aG =if n.kids= [] then o else AN R t f o (n.kids.getD j 0))/\aG.1.length+33*aG.2+(n.keys.length-j)<=8650785/\Hid (wc.ownsRow N 31 2 v1 aG.1.length (EI aG.1)/\An wc bl 3 [.int .i64 (aG.2:Nat)]/\Lw wr wc vv.ownBlock v1.ownBlock bl))
         case first=>
          by_cases aR:n.kids= []
          . have bA:n.kids.length=0:=by rw [aR];rfl
            have b9:=Zh (show o=if n.kids= [] then o else AN R t f o (n.kids.getD j 0) from(if_pos aR).symm);clear aR;go_wp2;go_meet
            case rel=>exact⟨_,o,rfl,b9,cx,Zh ⟨a0.1,a0.2.1,Lw.below (Below.refl _ _) _ _⟩⟩
          . have ba:j<n.kids.length:=by
             rcases cv with aJ|aJ
             . exact absurd (List.length_eq_zero_iff.1 aJ) aR
             . omega
            obtain⟨a1,db,bm,cb,bo⟩:=AJ.num (F:=λ_=>False) (by obtain⟨bV,bW,a9,h1⟩:=A5 (F:=λ_=>False) a2.r3 (λ_ h=>h.elim);cases a9;exact h1) ba;have gc:w.heap.size<=a1:=Nat.le_trans ax.size (BM a2.r3 (by rw [bm];rfl)).1;have bb:=a0.2.2.cell (bo aj (Below.refl _ _)) (λe=>by rw [aQ.out] at e;have:=Bs aT a1 e.symm;omega) (by show a1≠bl;omega);obtain⟨y,aP⟩: ∃y,n.kids[j]=y:=⟨_,rfl⟩;rw [aP] at bb;have bc:=cw.out (j) ba;rw [aP] at bc;subst bm;have cc:=Zh (λW aX=>cC y bc W aX);have cd:=(λX:Au (λb=>some b=vv.ownBlock\/b=bl) wr=>X.cell a7 (aL ao g5 bF));have ce:=(λX:Au (λb=>some b=vv.ownBlock\/b=bl) wr=>X.cell a8 (aL ao g5 bF));have cf:=(λX:Au (λb=>some b=vv.ownBlock\/b=bl) wr=>X.cell bE (aL ai a3 a4));have cg:=(λX:Au (λb=>some b=vv.ownBlock\/b=bl) wr=>X.cell bb (aL a1 gc cb));have ci:=Zh aP;clear bo aP bc bb;have b9:=Zh (show AN R t f o y=if n.kids= [] then o else AN R t f o (n.kids.getD j 0) from by rw [if_neg aR,show n.kids.getD j 0=y by rw [<-ci.out];simp [ba]]);have dz:=cP.out o y;generalize AN R t f o y=cJ at*;clear aR a7 a8 bk bD bE;go_wp2;refine Aw (λw' => ∃X:Au (λb=>some b=vv.ownBlock\/b=bl) wr,w' =X.W) [.r 0, .r 1, .r 2, .r 3, .r 4, .r 5, .r 6, .r 7, .r 8, .r 9, .a 10, .r 11] (Ay _ _) ?_
            iterate 10 (refine AE ?_;go_simp)
            clear cd ce cf cg;refine AK _ rfl (λbp a5=> ?_);go_wp2_with fail;refine(cc _ (Ac wr)).mono ?_;rintro e cK ⟨v5,rfl,bq,br,bd⟩;have bI:=Zh (And.intro bq (And.intro br ((Lw.below (Ac wr) vv.ownBlock bl).trans bd)));have a6:=U5 (Ac wr) bd;clear bq br bd;go_wp2;refine a5 _ _ a6 ?_;clear a5 bp a6;refine AE ?_;go_simp;refine AO ?_;go_wp2;go_meet
            case rel=>exact⟨_,_,rfl,b9,by omega,bI⟩
         case rest=>
          obtain⟨v1,aG,rfl,b8,dc,aS⟩:=hcut;have bJ:Hid (∀k,w.heap.size<=k->k<aj.heap.size-> ¬(some k=v1.ownBlock\/k=bl)):=Zh (λk h1 U aO=>by
           rcases aO with aO|aO
           . rcases aS.2.2.row with aN|aN
             . rw [aN] at aO;exact aL.out k h1 U (.inl aO)
             . have:=aN k aO.symm;have:=a0.2.2.size;omega
           . exact aL.out k h1 U (.inr aO))
          have q1:=(λX:Au (λb=>some b=v1.ownBlock\/b=bl) wc=>X.cell (aS.2.2.cell bk (λe=>aL ai a3 a4 (.inl e)) (λe=>aL ai a3 a4 (.inr e))) (bJ ai a3 a4));have au:=(λX:Au (λb=>some b=v1.ownBlock\/b=bl) wc=>X.cell (aS.2.2.cell bD (λe=>aL ai a3 a4 (.inl e)) (λe=>aL ai a3 a4 (.inr e))) (bJ ai a3 a4));have am:=(λX:Au (λb=>some b=v1.ownBlock\/b=bl) wc=>X.cell (aS.2.2.cell c9 (λe=>aL bh bG bU (.inl e)) (λe=>aL bh bG bU (.inr e))) (bJ bh bG bU));have dd:=(λX:Au (λb=>some b=v1.ownBlock\/b=bl) wc=>X.cell (aS.2.2.cell da (λe=>aL bv bH bX (.inl e)) (λe=>aL bv bH bX (.inr e))) (bJ bv bH bX));clear a7 a8 bk bD bE;obtain⟨lo,cL⟩:=Zx aG.1.length;have de:lo<=9000000:=(by omega);have df:N<=wc.heap.size:=Nat.le_trans cz aS.2.2.size;have dg:Hid ((aG.1++ [(aY,aZ)]).length+33*aG.2+(n.keys.length-(j+1))<=8650785):=Zh (by rw [List.length_append,List.length_singleton];omega);have dh:=Zh cL;have be:Hid (Below wc.heap.size wc (wc.alloc (Obj.cells #[.int .u64 aY, .int .u64 aZ] 31)).drew):=Zh (((Below.refl _ wc).alloc (Nat.le_refl _) _).trans ((Ac _).mono (by simp)));have di:=Zh (B8 aS.1 be);clear dc cx cL;go_wp2;refine Aw (λw' => ∃X:Au (λb=>some b=v1.ownBlock\/b=bl) wc,w' =X.W) [.r 0, .r 1, .r 2, .r 3, .r 4, .r 5, .r 6, .r 7, .r 8, .r 9, .r 10, .r 11, .a 12, .a 13, .r 14] (Ay _ _) ?_
          iterate 12 (refine AE ?_;go_simp)
          clear q1 au am dd;refine AK _ rfl (λbp a5=> ?_);go_wp2;refine a5 _ _ (Af be) ?_;clear a5 bp;refine AK _ rfl (λdj cM=> ?_);refine Zi rfl _ _ rfl _ N v1 aG.1 rfl di wc.heap.size (aY,aZ) rfl (λj u h=>YP wc (aY,aZ) _ rfl 31 j u h) (by rw [<-dh.out];exact de) (Nat.le_trans df be.size) ?_;intro v' w4 cN bK cO;have dk:Hid (v1.ownBlock≠some bl):=Zh (λe=>by
           rcases aS.2.2.row with aN|aN
           . rw [aN] at e;exact cB.out e
           . have:=aN bl e;have:=a0.2.1.lt;omega)
          have a6:=T0 (bl:=bl) be bK
          have ac:=Zh (show w4.ownsRow N 31 2 v' (aG.1++ [(aY,aZ)]).length (EI (aG.1++ [(aY,aZ)]))/\An w4 bl 3 [.int .i64 (aG.2:Nat)]/\Lw aj w4 aW v'.ownBlock bl from
           have h1:=Lw.below be v1.ownBlock bl;have U:=h1.trans (Lw.rw (show Rw _ w4 v1.ownBlock v'.ownBlock from⟨bK,cO.imp id (λh k aV=>by rw [h] at aV;cases aV;exact Nat.le_refl _)⟩) bl)
           ⟨cN,((aS.2.1.below be).block (bK.block bl (Nat.lt_of_lt_of_le aS.2.1.lt be.size) (λe=>dk e.symm))),(a0.2.2.trans aS.2.2).trans U⟩)
          clear cN bK cO;go_wp2;refine cM _ _ a6 ?_;clear cM dj a6;refine AE ?_;go_simp;refine AO ?_;go_wp2;go_roundw
          case rel=>exact⟨_,j+1,(aG.1++ [(aY,aZ)],aG.2),rfl,by omega,by go_num,dg,Zh (c8 aG b8),ac⟩
          case measure=>simp [intOf];omega
       . obtain rfl:j=n.keys.length:=by omega
         rw [Nat.sub_self] at bg;by_cases aR:n.kids= []
         . have af:AN R t (f+1) (out,left) x=o:=by
            have aJ:=bg.out;unfold AN.lsFrom at aJ;rw [if_pos aR] at aJ;exact aJ.symm
           have ac:=Zh (show JU N w aW bl o (.returned _) wr from⟨_,rfl,aK.1,aK.2.1,(Lw.below aU aW bl).trans aK.2.2⟩);rw [<-af] at ac;clear af;have bA:n.kids.length=0:=(by rw [aR];rfl);rw [aQ.out] at ac;go_wp2;go_ret;exact ac.out
         . have dm:n.kids.length=n.keys.length+1:=by
            rcases cv with aJ|aJ
            . exact absurd (List.length_eq_zero_iff.1 aJ) aR
            . exact aJ
           have ba:n.keys.length<n.kids.length:=(by omega);have a0:=Zh aK.out;obtain⟨a1,db,bm,cb,bo⟩:=AJ.num (F:=λ_=>False) (by obtain⟨bV,bW,a9,h1⟩:=A5 (F:=λ_=>False) a2.r3 (λ_ h=>h.elim);cases a9;exact h1) ba;have gc:w.heap.size<=a1:=Nat.le_trans ax.size (BM a2.r3 (by rw [bm];rfl)).1;have bb:=a0.2.2.cell (bo aj (Below.refl _ _)) (λe=>by rw [aQ.out] at e;have:=Bs aT a1 e.symm;omega) (by show a1≠bl;omega);obtain⟨y,aP⟩: ∃y,n.kids[n.keys.length]=y:=⟨_,rfl⟩;rw [aP] at bb;have bc:=cw.out (n.keys.length) ba;rw [aP] at bc;subst bm;have cc:=Zh (λW aX=>cC y bc W aX);have cd:=(λX:Au (λb=>some b=vv.ownBlock\/b=bl) wr=>X.cell a7 (aL ao g5 bF));have ce:=(λX:Au (λb=>some b=vv.ownBlock\/b=bl) wr=>X.cell a8 (aL ao g5 bF));have cf:=(λX:Au (λb=>some b=vv.ownBlock\/b=bl) wr=>X.cell bE (aL ai a3 a4));have cg:=(λX:Au (λb=>some b=vv.ownBlock\/b=bl) wr=>X.cell bb (aL a1 gc cb));have ci:=Zh aP;clear bo aP bc bb;have af:Hid (AN R t (f+1) (out,left) x=AN R t f o y):=Zh (by
            rw [<-bg.out];unfold AN.lsFrom;rw [if_neg aR,show n.kids.getD (n.kids.length-1) 0=y by rw [show n.kids.length-1=n.keys.length by omega,<-ci.out];simp [ba]])
           have dA:(n.kids.length:Int)-1=(n.keys.length:Nat):=(by omega);have dB:IntKind.i64.wrap (n.keys.length:Nat)=(n.keys.length:Nat):=(by rw [IntKind.wrap_i64];omega);generalize AN R t f o y=cJ at*;have dn:Hid (∀v' w',JU N wr vv.ownBlock bl cJ (.returned v') w' ->JU N w aW bl (AN R t (f+1) (out,left) x) (.returned v') w'):=Zh (λv' w' ⟨v2,h1,U,aO,aN⟩=>by
            cases h1
            rw [af.out];exact⟨_,rfl,U,aO,((Lw.below aU aW bl).trans a0.2.2).trans aN⟩)
           clear aR a7 a8 bk bD bg aK dm;go_wp2;refine Aw (λw' => ∃X:Au (λb=>some b=vv.ownBlock\/b=bl) wr,w' =X.W) [.r 0, .r 1, .r 2, .r 3, .r 4, .r 5, .r 6, .r 7, .r 8, .r 9, .r 10, .r 11, .r 12, .a 13, .r 14] (Ay _ _) ?_
           iterate 13 (refine AE ?_;go_simp)
           clear cd ce cf cg;refine AK _ rfl (λbp a5=> ?_);go_wp2_with fail;refine(cc _ (Ac wr)).mono ?_;rintro e cK ⟨v5,rfl,bq,br,bd⟩;have bI:=Zh (dn v5 cK ⟨v5,rfl,bq,br,(Lw.below (Ac wr) vv.ownBlock bl).trans bd⟩);have a6:=U5 (Ac wr) bd;clear bq br bd;go_wp2;refine a5 _ _ a6 ?_;clear a5 bp a6;refine AE ?_;go_simp;refine AO ?_;rw [aQ.out] at bI;go_wp2;go_ret;exact bI.out
  . rw [decide_eq_false he]
    go_wp2;go_ret;exact cu.out (.inl he)
end
section
variable {s N:Nat} {R:Zr} {nn:Nat}
theorem Pq(h:Rd N w s R nn)(t:Nat)(d:BN.A1 t)(x:Nat)(hx:x<18446744073709551616):
 Calls prog 37 #[.pointer (some ⟨s,0,none⟩), .int .i64 t, .int .u64 x] w λe w' => ∃v',e= .returned v' /\w'.ownsRow w.heap.size 31 2 v' (AN R t 40 ([],BQ nn t) x).1.length (EI (AN R t 40 ([],BQ nn t) x).1)/\Below w.heap.size w w' :=by
 obtain⟨h,hle,ar⟩:=Ypj;obtain⟨O,ae⟩:=Zx (w.alloc (Obj.cells #[.pointer (some ⟨s,0,none⟩), .int .i64 t] 96));have J:=G5;obtain⟨b7,aa⟩:=Zx w.heap.size;obtain⟨Z,ah⟩:=Ylt;have aB:=Li (t:=t) hle;have ab:=Zh (λW (ai:Below w.heap.size w W) (bl:Nat) (aF:An W bl 3 [.int .i64 (BQ nn t:Nat)]) (aE:w.heap.size<=bl)=>T1 t d 40 (Nat.le_refl _) W (h.below ai) ai.size x hx [] (BQ nn t) bl (.slice none 0 0) (World.ownsRow_nil _ _ _ _) aF aE (by simp [Value.ownBlock]) (by simp only [List.length_nil];omega));rw [show((40-40:Nat):Int)=0 from rfl] at ab;generalize AN R t 40 ([],BQ nn t) x=l at*;generalize BQ nn t=m at*;obtain⟨ac,aj⟩:=LJ;have au:=Zh Z;obtain⟨c0,c1⟩:=A2 Z;rw [ae,aa] at c0 c1;clear ae aa J Z h hle;go_enter func37,ntmps37;go_wp2_with fail;refine ar.mono ?_;rintro e w1 ⟨rfl,rfl⟩;go_wp2_with fail;rw [<-aj.1,<-aj.2];refine(ah _ ac).mono ?_;rintro e w2 ⟨rfl,af⟩;clear c0 c1;have I:=ac.trans (af.mono ac.size);obtain⟨V,az⟩:=Zx (w2.alloc (Obj.cells #[.int .i64 m] 3));obtain⟨bl,aF⟩:=Zx w2.heap.size;have ag:Below w.heap.size w V:=by rw [az];exact I.alloc I.size _
 have al:An V bl 3 [.int .i64 m]:=by rw [az,aF];exact An.new w2 _ _
 have R9:An V b7 96 [.pointer (some ⟨s,0,none⟩), .int .i64 t]:=by rw [az];exact(au.below af).alloc _
 obtain⟨c0,c1⟩:=A2 R9;have aE:w.heap.size<=bl:=by rw [aF];exact I.size
 have aw:=Zh (ab V ag bl al aE);have am:=Zh ag;obtain⟨ax,an⟩:=QI;rw [az] at c0 c1;clear az aF ag al R9 aE I af ab ah;go_wp2_with fail;rw [<-an.1,<-an.2];refine aw.mono ?_;rintro e w4 ⟨v',rfl,ao,_,aq⟩;have ay:=Zh (And.intro ao (am.trans (aq.low am.size (λk aA=>by cases aA) ax.out)));clear ao aq;go_wp2;go_ret;exact⟨_,rfl,ay⟩
end
def AZ(A W:World)(Az:Nat)(zs0:List Nat):Prop:= ∃zs:List Nat,zs.Perm zs0/\(∃sp,An W Az 23 (AG zs++sp))/\A.grownBy W (some Az)
section
variable {A:World} {Az:Nat} {zs0:List Nat}
theorem AZ.start{sp:List Value}(h:An A Az 23 (AG zs0++sp)):AZ A A Az zs0:=⟨zs0,List.Perm.refl _,⟨sp,h⟩,⟨rfl,rfl,rfl,Nat.le_refl _,λ_ _ _=>rfl⟩⟩
theorem AZ.below(h:AZ A W Az zs0)(d:Below W.heap.size W W'):AZ A W' Az zs0:=by
 obtain⟨zs,h1,⟨sp,I⟩,J⟩:=h;exact⟨zs,h1,⟨sp,I.below d⟩,Bh J (Gp d _)⟩
theorem AZ.drewN(h:AZ A W Az zs0)(q:Nat):AZ A (W.drewN q) Az zs0:=h.below (Tx.AL W q)
theorem AZ.open(h:AZ A W Az zs0)(off:Nat)(U:off=0): ∃G:Nat->Nat,(∀t,t<zs0.length->W.cell? ⟨Az,off+t,none⟩=some (.int .u64 (G t:Nat)))/\(∀t,t<zs0.length->W.frozen? ⟨Az,off+t,none⟩=false)/\
 Hid (∀q i j,i<zs0.length->j<zs0.length->AZ A (((W.drewN q).setCell ⟨Az,off+i,none⟩ (.int .u64 (G j:Nat))).setCell ⟨Az,off+j,none⟩ (.int .u64 (G i:Nat))) Az zs0):=by
 subst U;obtain⟨zs,h1,⟨sp,d⟩,V⟩:=h;have ac:=h1.length_eq;refine⟨λt=>zs.getD t 0,λt ae=> ?_,λt _=>d.free _,Zh λq i j hi af=> ?_⟩
 . have I:t<zs.length:=by omega
   rw [Nat.zero_add,d.at' (v:= .int .u64 (zs[t]:Nat)) (by rw [List.getElem?_append_left (by rw [Da];exact I)];exact EK I)];simp [I]
 . have J:i<zs.length:=by omega
   have O:j<zs.length:=(by omega);simp only [Nat.zero_add];have Z:zs.getD i 0=zs[i]:=(by simp [J]);have aa:zs.getD j 0=zs[j]:=(by simp [O]);rw [Z,aa];refine⟨(zs.set i zs[j]).set j zs[i],(List.set_set_perm J O).trans h1,⟨sp, ?_⟩,Bh V (Bh (Gp (Tx.AL W q) _) (Bh (A3 _ Az i _) (A3 _ Az j _)))⟩;have ab:=((d.below (Tx.AL W q)).set i (.int .u64 (zs[j]:Nat))).set j (.int .u64 (zs[i]:Nat))
   rwa [List.set_append_left _ _ (by rw [Da];exact J),NG,List.set_append_left _ _ (by rw [Da,List.length_set];exact O),NG] at ab
theorem AZ.lt(h:AZ A W Az zs0):Az<W.heap.size:=by
 obtain⟨zs,_,⟨_,d⟩,_⟩:=h;exact d.lt
theorem AZ.trans{B:World}(h:AZ A B Az zs0)(g:AZ B W Az zs0):AZ A W Az zs0:=by
 obtain⟨zs,h1,d,I⟩:=g;obtain⟨_,_,_,J⟩:=h;exact⟨zs,h1,d,Bh J I⟩
end
theorem WX(x:Nat)(w:World):Calls prog 202 #[.int .u64 x] w λe w' =>e= .returned (.bool false)/\w=w' :=by
 go_enter func202,ntmps202;go_wp2;go_ret;exact⟨by simp,rfl⟩
theorem Bf(x y:Nat)(w:World):Calls prog 183 #[.int .u64 x, .int .u64 y] w λe w' =>e= .returned (.bool (decide (x<y)))/\w=w' :=by
 have hN:=Zh (λz=>WX z w);go_enter func183,ntmps183;go_wp2_with fail;refine(hN _).mono ?_;rintro e w1 ⟨rfl,rfl⟩;go_wp2;go_ret;exact⟨by simp,rfl⟩
