/- A part. -/
import Derived.Test.YtiopopoohglepaaGreatDoorVMxjb
import Derived.Test.YtiopopoohglepaaGreatDoorVMxkb
import Derived.Test.YtiopopoohglepaaGreatDoorVMxlb
set_option linter.all false
set_option maxRecDepth 100000
set_option maxHeartbeats 8000000
namespace Go.Proofs.YtiopopoohglepaaGreatDoor
open Go.Proofs.Tryz
open Go.RowKit Go.Shelf
variable {F F':Nat->Prop}{M bn k s t:Nat}{n:BN}{v:Value}{w:World}
variable {w':World}   {R:Zr} {H:List Nat} {P q most last G:Nat}
theorem Tu(aW:Am w s F R H P q most last G)(aQ:Ba R)(J:BN.A1 t){v:V3}(aL:Dv w F M bn n v)(aR:s<M)(aS:1<M)(aT:n.keys.length<=40)(a5:n.Ab.length=n.keys.length)(a6:n.kids.length=n.keys.length+1)(k:Nat)(a7:k<n.kids.length):
 Calls prog 129 #[.agg #[.pointer (some ⟨s,0,none⟩), .int .i64 t], .pointer (some ⟨bn,0,none⟩), .int .i64 (k:Nat)] w (SY w s F P q most last G M bn v (By R t n k)):=by
 obtain⟨bk,nn,a8⟩: ∃N nn,Rd N w s R nn:=by
  obtain⟨nn,ac,-⟩:=aW.rd;exact⟨_,nn,ac⟩
 obtain⟨O,ae⟩:=Zx (w.alloc (Obj.cells #[.pointer (some ⟨s,0,none⟩), .int .i64 t] 77));obtain⟨bf,aX⟩:=Zx w.heap.size;have ab:=G5;have Z:An O bf 77 [.pointer (some ⟨s,0,none⟩), .int .i64 t]:=by rw [ae,aX];exact An.new w 77 [.pointer (some ⟨s,0,none⟩), .int .i64 t]
 obtain⟨v1,v2,v3⟩:=v;obtain⟨aM,ci,a9,_,_⟩:=Bj aL.own.r3 (λe=>by rw [e] at a7;simp at a7);dsimp only at a9;subst a9;have aj:Hid (∀(X:World),Below w.heap.size w X-> ∀k:Int,Calls prog 127 #[.agg #[.pointer (some ⟨s,0,none⟩), .int .i64 t], .pointer (some ⟨bn,0,none⟩), .int .i64 k] X λe w' =>e= .returned (.bool (CA R t n.kids k))/\Below X.heap.size X w'):=Zh (λX aH k=>Og (a8.below aH) J (aL.below aH).box (Fg (aL.below aH).own.r3) aL.ok.kids (by omega) k);have aD:Hid (∀(X:World),Below w.heap.size w X->Am X s F R H P q most last G/\Dv X F M bn n (v1,v2, .slice (some ⟨aM,0,none⟩) n.kids.length ci)/\Ad w (λk=>F k\/DD bn (v1,v2, .slice (some ⟨aM,0,none⟩) n.kids.length ci) k) X (λk=>F k\/DD bn (v1,v2, .slice (some ⟨aM,0,none⟩) n.kids.length ci) k)):=Zh (λX aH=>⟨aW.below aH,aL.below aH,(Ad.below aH).or _⟩);have bm:2<=t/\t<=16:=J;have aA:Hid (∀e X,Below w.heap.size w X->e=Ending.returned (.int .i64 (k:Nat))->By R t n k=(R,n,[],k)->SY w s F P q most last G M bn (v1,v2, .slice (some ⟨aM,0,none⟩) n.kids.length ci) (By R t n k) e X):=Zh (λe X aH he ac=>by
  rw [ac];obtain⟨h1,aY,aZ⟩:=aD.out X aH;exact⟨F,H,_,he,h1,aY,aZ⟩)
 have hcut:Hid (∀(p:(Zr) × BN) (d:List Nat) (j:Nat) X,Below w.heap.size w X-> ∀ba X' a0 a1,NO X s F P q most last G M bn (v1,v2, .slice (some ⟨aM,0,none⟩) n.kids.length ci) p ba X' ->X' =a1 ->a0 =Ending.returned (.int .i64 (j:Nat))->By R t n k=(p.1,p.2,d,j)->SY w s F P q most last G M bn (v1,v2, .slice (some ⟨aM,0,none⟩) n.kids.length ci) (By R t n k) a0 a1):=Zh (λp d j X aH ba X' a0 a1 bg bh he ac=>by
  rw [ac];subst bh;obtain⟨F',H',v',-,h1,aY,aZ⟩:=bg;exact⟨F',H',v',he,h1,aY,(aD X aH).2.2.trans aZ⟩)
 have al:=Zh (And.intro ae aX);obtain⟨aU,aw,ag⟩:=EW;have am:=Zh (And.intro a5 a6);clear ae aX aW aL a8 Z a5 a6;have bi:IntKind.i64.wrap ((k:Int)+1)=(k:Int)+1:=by rw [IntKind.wrap_i64];have:=am.2;omega
 have bb:CA R t n.kids ((k:Int)+1)=Bk R t n (k+1):=by rw [<-DC];push_cast;rfl
 have bc:CA R t n.kids (k:Int)=Bk R t n k:=DC R t n k;have aI:=Zh bb;have an:=Zh bc;clear bc bb
 cases k with
 |zero=>
  have aN:Hid (CA R t n.kids 0=Bk R t n 0):=Zh an.out;have aO:Hid (CA R t n.kids 1=Bk R t n 1):=Zh aI.out;clear an aI;have an:=aN;have aI:=aO;clear aN aO
  cases c0:Bk R t n 0 with
  |true=>
   go_enter func129,ntmps129;have I:=aj.out O aw 0;exact Ybi
  |false=>
   cases c2:Bk R t n 1 with
   |true=>
    have aP:0<n.keys.length:=by
     exact Yet
    have aK:2<=(Ag R t (n.kids.getD (0+1) 0)).keys.length:=by
     have ac:=c2;unfold Bk at ac;simp only [Bool.and_eq_true,decide_eq_true_eq] at ac
     show 2<=(Ag R t (n.kids.getD 1 0)).keys.length
     omega
    have aV:=Zh aK;clear aK;go_enter func129,ntmps129;have I:=aj.out O aw 0;rw [an.out,c0] at I;have aB:=Zh I;clear I;go_wp2_with fail;rw [<-al.1,<-al.2];refine aB.mono ?_;rintro e aJ ⟨rfl,U⟩;clear aB;have ah:=Vw;obtain⟨aa,V⟩:=A2 (ag.below (U));have I:=aj.out aJ ah (-1);rw [Le] at I;have aB:=Zh I;clear I;go_wp2_with fail;refine aB.mono ?_;rintro e aG ⟨rfl,af⟩;clear aB aa V;have ai:=Wx;obtain⟨aa,V⟩:=A2 (ag.below (U.trans (af.mono U.size)));have I:=aj.out aG ai 1;rw [aI.out,c2] at I;have aB:=Zh I;clear I;go_wp2_with fail;refine aB.mono ?_;rintro e aE ⟨rfl,ar⟩;clear aB aa V;have aC:=Yf;obtain⟨aa,V⟩:=A2 (ag.below ((U.trans (af.mono U.size)).trans (ar.mono (U.trans (af.mono U.size)).size)));have aq:=Zh (Ma (aD aE aC).1 aQ aU (aD aE aC).2.1 aR aS aT am.1 am.2 0 aP aV);go_wp2_with fail;refine aq.mono ?_;rintro e Y aF;have ao:=aF;obtain⟨F',H',v',rfl,ax,ay,az⟩:=aF;have au:=Zh (hcut (DB R t n 0) [] 0 _ aC _ _ (.returned (.int .i64 (0:Nat))) _ ao rfl rfl (by
     unfold By;rw [if_neg (by rw [c0];decide),if_neg (by rintro⟨ac,_⟩;omega),if_pos c2]))
    exact Yo
   |false=>
    by_cases aP:0+1<n.kids.length
    . have bj:0<n.keys.length:=by have:=am.2;omega
      have bd:decide ((1:Int)<(n.kids.length:Int))=true:=decide_eq_true (by omega);go_enter func129,ntmps129;have I:=aj.out O aw 0;rw [an.out,c0] at I;have aB:=Zh I;clear I;go_wp2_with fail;rw [<-al.1,<-al.2];refine aB.mono ?_;rintro e aJ ⟨rfl,U⟩;clear aB;have ah:=Vw;obtain⟨aa,V⟩:=A2 (ag.below (U));have I:=aj.out aJ ah (-1);rw [Le] at I;have aB:=Zh I;clear I;go_wp2_with fail;refine aB.mono ?_;rintro e aG ⟨rfl,af⟩;clear aB aa V;have ai:=Wx;obtain⟨aa,V⟩:=A2 (ag.below (U.trans (af.mono U.size)));have I:=aj.out aG ai 1;rw [aI.out,c2] at I;have aB:=Zh I;clear I;go_wp2_with fail;refine aB.mono ?_;rintro e aE ⟨rfl,ar⟩;clear aB aa V;have aC:=Yf;obtain⟨aa,V⟩:=A2 (ag.below ((U.trans (af.mono U.size)).trans (ar.mono (U.trans (af.mono U.size)).size)));have a2:=(aD aE aC).2.1.box.at' (i:=2) rfl;dsimp only at a2;have aq:=Zh (I5 (aD aE aC).1 aQ aU (aD aE aC).2.1 aR aS aT am.1 am.2 0 bj);go_wp2_with fail;refine aq.mono ?_;rintro e Y aF;have ao:=aF;obtain⟨F',H',v',rfl,ax,ay,az⟩:=aF;have au:=Zh (hcut (BO R t n 0) [n.kids.getD (0+1) 0] 0 _ aC _ _ (.returned (.int .i64 (0:Nat))) _ ao rfl rfl (by
       unfold By;rw [if_neg (by rw [c0];decide),if_neg (by rintro⟨ac,_⟩;omega),if_neg (by rw [c2];decide),if_neg (by omega),if_pos aP]))
      exact Yo
    . have bd:decide ((1:Int)<(n.kids.length:Int))=false:=decide_eq_false (by omega)
      go_enter func129,ntmps129;have I:=aj.out O aw 0;rw [an.out,c0] at I;have aB:=Zh I;clear I;go_wp2_with fail;rw [<-al.1,<-al.2];refine aB.mono ?_;rintro e aJ ⟨rfl,U⟩;clear aB;have ah:=Vw;obtain⟨aa,V⟩:=A2 (ag.below (U));have I:=aj.out aJ ah (-1);rw [Le] at I;have aB:=Zh I;clear I;go_wp2_with fail;refine aB.mono ?_;rintro e aG ⟨rfl,af⟩;clear aB aa V;have ai:=Wx;obtain⟨aa,V⟩:=A2 (ag.below (U.trans (af.mono U.size)));have I:=aj.out aG ai 1;rw [aI.out,c2] at I;have aB:=Zh I;clear I;go_wp2_with fail;refine aB.mono ?_;rintro e aE ⟨rfl,ar⟩;clear aB aa V;have aC:=Yf;obtain⟨aa,V⟩:=A2 (ag.below ((U.trans (af.mono U.size)).trans (ar.mono (U.trans (af.mono U.size)).size)));have a2:=(aD aE aC).2.1.box.at' (i:=2) rfl;dsimp only at a2;have au:=Zh (aA _ _ aC rfl (by
       unfold By;rw [if_neg (by rw [c0];decide),if_neg (by rintro⟨ac,_⟩;omega),if_neg (by rw [c2];decide),if_neg (by omega),if_neg aP]))
      go_wp2;go_ret;exact au.out
 |succ j=>
  have be:j<n.keys.length:=by have:=am.2;omega
  have a3:Hid (CA R t n.kids (j:Int)=Bk R t n j):=Zh (DC R t n j);have aN:=an.out;have aO:=aI.out;push_cast at aN aO bi;clear an aI;have an:=Zh aN;have aI:=Zh aO;clear aN aO;have bo:IntKind.i64.wrap ((j:Int)+1-1)=(j:Int):=by rw [IntKind.wrap_i64];omega
  have bp:IntKind.i64.wrap (j:Int)=(j:Int):=by rw [IntKind.wrap_i64];omega
  cases c0:Bk R t n (j+1) with
  |true=>
   go_enter func129,ntmps129;have I:=Ze;exact Ybi
  |false=>
   cases c1:Bk R t n j with
   |true=>
    have aK:2<=(Ag R t (n.kids.getD j 0)).keys.length:=by
     have ac:=c1;exact Ygb
    have aV:=Zh aK;clear aK;go_enter func129,ntmps129;have I:=Ze;rw [an.out,c0] at I;have aB:=Zh I;clear I;go_wp2_with fail;rw [<-al.1,<-al.2];refine aB.mono ?_;rintro e aJ ⟨rfl,U⟩;clear aB;have ah:=Vw;obtain⟨aa,V⟩:=A2 (ag.below (U));have I:=aj.out aJ ah (j:Int);rw [a3.out,c1] at I;have aB:=Zh I;clear I;go_wp2_with fail;refine aB.mono ?_;rintro e aG ⟨rfl,af⟩;clear aB aa V;have ai:=Wx;obtain⟨aa,V⟩:=A2 (ag.below (U.trans (af.mono U.size)));have aq:=Zh (UA (aD aG ai).1 aQ aU (aD aG ai).2.1 aR aS aT am.1 am.2 j be aV);go_wp2_with fail;refine aq.mono ?_;rintro e Y aF;have ao:=aF;obtain⟨F',H',v',rfl,ax,ay,az⟩:=aF;have au:=Zh (hcut (EZ R t n j) [] (j+1) _ ai _ _ (.returned (.int .i64 ((j+1):Nat))) _ ao rfl rfl (by
     unfold By;rw [if_neg (by rw [c0];decide),if_pos ⟨by omega,c1⟩];rfl))
    exact Yo
   |false=>
    cases c2:Bk R t n (j+1+1) with
    |true=>
     have aP:j+1<n.keys.length:=by
      exact Yet
     have aK:2<=(Ag R t (n.kids.getD (j+1+1) 0)).keys.length:=by
      have ac:=c2;exact Ygb
     have aV:=Zh aK;clear aK;go_enter func129,ntmps129;have I:=Ze;rw [an.out,c0] at I;have aB:=Zh I;clear I;go_wp2_with fail;rw [<-al.1,<-al.2];refine aB.mono ?_;rintro e aJ ⟨rfl,U⟩;clear aB;have ah:=Vw;obtain⟨aa,V⟩:=A2 (ag.below (U));have I:=aj.out aJ ah (j:Int);rw [a3.out,c1] at I;have aB:=Zh I;clear I;go_wp2_with fail;refine aB.mono ?_;rintro e aG ⟨rfl,af⟩;clear aB aa V;have ai:=Wx;obtain⟨aa,V⟩:=A2 (ag.below (U.trans (af.mono U.size)));have I:=aj.out aG ai ((j:Int)+1+1);rw [aI.out,c2] at I;have aB:=Zh I;clear I;go_wp2_with fail;refine aB.mono ?_;rintro e aE ⟨rfl,ar⟩;clear aB aa V;have aC:=Yf;obtain⟨aa,V⟩:=A2 (ag.below ((U.trans (af.mono U.size)).trans (ar.mono (U.trans (af.mono U.size)).size)));have a4:=(Ma (aD aE aC).1 aQ aU (aD aE aC).2.1 aR aS aT am.1 am.2 (j+1) aP aV);push_cast at a4;have aq:=Zh a4;clear a4;go_wp2_with fail;refine aq.mono ?_;rintro e Y aF;have ao:=aF;obtain⟨F',H',v',rfl,ax,ay,az⟩:=aF;have au:=Zh (hcut (DB R t n (j+1)) [] (j+1) _ aC _ _ (.returned (.int .i64 ((j+1):Nat))) _ ao rfl rfl (by
      unfold By;rw [if_neg (by rw [c0];decide),if_neg (by rintro⟨_,ac⟩;rw [show j+1-1=j from rfl,c1] at ac;cases ac),if_pos c2]))
     exact Yo
    |false=>
     have bd:decide ((0:Int)<(j:Int)+1)=true:=decide_eq_true (by omega);go_enter func129,ntmps129;have I:=Ze;rw [an.out,c0] at I;have aB:=Zh I;clear I;go_wp2_with fail;rw [<-al.1,<-al.2];refine aB.mono ?_;rintro e aJ ⟨rfl,U⟩;clear aB;have ah:=Vw;obtain⟨aa,V⟩:=A2 (ag.below (U));have I:=aj.out aJ ah (j:Int);rw [a3.out,c1] at I;have aB:=Zh I;clear I;go_wp2_with fail;refine aB.mono ?_;rintro e aG ⟨rfl,af⟩;clear aB aa V;have ai:=Wx;obtain⟨aa,V⟩:=A2 (ag.below (U.trans (af.mono U.size)));have I:=aj.out aG ai ((j:Int)+1+1);rw [aI.out,c2] at I;have aB:=Zh I;clear I;go_wp2_with fail;refine aB.mono ?_;rintro e aE ⟨rfl,ar⟩;clear aB aa V;have aC:=Yf;obtain⟨aa,V⟩:=A2 (ag.below ((U.trans (af.mono U.size)).trans (ar.mono (U.trans (af.mono U.size)).size)));have aq:=Zh (I5 (aD aE aC).1 aQ aU (aD aE aC).2.1 aR aS aT am.1 am.2 j be);go_wp2_with fail;refine aq.mono ?_;rintro e Y aF;have ao:=aF;obtain⟨F',H',v',rfl,ax,ay,az⟩:=aF;have au:=Zh (hcut (BO R t n j) [n.kids.getD (j+1) 0] j _ aC _ _ (.returned (.int .i64 (j:Nat))) _ ao rfl rfl (by
      unfold By;rw [if_neg (by rw [c0];decide),if_neg (by rintro⟨_,ac⟩;rw [show j+1-1=j from rfl,c1] at ac;cases ac),if_neg (by rw [c2];decide),if_pos (by omega)];rfl))
     exact Yo
