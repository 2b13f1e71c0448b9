/- A part. -/
import Derived.Test.YtiopopoohglepaaGreatDoorVMxo
import Derived.Test.YtiopopoohglepaaGreatDoorRows
import Derived.LaidMore
import Derived.OpenShut
import Derived.ShutString
import Derived.ChangeOld
import Derived.Stop.Joined
import Derived.Deep.Slices
import Derived.Deep.Fields
import Derived.ChangeSame
import Derived.Deep.SlicePairs
import Derived.ChangeSlices
import Derived.SizedLaws
import Derived.Deep.Grids
set_option linter.all false
set_option maxRecDepth 100000
set_option maxHeartbeats 16000000
namespace Go.Proofs.YtiopopoohglepaaGreatDoor
open Go.Proofs.Tryz
open Go.ChangeShapes Go.WideShapes Go.ChangeAt Go.WideMaps Go.WideElems Go.RowKit Go.Deep
variable {cs:List Value}{fuel:Nat}
theorem own:ownKnob prog.godebug=none:=by kernel_rfl
theorem laidOut:laidOutB prog=true:=by kernel_rfl
theorem ZM:prog.globalNamed "math/bits.deBruijn64tab" =some 1:=by kernel_rfl
theorem ZF:(prog.globals[1]?).map (·.type)=some 246:=by kernel_rfl
abbrev GD:List (String × DataW Unit):= [("math/bits.deBruijn64tab",Rows.laid_math_bits_deBruijn64tab)]
theorem N1:(Rows.laid_math_bits_deBruijn64tab:DataW Unit)= .agg (Lib.deBruijn64tab.map λn=> .lit (.int .u8 (n:Nat))):=rfl
theorem LL(os:Os)(args:Array Value):laidMetH prog GD ((World.doorLaid prog 400 os).forCall (λ_ _=>0) ⟨#[],args,[]⟩).memory:=
 laidMetH_of_parts3 (fuel:=8) (laidMet_of_run' 8 (by kernel_rfl) (by kernel_rfl)) (by kernel_rfl) (by kernel_rfl)
theorem Nf{W:World}(h:laidMetH prog GD W):Hc W:=by
 exact Yah
theorem Ie{n:Int}(h:(Lit.int .i64 n).wf=true): -9223372036854775808<=n/\n<=9223372036854775807:=by
 exact Yge
theorem Jf: ∀{l:List Pr} {j:Nat} {u:Value},(Bv l)[j]? =some u-> ∃(i:Nat) (hi:i<l.length),(j=i*2/\u= .string l[i].1)\/(j=i*2+1/\u= .string l[i].2)
 | [],j,u,h=>by simp [Bv] at h
 |p::l,0,u,h=>by simp [Bv] at h;exact⟨0,by simp, .inl ⟨rfl,h.symm⟩⟩
 |p::l,1,u,h=>by simp [Bv] at h;exact⟨0,by simp, .inr ⟨rfl,h.symm⟩⟩
 |p::l,j+2,u,h=>by
  obtain⟨i,hi,hh⟩:=Jf (l:=l) (j:=j) (u:=u) (by simpa [Bv] using h);refine⟨i+1,by simpa using hi, ?_⟩;rcases hh with ⟨h1,d⟩|⟨h1,d⟩
  . exact .inl ⟨by omega,d⟩
  . exact .inr ⟨by omega,d⟩
theorem E6(b o j:Nat):(⟨b,o,none⟩:Addr).add j=⟨b,o+j,none⟩:=by unfold Addr.add;split<;>simp_all
section
variable {H:Type} {enc:TypeId × Value->H} {w:World} {base:Nat} {held:Bool}
theorem Lg{x:DataW H × List MemPlace}(h:DataW.trod enc prog w base (λ_=>true) held fuel 38 cs=some x): ∃A len cap l,cs= [.slice A len cap]/\len=l.length/\Iz w A l:=by
 exact Yaf
theorem Rt{x:DataW H × List MemPlace}(h:DataW.trod enc prog w base (λ_=>true) held fuel 39 cs=some x): ∃A len cap zs,cs= [.slice A len cap]/\len=zs.length/\LR w A zs:=by
 exact Yaj
end
section
variable {H:Type} {enc:TypeId × Value->H} {w:World} {base:Nat} {held:Bool}
theorem L9{J:List TypeId}{O:List (DataW H)}(hw:(DataW.weightsEach prog J O).all (· <=reachBytes)=true){j len cap:Nat}{A:Option Addr}{d:DataW H}{p:List MemPlace}(I:J[j]? =some 39)(hd:O[j]? =some d)
 (h:DataW.trod enc prog w base (λ_=>true) held fuel 39 [.slice A len cap]=some (d,p)):len<=17592186043904:=by
 exact Yaw
end
end Go.Proofs.YtiopopoohglepaaGreatDoor
namespace Go.Proofs.YtiopopoohglepaaGreatDoor
open Go.Proofs.Tryz
open Go.RowKit Go.Shelf
variable {w:World}
theorem HG(d:Hc w)(t:Int)(l:List Pr)(A:Option Addr)(c:Nat)(zs:List Int)(Z:Option Addr)(I:Nat)(h:Iz w A l)(J:zs.length<=17592186043904)(hg:t<2\/16<t\/100<l.length\/CL l=true\/200<zs.length):
 Calls prog 4 #[.int .i64 t, .slice A l.length c, .slice Z zs.length I] w (FJ w):=by
 exact Yai
def MB(W:World)(F:Nat->Prop)(A:Option Addr)(c:Nat)(l:List Pr):Prop:=AJ W F A (Bv l)/\(A=none->c=0)/\l.length<=c
theorem LY(d:Hc w)(t:Nat)(J:BN.A1 t)(l:List Pr)(A:Option Addr)(c:Nat)(zs:List Int)(Z:Option Addr)(O:Nat)(h:Iz w A l)(I:LR w Z zs)(g1:l.length<=100)(g3:CL l=false)(g4:zs.length<=200):
 Calls prog 4 #[.int .i64 t, .slice A l.length c, .slice Z zs.length O] w (FJ w):=by
 exact Yaa
def KR(ys:List Bool):List Value:=ys.map Value.bool
def MH(w:World)(Z:Option Addr)(ys:List Bool):Prop:=AJ w (λb=>w.heap.size<=b) Z (KR ys)/\ys.length<=9223372036854775807
theorem S0{Z:Option Addr}{I:List Bool}(h:AJ w (λb=>w.heap.size<=b) Z (KR I)){i:Nat}(hi:i<I.length): ∃b o,Z=some ⟨b,o,none⟩/\ ∀W,Below w.heap.size w W->W.cell? ⟨b,o+i,none⟩=some (.bool I[i]):=by
 have d:(KR I)[i]? =some (.bool I[i]):=by unfold KR;rw [List.getElem?_map,List.getElem?_eq_getElem hi];rfl
 exact Yeh
def Yav{P}(h:P:=by
 refine(aR _ aJ).mono ?_;rintro e J ⟨rfl,d⟩;have I:=Zh (aJ.trans (d.mono aJ.size));clear d;go_wp2;go_ret;exact⟨rfl,I⟩):=h
def Yjc{P}(h:P:=by
 have d:=Zh (λW (I:Below w.heap.size w W)=>IU (c:=c) (h.1.AI.below I) h.2.2 h.2.1);exact d):=h
theorem Hf(U:Hc w)(t:Int)(l:List Pr)(A:Option Addr)(c:Nat)(J:List Bool)(Z:Option Addr)(O:Nat)(key:ByteArray)(h:Iz w A l)(hg:t<2\/16<t\/80<l.length\/CL l=true\/1000<key.size):
 Calls prog 5 #[.int .i64 t, .slice A l.length c, .slice Z J.length O, .string key] w (FJ w):=by
 have hN:=Yij;have aR:=Zh (λW (V:Below w.heap.size w W)=>GH (U.below V (CU U)));have aa:=Yjc;have ab:decide (t<2)=true\/(decide (t<2)=false/\decide (16<t)=true)\/(decide (t<2)=false/\decide (16<t)=false/\decide ((80:Int)<(l.length:Int))=true)\/(decide (t<2)=false/\decide (16<t)=false/\decide ((80:Int)<(l.length:Int))=false/\CL l=true)\/(decide (t<2)=false/\decide (16<t)=false/\decide ((80:Int)<(l.length:Int))=false/\CL l=false/\decide ((1000:Int)<(key.size:Int))=true):=by
  simp only [decide_eq_true_eq,decide_eq_false_iff_not]
  cases ac:CL l<;>simp [ac] at hg ⊢ <;>omega
 clear U h hg;unfold FJ;rcases ab with d1|⟨d1,d2⟩|⟨d1,d2,d3⟩|⟨d1,d2,d3,d4⟩|⟨d1,d2,d3,d4,d5⟩
 all_goals
  go_enter func5,ntmps5;go_wp2_with fail;refine hN.mono ?_;rintro e w1 ⟨s,F,rfl,ae,af,ag,I⟩;have aJ:=Zh I;clear I ag ae hN af;go_wp2_with fail
  try
   have d:=Zh (aa w1 aJ);rw [d4] at d;refine d.mono ?_;rintro e ah ⟨rfl,rfl⟩;clear d;go_wp2_with fail
  exact Yav
def Yfx{P}(h:P:=by
 rw [<-aK.1,<-aK.2];exact⟨ab,ag,ax,O,ar,aA.1,aB.1,aB.2,aA.2,aH⟩):=h
def Ykg{P}(h:P:=by
 have aA:=Zh (Lb aC ((Ad.below (F:=am) aU).trans ao) aS.1 z25 ⟨_,rfl,λp I=>by cases I⟩ aN aS.2 (.int .u64 d.kh) (.int .u64 d.vh));have aH:=Zh ((z25.set 0 (.int .u64 d.kh)).set 1 (.int .u64 d.vh));have aB:=Zh (And.intro aG aD);exact And.intro aA (And.intro aH aB)):=h
theorem Qi(U:Hc w)(t:Nat)(bh:BN.A1 t)(l:List Pr)(A:Option Addr)(c:Nat)(a9:List Bool)(Z:Option Addr)(dr:Nat)(key:ByteArray)(h:Iz w A l)(cb:MH w Z a9)(g1:l.length<=80)(g3:CL l=false)(g4:key.size<=1000):
 Calls prog 5 #[.int .i64 t, .slice A l.length c, .slice Z a9.length dr, .string key] w (FJ w):=by
 have cc:=Zh U;have bD:=Yjc;rw [g3] at bD;have t1:=bh.1;have t2:=bh.2;have d1:decide ((t:Int)<2)=false:=decide_eq_false (by omega);have d2:decide ((16:Int)<(t:Int))=false:=decide_eq_false (by omega);have d3:decide ((80:Int)<(l.length:Int))=false:=decide_eq_false (by omega);have d6:decide ((1000:Int)<(key.size:Int))=false:=decide_eq_false (by omega);have hN:=Yij;have ds:=Zh h.1.AI;have dt:=Zh h.2.1;have es:=Ib l;have du:=Zh (Ip l);have cd:=Pz g3;have ce:Hid (∀p∈BX l,p.1.size<=1000/\p.2.size<=1000):=Zh (λp hp=>cd p (H6 hp));have dv:=Zh cb.1;have aj:=Zh bh;clear U h g3 cd cb bh;unfold FJ;go_enter func5,ntmps5;go_wp2_with fail;refine hN.mono ?_;rintro e w1 ⟨s,F,rfl,bE,et,cf,bi⟩;have ac:=Zh bi;have cg:Hid (AU w1 s F (λ_=>none) [] 0 262144 1000 4294967295 0 t 0 [] [] 0 0):=Zh (AU.start bE t);have ci:Hid (∀b,F b->w.heap.size<=b):=Zh cf;have cj:=Zh (Jz (c:=c) (ds.below bi) bi.size (by omega) dt);have ck:=Zh (λb (aY:F b)=>bE.lt aY);clear bi cf bE hN;go_wp2_with fail;refine(bD _ ac).mono ?_;rintro e eu ⟨rfl,rfl⟩;clear bD;go_wp2_with fail;refine cj.mono ?_;rintro e w3 ⟨v,rfl,a5,I⟩;obtain⟨bb,c2,rfl,cl,cn,co⟩:=Gq a5 rfl;have cp:=Zh (cg.below I);have bj:=DR;have bk:Hid (MB w3 F bb c2 (BX l)):=Zh ⟨AJ.own a5 co ck,cl,cn⟩;clear a5 co cl cn I cj cg ck;generalize BX l=m at*;have ev:m.length<=80:=by omega
 go_wp2_with fail
 go_loopw [11,13] (λdw bF wr=> ∃(i root:Nat) (Aa:List It) (ns:List Nat) (hg:Nat) (F' :Nat->Prop) (R' :Zr) (H' :List Nat),i<=m.length/\bF= .int .i64 i/\dw= .int .u64 root/\Hid (AU wr s F' R' H' (20*i) 262144 1000 4294967295 (9*i) t root Aa ns hg 0)/\Hid (Bt.AI Aa=m.take i)/\Hid (Ad w3 F wr F')) (λ_ bF _=>m.length-(intOf bF).toNat)
 case atStart=>exact⟨0,0,[],[],0,F,(λ_=>none),[],by omega,rfl,rfl,by simpa using cp,Zh rfl,Zh (Ad.refl _ _)⟩
 case round=>
  obtain⟨i,root,Aa,ns,hg,F',R',H',dx,rfl,rfl,aw,aq,bc⟩:=hrel;by_cases bG:i<m.length
  ·
   as_aux_lemma=>
   obtain⟨bm,cr,bH,q1,bo⟩:=(bk.1.Ar bc).Ka bG;obtain⟨bI,bJ⟩:=O1 du bG;have bp:=ce.out _ (List.getElem_mem bG);obtain⟨p,hp⟩: ∃p,m[i]=p:=⟨_,rfl⟩;rw [hp] at bI bJ bp;simp only [hp] at q1 bo;have aM:Aa.length=i:=(by rw [<-Bt.Bn,aq.out,List.length_take];omega);have bK:=Ykw;have cu:=Zh (JS aw.out p bp.1 bp.2 (by omega) (by have:=bK.out;omega) (by omega));have aP:=Zh bI;have aQ:=Zh bJ;subst bH;clear bI bJ hp aM bp;go_wp2_with fail;refine cu.mono ?_;rintro e w4 ⟨it,R3,am,bq,rfl,ae,aa,J,hi,cv,U,cw,ew⟩;have bL:=Zh (J.LB aj.out it hi cv (by have:=bK.out;omega) cw (by omega) (by have:=bK.out;omega) (by omega));have br:=Zh (bc.trans U);obtain⟨aO,aL⟩:=LJ;obtain⟨kh,cx⟩:=Zx it.kh;obtain⟨vh,cy⟩:=Zx it.vh;rw [<-cx,<-cy] at bL ⊢;clear cu J U ae aa cv hi cw q1 bo cx cy;go_wp2_with fail;refine bL.mono ?_;intro e a4 dy;have an:=Yjq
   cases dy with
   |here aY _ _ _ _=>exfalso;rw [an] at aY;cases aY
   | @put _ now R4 F4 H4 ns' hg' aY a6 ba=>
     have bM:Below a4.heap.size a4 (a4.alloc (Obj.cells #[.int .u64 0, .int .u64 0] 31)):=(Below.refl _ a4).alloc (Nat.le_refl _) _;have cz :=(a6.more (P' :=20*(i+1)) (G' :=9*(i+1)) (by omega) (by omega)).below bM;have dz:Hid (Bt.AI (Bt.BF Aa it)=m.take (i+1)):=Zh (by
      exact Ybs)
     have dA:=Zh cz;have dB:=Zh ((br.trans ba).trans (Ad.below bM));clear a6 cz bM ba aY an bL;go_wp2;go_roundw
     case rel=>exact⟨i+1,now,_,ns',hg',F4,R4,H4,by omega,by go_num,rfl,dA,dz,dB⟩
     case measure=>simp [intOf];omega
  . obtain rfl:i=m.length:=by omega
    have bs:Hid (Bt.AI Aa=m):=Zh (by rw [aq.out,List.take_length]);have bu:Hid (MB wr F' bb c2 m):=Zh ⟨bk.1.Ar bc,bk.2⟩;clear aq;have dC:Hid (D5 m):=Zh (λp hp=>by have:=ce.out p hp;omega);have cB:=Zh (Rp (c:=c2) bu.1.AI (Nat.le_refl _) (by omega) dC key (by omega));go_wp2_with fail;refine cB.mono ?_;rintro e w4 ⟨rfl,a6⟩;have a3:=Zh (aw.below a6);have ba:=Zh (bc.trans (Ad.below (F:=F') a6));have bv:Hid (MB w4 F' bb c2 m):=Zh ⟨bu.1.Ar (Ad.below (F:=F') a6),bu.2⟩;have bN:=Zh (bj.trans (ba.F5 bj.size ci.out));have dD:Hid (∀b,F' b->w.heap.size<=b):=Zh (λb aY=>by
     rcases ba.grow b aY with aZ|aZ
     . exact ci.out b aZ
     . exact Nat.le_trans bj.size aZ)
    obtain⟨bO,bP⟩:=Zx (EG m key);rw [<-bP];have cC:=Zh bP;clear aw bk cp bu bc cB a6 bP;go_upto_if 94 with (fail);go_cut [18,19,20,21] from 94 to 127 (λcD ex ey ez a7=>Hid (Below w4.heap.size w4 a7))
    case first=>
     as_aux_lemma=>
     by_cases cF:bO<0
     . have dE:decide (bO<0)=true:=decide_eq_true cF
       have an:Bt.Bb Aa key=none:=Gn a3.ow.Dn (by rw [bs.out,<-cC.out];omega);have dF:Aa.length=m.length:=(by rw [<-Bt.Bn,bs.out]);have cG:=Zh (a3.Rx aj.out g4 an (by omega));have dG:=Zh (λW (J:Below w4.heap.size w4 W)=>XN aj.out (a3.below J) (by omega) c2 bs (bv.1.Ar (Ad.below (F:=F') J)));clear an dF;go_wp2_with fail;refine cG.mono ?_;rintro e a4 ⟨rfl,bQ⟩;have af:=Zh (bQ.alloc bQ.size (Obj.cells #[.int .u64 0, .int .u64 0] 31));clear bQ cG;go_wp2_with fail;refine(dG _ af).mono ?_;rintro e a1 ⟨rfl,V⟩;have dH:=Jt;clear V;go_wp2;go_meet
       case rel=>exact dH
     . have dE:decide (bO<0)=false:=decide_eq_false cF
       have dI:=Zh (Below.refl w4.heap.size w4);go_wp2;go_meet
       case rel=>exact dI
    case rest=>
     obtain⟨a4,cH⟩:=Zx wc;rw [<-cH] at hcut ⊢;clear cH;have dJ:=Zh (a3.below hcut);have bR:Hid (MB a4 F' bb c2 m):=Zh ⟨bv.1.Ar (Ad.below (F:=F') hcut),bv.2⟩;have cI:=Zh (bN.trans (hcut.mono bN.size));clear a3 bv ba hcut bN bj cC;go_wp2_with fail
     go_loopg [11,12,22] m.length (λdK dL dM cD aX=> ∃(i bw:Nat) (bd:Option Addr) (c3:Nat) (l3:List Pr) (aV:List It) (cJ:List Nat) (cK:Nat) (am:Nat->Prop) (R3:Zr) (bq:List Nat),dL= .int .u64 bw/\dM= .slice bd l3.length c3/\cD= .int .i64 i/\i+l3.length=m.length/\l3.length<=dK/\Hid (AU aX s am R3 bq (20*m.length) 262144 1000 4294967295 (9*m.length) t bw aV cJ cK 0)/\Hid (Bt.AI aV=l3)/\Hid (MB aX am bd c3 l3)/\Hid (Ad a4 F' aX am))
     case atStart=>exact⟨0,root,bb,c2,m,Aa,ns,hg,F',R',H',rfl,rfl,rfl,by omega,Nat.le_refl _,dJ,bs,bR,Zh (Ad.refl _ _)⟩
     case round=>
      obtain⟨aX,cL⟩:=Zx wr;rw [<-cL] at hrel ⊢;clear cL;obtain⟨i,bw,bd,c3,l3,aV,cJ,cK,am,R3,bq,rfl,rfl,rfl,dx,eA,a2,bz,be,br⟩:=hrel;have al:=Zh (cI.trans (br.F5 cI.size dD.out));have a8:Hid (aV.length=l3.length):=Zh (by rw [<-Bt.Bn,bz.out]);by_cases cM:l3.length=0
      ·
       as_aux_lemma=>
       have bS:aV= []:=List.eq_nil_of_length_eq_zero (a8.trans cM);have dN:bw=0:=(a2.tr.zero a2.z).2 bS;have dl:decide ((0:Int)<(l3.length:Int))=false:=decide_eq_false (by omega);have dln:decide (0<l3.length)=false:=decide_eq_false (by omega);have dO:Hid (bq= []):=Zh (List.eq_nil_of_length_eq_zero (by
        have h1:=a2.len;have cN:=a2.tr.II aj.out;rw [bS] at h1 cN;simp only [List.length_nil] at h1 cN;omega))
       have cO:=Zh (TJ a2.st);subst dN;have aR:=Zh (λW (J:Below w.heap.size w W)=>GH (cc.below J (CU cc)));clear bS cM;go_wp2_with fail;refine cO.mono ?_;rintro e a1 ⟨n6,rfl,bf,-,V⟩;have dP:n6=0:=by
        obtain⟨p,h1,-,dQ,-⟩:=bf;rw [h1,dQ dO.out]
       subst dP;have aJ:=Ygo;clear V cO bf;go_wp2_with fail;exact Yav
      . have dl:decide ((0:Int)<(l3.length:Int))=true:=decide_eq_true (by omega)
        have eB:0<l3.length:=(by omega);obtain⟨w4,bA⟩:=Zx (aX.alloc (Obj.cells #[.int .u64 0, .int .u64 0] 31));obtain⟨aW,bT⟩:=Zx aX.heap.size;have ah:Below aX.heap.size aX w4:=(by rw [bA];exact(Below.refl _ _).alloc (Nat.le_refl _) _);have bB:Hid (An w4 aW 31 [.int .u64 0, .int .u64 0]):=Zh (by rw [bA,bT];exact An.new aX _ _);have n25:Hid (¬am aW):=Zh (λaY=>by have:=a2.st.lt aY;omega);have aS:=Zh (show aX.heap.size<=aW/\s<aW/\1<aW from⟨by omega,by have:=a2.st.FN;omega,by have:=a2.st.CU;omega⟩);have a3:=Zh (a2.below ah);have aU:=Zh ah;have dR:=Ym;have cP:=Zh (And.intro bA bT);clear bA bT ah;go_upto_region 20 with (fail);rw [<-cP.1,<-cP.2];go_cut [144] from 135 to 143 (λdS a7=> ∃bm:Bool,dS= .bool bm/\w4=a7)
        case first=>
         by_cases dT:i<a9.length
         . have dU:decide ((i:Int)<(a9.length:Int))=true:=decide_eq_true (by omega)
           obtain⟨eC,eD,rfl,cQ⟩:=S0 dv dT;have dV:=cQ _ dR.out;obtain⟨a,ha⟩: ∃a,a9[i]=a:=⟨_,rfl⟩;rw [ha] at dV;clear ha cQ;go_wp2;go_meet
           case rel=>exact⟨a,rfl,rfl⟩
         . have dU:decide ((i:Int)<(a9.length:Int))=false:=decide_eq_false (by omega)
           go_wp2;go_meet
           case rel=>exact⟨false,rfl,rfl⟩
        case rest=>
         obtain⟨bm,rfl,rfl⟩:=hcut;go_upto_if 144 with (fail);go_cut [23,24,26,27] from 145 to 165 (λdW dX dY dZ a7=> ∃(k now:Nat) (a0:k<aV.length),dW= .int .i64 (k:Nat)/\dX= .int .u64 now/\dY= .bool true/\dZ= .int .i64 0/\Hid (∃(ab:Zr) (ag:Nat->Prop) (ax:List Nat) (O:List Nat) (ar:Nat),AU a7 s ag ab ax (20*m.length) 262144 1000 4294967295 (9*m.length) t now (aV.eraseIdx k) O ar 2/\aV[k].At ab/\((O++(aV.eraseIdx k).flatMap It.hs)++aV[k].hs).Nodup/\Ad aX am a7 ag/\An a7 aW 31 [.int .u64 (aV[k].kh:Nat), .int .u64 (aV[k].vh:Nat)]))
         case first=>
          cases bm with
          |true=>
           as_aux_lemma=>
           obtain⟨k,d4⟩: ∃k,l3.length=k+1:=⟨l3.length-1,by omega⟩;have a0:k<aV.length:=(by rw [a8.out];omega);have d5:=Zh (show k+1=aV.length by rw [a8.out];omega);have eE:IntKind.i64.wrap ((l3.length:Int)-1)=(k:Int):=(by rw [IntKind.wrap_i64];omega);clear d4;obtain⟨d,az⟩:=Zx (aV[k]'a0);obtain⟨bU,aF⟩:=Zx (aV.eraseIdx k);have aE:=a3.Xt aj.out k a0 d5 (by have:=a8.out;omega);rw [<-az,<-aF] at aE;obtain⟨bg,aK⟩:=QI;clear aE az aF;go_wp2_with fail;refine bg.mono ?_;rintro e a1 ⟨ab,ag,ax,now,O,ar,rfl,aC,aG,aD,ao⟩;have z25:=bB.Ar ao n25.out;have aN:=ao.not bB.lt n25.out;obtain⟨⟨d0,d1⟩,f0,f1⟩:=Dl z25;obtain⟨aA,aH,aB⟩:=Ykg;have bV:Hid (∃(ab:Zr) (ag:Nat->Prop) (ax:List Nat) (O:List Nat) (ar:Nat),AU ((a1.setCell ⟨aW,0,none⟩ (.int .u64 d.kh)).setCell ⟨aW,1,none⟩ (.int .u64 d.vh)) s ag ab ax (20*m.length) 262144 1000 4294967295 (9*m.length) t now (aV.eraseIdx k) O ar 2/\aV[k].At ab/\((O++(aV.eraseIdx k).flatMap It.hs)++aV[k].hs).Nodup/\Ad aX am ((a1.setCell ⟨aW,0,none⟩ (.int .u64 d.kh)).setCell ⟨aW,1,none⟩ (.int .u64 d.vh)) ag/\An ((a1.setCell ⟨aW,0,none⟩ (.int .u64 d.kh)).setCell ⟨aW,1,none⟩ (.int .u64 d.vh)) aW 31 [.int .u64 (aV[k].kh:Nat), .int .u64 (aV[k].vh:Nat)]):=Zh (by
            exact Yfx)
           clear aC aG aD ao z25 aN bg aA aH aB aK;go_wp2;go_meet
           case rel=>exact⟨k,now,a0,rfl,rfl,rfl,rfl,bV⟩
          |false=>
           as_aux_lemma=>
           have a0:0<aV.length:=(by rw [a8.out];omega);have d7:=a3.Ps aj.out 0 a0 rfl (by have:=a8.out;omega);obtain⟨d,az⟩:=Zx (aV[0]'a0);obtain⟨bU,aF⟩:=Zx (aV.eraseIdx 0);have aE:=d7;rw [<-az,<-aF] at aE;obtain⟨bg,aK⟩:=QI;clear aE az aF;go_wp2_with fail;refine bg.mono ?_;rintro e a1 ⟨ab,ag,ax,now,O,ar,rfl,aC,aG,aD,ao⟩;have z25:=bB.Ar ao n25.out;have aN:=ao.not bB.lt n25.out;obtain⟨⟨d0,d1⟩,f0,f1⟩:=Dl z25;obtain⟨aA,aH,aB⟩:=Ykg;have bV:Hid (∃(ab:Zr) (ag:Nat->Prop) (ax:List Nat) (O:List Nat) (ar:Nat),AU ((a1.setCell ⟨aW,0,none⟩ (.int .u64 d.kh)).setCell ⟨aW,1,none⟩ (.int .u64 d.vh)) s ag ab ax (20*m.length) 262144 1000 4294967295 (9*m.length) t now (aV.eraseIdx 0) O ar 2/\aV[0].At ab/\((O++(aV.eraseIdx 0).flatMap It.hs)++aV[0].hs).Nodup/\Ad aX am ((a1.setCell ⟨aW,0,none⟩ (.int .u64 d.kh)).setCell ⟨aW,1,none⟩ (.int .u64 d.vh)) ag/\An ((a1.setCell ⟨aW,0,none⟩ (.int .u64 d.kh)).setCell ⟨aW,1,none⟩ (.int .u64 d.vh)) aW 31 [.int .u64 (aV[0].kh:Nat), .int .u64 (aV[0].vh:Nat)]):=Zh (by
            exact Yfx)
           clear aC aG aD ao z25 aN bg aA aH aB aK;go_wp2;go_meet
           case rel=>exact⟨0,now,a0,rfl,rfl,rfl,rfl,bV⟩
         case rest=>
          obtain⟨a1,bf⟩:=Zx wc;rw [<-bf] at hcut ⊢;clear bf;obtain⟨k,now,cR,rfl,rfl,rfl,rfl,cT⟩:=hcut
          as_aux_lemma=>
          have a0:k<l3.length:=(by rw [<-a8.out];exact cR);have DF:Hid (aV[k].k=l3[k].1/\aV[k].v=l3[k].2):=Zh (by
           have aZ:l3[k]=aV[k].pr:=(by simp only [<-bz.out];simp [Bt.AI]);rw [aZ];exact⟨rfl,rfl⟩)
          have cU:Hid (Bt.AI (aV.eraseIdx k)=l3.eraseIdx k):=Zh (by unfold Bt.AI;rw [<-Bt.Gi];exact congrArg (·.eraseIdx k) bz);have cV:HV l3 k (k+1)=l3.eraseIdx k:=(by unfold HV;rw [List.eraseIdx_eq_take_drop_succ]);have bW:Hid ((l3.eraseIdx k).length=l3.length-1):=Zh (by rw [List.length_eraseIdx,if_pos a0]);have cW:Hid (∀W,DE W W.heap.size bd l3->Calls prog 22 #[.slice bd l3.length c3, .int .i64 (k:Nat), .int .i64 ((k:Int)+1)] W λe w' => ∃v,e= .returned v/\w'.ownsRow W.heap.size 45 2 v (l3.eraseIdx k).length (Bv (l3.eraseIdx k))/\Below W.heap.size W w'):=Zh (λW d8=>by
           have aZ:=NY (c:=c3) d8 (Nat.le_refl _) be.2.1 be.2.2 (by omega) k (k+1) (by omega) (by omega);rw [cV] at aZ;push_cast at aZ;exact aZ)
          obtain⟨d9,cr,bH,q1,bo⟩:=be.1.Ka a0;have cX:=cT.out;clear cT;obtain⟨d,az⟩:=Zx (aV[k]);obtain⟨cY,bX⟩:=Zx (l3.eraseIdx k);obtain⟨bU,aF⟩:=Zx (aV.eraseIdx k);rw [<-az,<-aF] at cX;rw [<-az] at DF;rw [<-bX,<-aF] at cU;rw [<-bX] at bW cW;obtain⟨cZ,bY⟩: ∃z,l3[k].1=z:=⟨_,rfl⟩;obtain⟨c8,bZ⟩: ∃z,l3[k].2=z:=⟨_,rfl⟩;rw [bY,bZ] at DF;have ea:=Zh (λW (U: ∃F',Ad aX am W F')=>by
           obtain⟨F',U⟩:=U;have aZ:=(be.1.Ar U).Ka a0;rw [bY,bZ] at aZ;exact aZ)
          have eF:k<=100:=(by omega);have eG:=Yko;have eH:decide ((l3.length:Int)<=(k:Int))=false:=decide_eq_false (by omega);have eI:decide (l3.length<=k)=false:=decide_eq_false (by omega);subst bH;obtain⟨ab,ag,ax,O,ar,aC,aG,aD,ao,b3⟩:=cX;have bC:=J6 (m:=0) aC aG aD;rw [DF.1,DF.2] at bC;obtain⟨eJ,c9⟩:=Zx d.kh;obtain⟨eK,da⟩:=Zx d.vh;rw [<-c9,<-da] at bC b3;obtain⟨eb,ec⟩:=A2 b3;have db:=Zh bC;have ed:=Zh ao;clear aC aG aD ao bC c9 da cV az bX aF bY bZ cR a2 a3 bz q1 bo b3;go_wp2_with fail;refine db.mono ?_;rintro e au ⟨ee,dc,ef,rfl,dd,eg,de⟩;obtain⟨ai,ay⟩:=Zx (au.alloc (Obj.cells #[.string cZ, .string c8] 45));obtain⟨eh,b4⟩:=Zx au.heap.size;have b5:=Yhs;have b8:An ai eh 45 [.string cZ, .string c8]:=(by rw [ay,b4];exact An.new au _ _);have df:=Zh (ed.trans (de.trans (Ad.below b5)));have ei:=Zh (dd.below b5);obtain⟨b2,ej,dg,s1,s2⟩:=ea.out ai ⟨_,df⟩;obtain⟨rfl,rfl⟩:d9=b2/\cr=ej:=by simpa using dg
          have ek:=(λX:Au (λ_=>False) ai=>X.cell (b8.at' (i:=0) rfl) (λh=>h));have el:=(λX:Au (λ_=>False) ai=>X.cell (b8.at' (i:=1) rfl) (λh=>h));have em:=(λX:Au (λ_=>False) ai=>X.cell s1 (λh=>h));have en:=(λX:Au (λ_=>False) ai=>X.cell s2 (λh=>h));have dh:=Zh (And.intro ay b4);clear ay b4 b5 b8 dd de eg dg s1 s2 db eb ec;go_wp2;rw [<-dh.1,<-dh.2];refine Aw (λw' => ∃X:Au (λ_=>False) ai,w' =X.W) [.r 0, .r 1, .r 2, .r 3, .r 4, .r 5, .r 6, .r 7, .r 8, .r 9, .r 10, .r 11, .r 12, .r 13, .r 14, .r 15, .r 16, .r 17] (Ay _ _) ?_
          iterate 18 (refine AE ?_;go_simp)
          clear ek el em en;refine AO ?_;have di:=Zh (df.trans (Ad.below (Ac ai)));have dj:=Zh (ei.below (Ac ai));have dk:=Zh (cW _ (be.1.Ar di).AI);go_wp2_with fail;refine dk.mono ?_;rintro e eo ⟨v,rfl,a5,b9⟩;obtain⟨dm,c5,rfl,dn,dp,dq⟩:=Gq a5 rfl;have bR:Hid (MB eo dc dm c5 cY):=Zh ⟨AJ.own a5 dq (λb aY=>dj.st.lt aY),dn,dp⟩;have ep:=Zh (dj.below b9);have eq:=Zh (br.trans (di.trans (Ad.below b9)));clear a5 dn dp dq b9 dk;go_wp2
          go_roundg (l3.length-1)
          case measure=>omega
          case rel=>exact⟨i+1,now,dm,c5,cY,bU,O,ar,dc,ee,ef,rfl,rfl,by go_num,by have:=bW.out;omega,by have:=bW.out;omega,ep,cU,bR,eq⟩
end Go.Proofs.YtiopopoohglepaaGreatDoor
namespace Go.Proofs.YtiopopoohglepaaGreatDoor
open Go.Proofs.Tryz
open Go.ChangeShapes Go.WideShapes Go.ChangeAt Go.WideMaps Go.WideElems Go.RowKit Go.Deep
section
variable {H:Type} {enc:TypeId × Value->H} {w:World} {base:Nat} {held:Bool}
theorem XR{fuel:Nat}{cs:List Value}{x:DataW H × List MemPlace}(h:DataW.trod enc prog w base (λ_=>true) held fuel 54 cs=some x): ∃A len cap J,cs= [.slice A len cap]/\len=J.length/\MH w A J:=by
 rcases open_bools Tryz.underlying54 Tryz.underlying4 (by kernel_rfl) h with ⟨d,_⟩|⟨a,len,cap,B,d,aa,ab,hm,_,O⟩
 . exact⟨none,0,0,[],d,rfl, .inl rfl,by simp⟩
 . unfold maxLen at hm
   refine⟨some a,len,cap,(List.range len).map B,d,by simp, ?_,by simp;omega⟩;by_cases h0:len=0
   . subst h0;exact .inl rfl
   . obtain⟨b,off,spot⟩:=a
     have U:=O 0 (by omega);have V:spot=none:=(by simpa [Addr.add] using World.cell?_spot U);subst V;have I:=World.block_lt_of_cell? _ _ U;rw [E6] at I;refine .inr ⟨b,off,rfl,I,by show¬w.heap.size<=b;simp only at I;omega,λj u hu=> ?_⟩;unfold KR at hu;rw [List.getElem?_map,List.getElem?_map] at hu;by_cases Z:j<len
     . have h1:=O j (by omega)
       rw [E6] at h1;rw [h1];rw [List.getElem?_range Z] at hu
       simpa using hu
     . rw [List.getElem?_eq_none (by simp;omega)] at hu
       simp at hu
end
