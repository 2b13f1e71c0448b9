import Derived.Test.YtiopopoohglepaaGreatDoorPMxn
import Derived.Test.YtiopopoohglepaaGreatDoorCards
import Derived.Test.YtiopopoohglepaaGreatDoorTie
import Derived.LaidMore
import Derived.OpenShut
set_option linter.all false
set_option maxRecDepth 100000
set_option maxHeartbeats 16000000
namespace Go.Proofs.YtiopopoohglepaaGreatDoor
open Go.Proofs.Tryz
open Go.RowKit Go.Shelf
section
variable {A:Option Addr}{a b c l:List Pr}{w:World}
def Yld{P}(h:P:=by
 have hN:=Zh (Rc ay 262144 1000 4294967295 jA jA jA jA jA);exact hN):=h
theorem Iy(ay:Ix w):Calls prog 13 #[] w λe w' =>e= .returned (.bool true)/\Below w.heap.size w w' :=by
 have hN:=Yld;have a8:BN.A0 2:=⟨jA,jA⟩;have am:=Zh a8;clear ay a8;go_enter func13,ntmps13;go_wp2_with fail;refine hN.mono ?_;rintro e w1 ⟨s,F,rfl,V,ci,ab,J⟩;obtain⟨ae,bL,aM⟩:=EA;clear J ab V hN;go_wp2_with fail;obtain⟨ao,U⟩:=Zx (w1.alloc (Obj.cells #[.string ⟨#[97]⟩, .string ⟨#[]⟩, .string ⟨#[98]⟩, .string ⟨#[]⟩, .string ⟨#[99]⟩, .string ⟨#[]⟩, .string ⟨#[100]⟩, .string ⟨#[]⟩] 45));obtain⟨b2,aN⟩:=Zx w1.heap.size;have Z:An ao b2 45 [.string ⟨#[97]⟩, .string ⟨#[]⟩, .string ⟨#[98]⟩, .string ⟨#[]⟩, .string ⟨#[99]⟩, .string ⟨#[]⟩, .string ⟨#[100]⟩, .string ⟨#[]⟩]:=by rw [U,aN];exact An.new w1 45 _
 have a9: ¬F b2:=λai=>by have:=aM.lt ai;omega
 have ba:Hid (∀k (aq:k<4),ao.cell? ⟨b2,k*2,none⟩=some (.string (FL[k]'aq).1)/\ao.cell? ⟨b2,k*2+1,none⟩=some (.string ⟨#[]⟩)):=Zh λk aq=>by
  match k,aq with
  |0,_=>exact⟨Z.at' (i:=0) rfl,Z.at' (i:=1) rfl⟩
  |1,_=>exact⟨Z.at' (i:=2) rfl,Z.at' (i:=3) rfl⟩
  |2,_=>exact⟨Z.at' (i:=4) rfl,Z.at' (i:=5) rfl⟩
  |3,_=>exact⟨Z.at' (i:=6) rfl,Z.at' (i:=7) rfl⟩
 have I:=Yof;have bM:Hid (AN ao s F (λ_=>none) [] 0 262144 1000 4294967295 0 2 0 [] [] 0 0):=Zh (AN.start (aM.below I) 2);have bb:=Dt;have bc:=Zh a9;rw [<-U,<-aN];clear Z I U aN aM ae a9
 go_loopw [3,5] (λbN aO wr=> ∃(k root:Nat) (Aa:List It) (ns:List Nat) (hg:Nat) (F' :Nat->Prop) (R' :Zr) (H' :List Nat),k<=4/\aO= .int .i64 k/\bN= .int .u64 root/\Hid (AN wr s F' R' H' (20*k) 262144 1000 4294967295 (9*k) 2 root Aa ns hg 0)/\Hid (Bt.AJ Aa=FL.take k)/\Hid (Ad ao F wr F')) (λ_ aO _=>4-(intOf aO).toNat)
 case atStart=>exact⟨0,0,[],[],0,F,_,[],jA,rfl,rfl,by simpa using bM,Zh rfl,Zh (Ad.refl _ _)⟩
 case round=>
  obtain⟨k,root,Aa,ns,hg,F',R',H',aq,rfl,rfl,au,al,aB⟩:=hrel;by_cases aC:k<4
  . obtain⟨aP,aD,aE,z2⟩:=UA k aC
    have q1:=aB.cell (ba k aC).1 bc.out;have bO:=aB.cell (ba k aC).2 bc.out;obtain⟨p,hp⟩: ∃p,FL[k]'aC=p:=⟨_,rfl⟩;rw [hp] at aP aD aE z2 q1;obtain⟨bP,aQ⟩:=p;dsimp only at aE z2 q1 aD;subst z2;have bd:Aa.length=k:=(by rw [<-Bt.Bz,al.out,List.length_take];exact Nat.min_eq_left aq);have aR:=Zh (And.intro au.len (And.intro (au.tr.IE am.out) bd));have be:=Zh (Nn au.out (bP,⟨#[]⟩) aE (show(⟨#[]⟩:ByteArray).size<=1000 by decide) jA (by have:=aR.out;omega) jA);have bQ:=Zh aP;have bR:=Zh aD;clear aP aD hp bd aE;go_wp2_with fail;refine be.mono ?_;rintro e w3 ⟨it,R3,cj,ck,rfl,ax,aH,aJ,hi,bf,ay,bg,cl⟩;have hIn:=aJ.PC am.out it hi bf (by have:=aR.out;omega) bg jA (by have:=aR.out;omega) jA;rw [show((2:Nat):Int)=2 from rfl] at hIn;have aS:=Zh hIn;have bS:=Zh (aB.trans ay);obtain⟨bh,aT⟩:=SA;obtain⟨kh,bi⟩:=Zx it.kh;obtain⟨vh,bj⟩:=Zx it.vh;rw [<-bi,<-bj] at aS ⊢;clear be aJ ay hIn ax aH bf hi bg q1 bO bi bj;go_wp2_with fail;refine aS.mono ?_;intro e w4 bT;have aU:Bt.Bb Aa it.k=none:=Nq bh.ow.CY (by rw [aT.1,al.out];exact Int.not_le.2 bR)
    cases bT with
    |here ai _ _ _ _=>exfalso;rw [aU] at ai;cases ai
    | @put _ now R4 F4 H4 ns' hg' ai hb4 hT4=>
      have aV:Below w4.heap.size w4 (w4.alloc (Obj.cells #[.int .u64 0, .int .u64 0] 31)):=(Below.refl _ w4).alloc (Nat.le_refl _) _;have bk :=(hb4.more (P' :=20*(k+1)) (G' :=9*(k+1)) jA jA).below aV;have bU:Hid (Bt.AJ (Bt.BL Aa it)=FL.take (k+1)):=Zh (by
       rw [Bt.LS bh.ow.CY aU,al.out,<-bQ.out]
       show Dc _ (it.k,it.v)=_
       rw [aT.1,aT.2])
      have bV:=Zh bk;have bW:=Zh ((bS.trans hT4).trans (Ad.below aV));clear hb4 bk aV hT4 ai aU aS;go_wp2;go_roundw
      case rel=>exact⟨k+1,now,_,ns',hg',F4,R4,H4,jA,by go_num,rfl,bV,bU,bW⟩
      case measure=>simp [intOf];omega
  . obtain rfl:k=4:=jA
    have bX:Aa.length=4:=(by rw [<-Bt.Bz,al.out];rfl);have aF:Aa[1].k=⟨#[98]⟩:=by
     have bm:(Bt.AJ Aa)[1]'(by rw [Bt.Bz];omega)=FL[1]:=(by simp only [al.out];rfl);rw [show(Bt.AJ Aa)[1]'(by rw [Bt.Bz];omega)=Aa[1].pr by simp [Bt.AJ]] at bm;exact congrArg Prod.fst bm
    have aW:=au.MX am.out (key:=⟨#[98]⟩) jD (j:=1) jA aF jA;rw [show((2:Nat):Int)=2 from rfl] at aW;have aX:=Zh aW;have aY:(Aa.eraseIdx 1).length=3:=(by rw [List.length_eraseIdx,if_pos jA];omega);obtain⟨aw,aZ⟩:=Zx (Aa[1]);obtain⟨a0,a1⟩:=Zx (Aa.eraseIdx 1);rw [<-aZ,<-a1] at aX;rw [<-aZ] at aF;rw [<-a1] at aY;have bY:=Zh aF;have az:=Zh aY;clear aW bX aZ a1 aF aY au al;go_wp2_with fail;refine aX.mono ?_;rintro e O ⟨cn,co,cp,now,cr,cs,rfl,bo,bp,bq,br⟩;obtain⟨ag,ac⟩:=Zx (O.alloc (Obj.cells #[.int .u64 aw.kh, .int .u64 aw.vh] 31));have a2:=ZK;have aG:=Zh (N5 (bo.below a2) bp bq);have bZ:=Zh (br.trans (Ad.below a2));rw [bY.out] at aG;obtain⟨cu,bs⟩:=Zx aw.kh;obtain⟨cv,bu⟩:=Zx aw.vh;rw [<-bs,<-bu] at aG ac ⊢;generalize aw.v=aQ at*;have b3:=Zh ac;clear ac bo bp bq br a2 bs bu aX;go_wp2_with fail;rw [<-b3.out];refine aG.mono ?_;rintro e aA ⟨cw,b4,cx,rfl,a3,b5,bv⟩;obtain⟨bw,an⟩:=Zx (aA.alloc (Obj.cells #[.string ⟨#[98]⟩, .string aQ] 45));obtain⟨bz,ar⟩:=Zx aA.heap.size;have a4:Below aA.heap.size aA bw:=(by rw [an];exact(Below.refl _ _).alloc (Nat.le_refl _) _);have bA:An bw bz 45 [.string ⟨#[98]⟩, .string aQ]:=(by rw [an,ar];exact An.new aA _ _);have n14: ¬b4 bz:=(λai=>by have:=a3.st.lt ai;omega);have aI:=(a3.below a4).Px am.out 0 (by have:=az.out;omega) rfl (by have:=az.out;omega);rw [show((2:Nat):Int)=2 from rfl] at aI;have aj:(a0.eraseIdx 0).length=2:=(by rw [List.length_eraseIdx,if_pos (by have:=az.out;omega)];have:=az.out;omega);obtain⟨bB,bC⟩: ∃y,y=a0[0]'(by have:=az.out;omega):=⟨_,rfl⟩;rw [<-bC] at aI;have bD:=Zh aI;have b8:=Zh (bZ.trans (bv.trans (Ad.below a4)));have bE:=Zh (And.intro bA n14);obtain⟨bF,bG⟩:=Oo;generalize a0.eraseIdx 0=its2 at*;clear an ar a3 bv a4 bA n14 aG aI aj b5 bC;go_wp2_with fail;rw [<-bF.1,<-bF.2];refine bD.mono ?_;rintro e a5 ⟨cy,cz,cB,cC,cD,cF,rfl,bH,b9,cb,a6⟩;generalize bB.kh=cc at*;generalize bB.vh=cd at*;obtain⟨ce,aK⟩:=Zx (a5.alloc (Obj.cells #[.int .u64 cc, .int .u64 cd] 31));have aL:Below a5.heap.size a5 ce:=(by rw [aK];exact(Below.refl _ _).alloc (Nat.le_refl _) _);have bI:=(bE.1.Aq a6 bE.2).below aL;have bJ:=bI.at' (i:=0) rfl;have a7:=(bH.below aL).Yv am.out (by have:=bG.out;omega);rw [bG.out,show((2:Nat):Int)=2 from rfl] at a7;have bK:=Zh a7;have af:=Zh (bb.trans ((aB.trans (b8.trans (a6.trans (Ad.below aL)))).Hf bb.size bL.out));have cf:=Zh aK;rw [aK] at bJ;clear aK bH b9 cb a6 aL bI bD a7;go_wp2_with fail;rw [<-cf.out];refine bK.mono ?_;rintro e cG ⟨rfl,aa⟩;have cg:=K8;clear aa bK bJ;go_wp2;go_ret;exact⟨rfl,cg⟩
theorem AK.own{F:Nat->Prop}{base c:Nat}(h:w.ownsRow base 45 2 (.slice A l.length c) l.length (B5 l))(hp:D8 w w.heap.size A l)(I: ∀b,F b->b<base):AK w F A (B5 l):=by
 rcases hp with h1|⟨b,o,h1,J,O⟩
 . rw [h1];exact .inl rfl
 . refine .inr ⟨b,o,h1,J,λU=> ?_,O⟩
   have V:=I b U;have Z:=(YA h (k:=b) (by rw [h1];rfl)).1;omega
section
variable {w' W:World} {F F':Nat->Prop}
theorem Ad.put(h:Ad w F w' F'){b j:Nat}{v:Value}(O:w.heap.size<=b):Ad w F (w'.setCell ⟨b,j,none⟩ v) F' :=
 ⟨by rw [<-h.os];rfl,by rw [<-h.tape];rfl,by rw [<-h.output];rfl,by simpa using h.size,λk I J=>(Below.heap_setCell w' ⟨b,j,none⟩ v k (by simp;omega)).trans (h.keep k I J),h.grow⟩
end
theorem LY{k:ByteArray}: ∀{l:List Pr},(∀p∈l,Tx.cmp p.1 k<0)->AE l k=l.length
 | [],_=>rfl
 |p::l,h=>by
  rw [GM,if_pos (h p (by simp)),LY (λq I=>h q (by simp [I]))];rfl
structure Fu(l:List Pr)(k:ByteArray)(a b c:List Pr):Prop where
 app:a++(b++c)=l
 low: ∀p∈a,Tx.cmp p.1 k<0
 ky: ∀p∈b,p.1=k
 one:b.length<=1
 high: ∀p∈c,Tx.cmp k p.1<0
theorem Fu.R9{k:ByteArray}(h:Fu l k a b c):AE l k=a.length:=by
 rw [<-h.app,C8,LY h.low,Ev]
 . rfl
 . intro p hp
   rcases List.mem_append.1 hp with h1|h1
   . rw [h.ky p h1,(Cp.2 rfl:Tx.cmp k k=0)];omega
   . have I:=h.high p h1
     have J:=Lf p.1 k;omega
theorem Fu.at'{k:ByteArray}(h:Fu l k a b c):l[AE l k]? =(b++c)[0]? :=by
 rw [h.R9,<-h.app,List.getElem?_append_right (Nat.le_refl _),Nat.sub_self]
theorem Fu.has{k:ByteArray}(h:Fu l k a b c):(l[AE l k]?).map (·.1)=some k↔b.length=1:=by
 rw [h.at'];have h1:=h.one;constructor
 . intro I
   cases b with
   |cons p b=>simp at h1;simp [h1]
   |nil=>
    cases c with
    |nil=>simp at I
    |cons p c=>
     simp at I;have:=h.high p (by simp);rw [I,(Cp.2 rfl:Tx.cmp k k=0)] at this;omega
 . intro J
   cases b with
   |nil=>simp at J
   |cons p b=>
    have:=h.ky p (by simp);simp [this]
theorem Fu.put{k v:ByteArray}(h:Fu l k a b c):Dc l (k,v)=a++(k,v)::c:=by
 unfold Dc;have J:=h.R9;have hh:=h.has;have h1:=h.one;by_cases I:b.length=1
 . rw [if_pos (hh.2 I),J,<-h.app,List.take_left,<-List.append_assoc,show a.length+1=(a++b).length by rw [List.length_append,I],List.drop_left]
 . rw [if_neg (λe=>I (hh.1 e)),J,<-h.app,List.take_left,List.drop_left]
   have:b= []:=List.eq_nil_of_length_eq_zero jA;rw [this];rfl
def JQ(l:List Pr)(i j:Nat):List Pr:=l.take i++l.drop j
theorem UM{B c:Nat}(h:D8 w B A l)(ai:B<=w.heap.size)(hA:A=none->c=0)(aj:l.length<=c)(ax:l.length<=2000000000000)(i j:Nat)(hi:i<=l.length)(al:j<=l.length):
 Calls prog 22 #[.slice A l.length c, .int .i64 i, .int .i64 j] w λe w' => ∃v,e= .returned v/\w'.ownsRow w.heap.size 45 2 v (JQ l i j).length (B5 (JQ l i j))/\Below w.heap.size w w' :=by
 obtain⟨am,ay,az,V,Z⟩:=LX A l.length j c al aj;have an:=Zh V;have ao:=Zh (Z hA);have aq:=Zh hA;have aa:Hid (i=(l.take i).length):=Zh (by rw [List.length_take];omega);have ar:Hid (l.length-j=(l.drop j).length):=Zh (by rw [List.length_drop]);have O:=Zh (Nx w 45);have ab:=Zh (h.more ai);have aA:(l.take i).length<=l.length:=by rw [List.length_take];omega
 have aB:(l.drop j).length<=l.length:=by rw [List.length_drop];omega
 clear h V Z hA;go_enter func22,ntmps22;go_wp2_with (at_builtin;go_must (refine Hl rfl (.tmp 8) (.tmp 11) rfl _ w.heap.size _ [] rfl O w.heap.size A i c (l.take i) rfl aa ((ab.below ((Below.refl _ w).alloc (Nat.le_refl _) _)).take i) aq (by simp;omega) (by simp) ?_));intro v2 w2 I ac _;have J:=Zh (Fa ((Below.refl _ w).alloc (Nat.le_refl _) _) O ac (by simp));have ae :w2.ownsRow w.heap.size 45 2 v2 (l.take i).length (B5 (l.take i)):=by first|exact I|(rw [<-aa.out];exact I)|simpa using I
 have af:=Zh ae;clear I ae ac O;go_wp2_with (at_builtin;go_must (refine Hl rfl (.tmp 13) (.tmp 16) rfl _ w.heap.size _ (l.take i) rfl af w.heap.size am _ _ (l.drop j) rfl ar (an w2 w.heap.size l rfl (ab.below J)) ao jA J.size ?_));intro v4 w4 U ag _;have au:=Zh (Fa J af ag J.size);have ah :w4.ownsRow w.heap.size 45 2 v4 (JQ l i j).length (B5 (JQ l i j)):=by unfold JQ;first|exact U|simpa [Nat.min_eq_left hi] using U
 have aw:=Zh ah;clear U ah ag;go_wp2;go_ret;exact⟨v4,rfl,aw,au⟩
def Ybf{P}(h:P:=by
 rintro e O ⟨rfl,I⟩;have J:=Zh (aK.trans (I.mono aK.size));clear I;go_wp2;go_ret;exact⟨rfl,J⟩):=h
end
open Go.ChangeShapes Go.WideShapes Go.ChangeAt Go.WideMaps Go.WideElems Go.RowKit Go.Deep
theorem own:ownKnob prog.godebug=none:=by kernel_rfl
theorem laidOut:laidOutB prog=true:=by kernel_rfl
theorem Aai:prog.globalNamed "math/bits.deBruijn64tab" =some 1:=by kernel_rfl
theorem Aab:(prog.globals[1]?).map (·.type)=some 246:=by kernel_rfl
abbrev GD:List (String × DataW Unit):= [("math/bits.deBruijn64tab",Rows.laid_math_bits_deBruijn64tab)]
theorem N4:(Rows.laid_math_bits_deBruijn64tab:DataW Unit)= .agg (Lib.deBruijn64tab.map λn=> .lit (.int .u8 (n:Nat))):=rfl
theorem LR(os:Os)(args:Array Value):laidMetH prog GD ((World.doorLaid prog 400 os).forCall (λ_ _=>0) ⟨#[],args,[]⟩).memory:=
 laidMetH_of_parts3 (fuel:=8) (laidMet_of_run' 8 (by kernel_rfl) (by kernel_rfl)) (by kernel_rfl) (by kernel_rfl)
theorem Nh{W:World}(h:laidMetH prog GD W):Ix W:=by
 rw [MakeChecks.laidMetH_plain _ _ _ (by kernel_rfl)] at h;obtain⟨ps,⟨g0,t0,U,f0,am,an,V,ab,ac,ae,_⟩,_⟩:=h;obtain rfl:=Option.some.inj (Aai.symm.trans V);obtain rfl:=Option.some.inj (Aab.symm.trans ab);obtain⟨xs,m1,rfl,I,hlen,ao,af⟩:=DataW.trod_array Tryz.underlying246 ae;have c5:prog.cellsOf 5=1:=by kernel_rfl
 simp only [Prod.mk.injEq] at I;rw [N4] at I;have ag:xs.map (·.1)=Lib.deBruijn64tab.map λn=>DataW.lit (Lit.int .u8 (n:Nat)):=by
  have:=I.1;simp only [DataW.agg.injEq] at this;exact this.symm
 intro j J;have ah:j<64:=J;have Z:j<xs.length:=by omega
 have h0:=af j ah;rw [List.getElem?_eq_getElem Z,c5,Nat.mul_one] at h0;obtain⟨k,ai,aj,_⟩:=DataW.trod_int Tryz.underlying5 h0;have O:(xs.map (·.1))[j]? =some (.lit (.int .u8 (Lib.deBruijn64tab.getD j 0:Nat))):=by
  rw [ag,List.getElem?_map,List.getElem?_eq_getElem J];simp [List.getD_eq_getElem?_getD,List.getElem?_eq_getElem J]
 rw [List.getElem?_map,List.getElem?_eq_getElem Z,aj] at O;simp only [Option.map_some,Option.some.injEq,DataW.lit.injEq,Lit.int.injEq,true_and] at O;subst O;have al:=World.var?_cell V ac j;rw [al];have hd:U.toList[j]? =some (.int .u8 (Lib.deBruijn64tab.getD j 0:Nat)):=by
  have aa:((U.toList.drop j).take 1)[0]? =some (.int .u8 (Lib.deBruijn64tab.getD j 0:Nat)):=by rw [ai];rfl
  rw [List.getElem?_take,if_pos (by omega),List.getElem?_drop,Nat.add_zero] at aa;exact aa
 simpa using hd
theorem Ia{n:Int}(h:(Lit.int .i64 n).wf=true): -9223372036854775808<=n/\n<=9223372036854775807:=by
 simpa [Lit.wf,IntKind.min,IntKind.max,IntKind.signed,IntKind.bits] using h
theorem LO(b o j:Nat):(⟨b,o,none⟩:Addr).add j=⟨b,o+j,none⟩:=by unfold Addr.add;split<;>simp_all
open Go.Shelf
variable {R:Zr}
def RT(W:World)(F:Nat->Prop)(A:Option Addr)(c:Nat)(l:List Pr):Prop:=AK W F A (B5 l)/\(A=none->c=0)/\l.length<=c
def CQ(R:Zr)(xs:List Nat):Zr:=λz=>if z∈xs then none else R z
theorem P0(R:Zr):CQ R []=R:=by funext z;simp [CQ]
theorem HV(R:Zr)(xs:List Nat)(x:Nat):AQ (CQ R xs) x none=CQ R (xs++ [x]):=by
 funext z
 unfold AQ CQ;by_cases e:z=x
 . rw [if_pos e,if_pos (by simp [e])]
 . rw [if_neg e]
   by_cases h:z∈xs
   . rw [if_pos h,if_pos (by simp [h])]
   . rw [if_neg h,if_neg (by simp [h,e])]
theorem Hm{xs:List Nat}{z:Nat}(h:z∉xs):CQ R xs z=R z:=if_neg h
theorem I8(h:A6 R)(xs:List Nat):A6 (CQ R xs):=λz ws I=>by
 unfold CQ at I
 split at I
 . cases I
 . exact h z ws I
section
variable {w w':World} {s:Nat} {F:Nat->Prop}  {H:List Nat} {P q most last G t root:Nat} {Aa:List It} {ns:List Nat} {hg m:Nat}
theorem PA(I:BN.A0 t)(O:Ah w s F R H P q most last G)(Z:R 0=none)(J:Bt.Tree R t root Aa ns hg)(U:ns.Nodup)(V:root<18446744073709551616)(ae:Aa.length<549755813888):
 Calls prog 39 #[.pointer (some ⟨s,0,none⟩), .int .i64 t, .int .u64 root] w λe w' => ∃v',e= .returned v' /\w'.ownsRow w.heap.size 23 1 v' ns.length (AF ns)/\Below w.heap.size w w' :=by
 obtain⟨N,af,hw⟩:=O.rd;have ab:=JM af t I root V;have t1:=I.1;have hm:ns.length<=BF N t:=by
  obtain⟨p,rfl,_,_,ah⟩:=hw;have h1:=K9 (f:=λx=>((R x).getD []).length+2) ns H U (λx hx=>(O.MH x).2 (by obtain⟨ws,aa,_⟩:=J.IJ x hx;rw [aa];simp));have ac:(ns.map λx=>((R x).getD []).length+2)=List.replicate ns.length (6*t+2):=by
   rw [List.eq_replicate_iff];refine⟨by simp,λb ae=> ?_⟩;obtain⟨x,hx,rfl⟩:=List.mem_map.1 ae;obtain⟨ws,aa,ag⟩:=J.IJ x hx;rw [aa,<-ag];rfl
  rw [ac,List.sum_replicate_nat] at h1;unfold BF;have ac:ns.length<=64*p/(6*t):=by
   rw [Nat.le_div_iff_mul_le (by omega)];exact Nat.le_trans (Nat.mul_le_mul_left _ (show 6*t<=6*t+2 by omega)) (by omega)
  omega
 have he:Bc R t (BF N t) 40 [] root=ns:=by
  rcases J with ⟨rfl,_,aa,_⟩|⟨a,_,aa⟩
  . rw [aa]
    unfold Bc;rw [if_pos (.inl (by unfold Bk;rw [Z];simp))]
  . have:=Bt.Ld I (BF N t) a 1 40 ⟨root,Aa,ns⟩ [] aa (aa.high I ae) (by simpa using hm)
    simpa using this
 rw [he] at ab;exact ab
theorem AN.IL(I:BN.A0 t)(h:AN w s F R H P q most last G t root Aa ns hg m)(J:Aa.length<=1000):
 Calls prog 12 #[.pointer (some ⟨s,0,none⟩), .int .i64 t, .int .u64 root] w λe w' => ∃(F' :Nat->Prop) (H' :List Nat),e= .returned (.int .i64 0)/\Ah w' s F' (CQ R (Aa.flatMap It.hs++ns)) H' P q most last G/\Ad w F w' F' :=by
 have aJ:=Zh (h.O4 I (by omega));have ah:=Zh (λW (bm:Below w.heap.size w W)=>(h.below bm).Rh I (by omega));have ac:=h.ow.nodup;have bo:Hid (∀i (hi:i<Aa.length),Aa[i].kh∉(Aa.take i).flatMap It.hs/\Aa[i].vh∉(Aa.take i).flatMap It.hs++ [Aa[i].kh]/\Aa[i].At R):=Zh (λi hi=>by
  have h1:=(List.nodup_append.1 ac).2.1;have e:Aa=Aa.take i++Aa[i]::Aa.drop (i+1):=by rw [<-List.drop_eq_getElem_cons hi,List.take_append_drop]
  rw [e,List.flatMap_append,List.flatMap_cons] at h1;obtain⟨_,ae,aK⟩:=List.nodup_append.1 h1;have aL:=(List.nodup_append.1 ae).1;have bp:Aa[i].kh∉(Aa.take i).flatMap It.hs:=λhm=>aK _ hm Aa[i].kh (by simp [It.hs]) rfl
  have bq:Aa[i].vh∉(Aa.take i).flatMap It.hs:=λhm=>aK _ hm Aa[i].vh (by simp [It.hs]) rfl
  refine⟨bp,λhm=> ?_,h.ow.at' _ (List.getElem_mem hi)⟩;rcases List.mem_append.1 hm with V|V
  . exact bq V
  . simp [It.hs] at aL
    simp at V;exact aL V.symm)
 have aq:=(List.nodup_append.1 ac).1;have br:Hid (∀i (hi:i<ns.length),ns[i]∉Aa.flatMap It.hs++ns.take i/\ ∃ws,R ns[i]=some ws):=Zh (λi hi=>by
  refine⟨λhm=> ?_, ?_⟩
  . rcases List.mem_append.1 hm with V|V
    . exact(List.nodup_append.1 ac).2.2 _ (List.getElem_mem hi) _ V rfl
    . obtain⟨j,ar,e⟩:=List.getElem_of_mem V
      rw [List.getElem_take] at e;have:=(List.getElem_inj aq).1 e;rw [List.length_take] at ar;omega
  . obtain⟨ws,h1,_⟩:=h.tr.IJ _ (List.getElem_mem hi)
    exact⟨ws,h1⟩)
 have aM:Bt.Tree (CQ R (Aa.flatMap It.hs)) t root Aa ns hg:=by
  rcases h.tr with h1|⟨a,h1,ae⟩
  . exact .inl h1
  . exact .inr ⟨a,h1,ae.congr λz bs=>Hm λhm=>(List.nodup_append.1 ac).2.2 z bs z hm rfl⟩
 have aN:CQ R (Aa.flatMap It.hs) 0=none:=by
  unfold CQ
  split
  . rfl
  . exact h.z
 have aO:=Zh (λ(W:World) (F' :Nat->Prop) (H' :List Nat) (hs:Ah W s F' (CQ R (Aa.flatMap It.hs)) H' P q most last G)=>PA I hs aN aM aq h.rt (by omega));have bS:ns.length<=1000:=Nat.le_trans (h.tr.IE I) J;obtain⟨L,ai⟩:=Zx (Aa.map HY);have aP:L.length=Aa.length:=by rw [ai,List.length_map]
 have bu:Hid (∀j (ar:j<L.length) (bv:j<Aa.length),L[j]=(Aa[j].kh,Aa[j].vh)):=Zh λj ar bv=>by
  subst ai;simp [HY]
 rw [<-ai] at ah;have aj:Aa.length=L.length:=aP.symm;simp only [aj] at ah;rw [aj] at J;have aQ:=Zh aj;have aR:=Zh h.st;have aS:=Zh h.sh;clear h I ac aM aN ai aP aj aq;go_enter func12,ntmps12;go_wp2_with fail;refine aJ.mono ?_;rintro e w1 ⟨rfl,aT⟩;have al:=Zh aT;clear aT aJ;go_wp2_with fail;refine(ah _ al).mono ?_;rintro e w2 ⟨v9,rfl,au,aU⟩;obtain⟨bT,bU,rfl⟩:=Ae au;have aV:=Zh (al.trans (aU.mono al.size));have bw:=Zh (aR.below aV);have bz:=Zh au;have bA:=Zh (λb (U:F b)=>(show b<w1.heap.size from Nat.lt_of_lt_of_le (aR.lt U) al.size));clear au aU ah;go_wp2_with fail
 go_loopw [24] (λaa wr=> ∃(i:Nat) (F' :Nat->Prop) (H' :List Nat),i<=L.length/\aa= .int .i64 i/\Hid (Ah wr s F' (CQ R ((Aa.take i).flatMap It.hs)) H' P q most last G)/\Hid (Ad w2 F wr F')) (λaa _=>L.length-(intOf aa).toNat)
 case atStart=>exact⟨0,F,H,Nat.zero_le _,rfl,by rw [List.take_zero,List.flatMap_nil,P0];exact bw,Zh (Ad.refl _ _)⟩
 case round=>
  obtain⟨i,F',H',hi,rfl,am,af⟩:=hrel;by_cases O:i<L.length
  ·
   as_aux_lemma=>
   have aw:i<Aa.length:=(by rw [aQ.out];exact O);obtain⟨g9,bB,bV,bW,ax⟩:=JX bz rfl (by omega);subst bB;have ab: ¬F g9:=(λU=>by have:=bA.out g9 U;omega);have f1:=af.cell (ax i O).1 ab;have f2:=af.cell (ax i O).2 ab;simp only [bu.out i O aw] at f1 f2;obtain⟨k1,k2,ag⟩:=bo.out i aw;have aW:(Aa.take (i+1)).flatMap It.hs=((Aa.take i).flatMap It.hs++ [Aa[i].kh])++ [Aa[i].vh]:=by
    rw [List.take_succ_eq_append_getElem aw,List.flatMap_append];simp [It.hs]
   have ay:=(λW (J:Below wr.heap.size wr W)=>Jl (am.below J) (I8 aS _) ((Hm k1).trans ag.kt) (Tx.Es _ ag.ks).1);have aX: ∀(W:World) (F2:Nat->Prop) (H2:List Nat),Ah W s F2 (CQ R ((Aa.take i).flatMap It.hs++ [Aa[i].kh])) H2 P q most last G->Calls prog 38 #[.pointer (some ⟨s,0,none⟩), .int .u64 (Aa[i].vh:Nat)] W λe w' => ∃F',e= .returned (.int .i64 0)/\Ah w' s F' (CQ R ((Aa.take (i+1)).flatMap It.hs)) (H2.erase Aa[i].vh) P q most last G/\Ad W F2 w' F' :=λW F2 H2 hs=>by
    have Z:=Jl hs (I8 aS _) ((Hm k2).trans ag.vt) (Tx.Es _ ag.vs).1;rw [HV,<-aW] at Z;exact Z
   simp only [HV] at ay;have az:=Zh ay;have aY:=Zh aX;obtain⟨aZ,a0⟩:=Zx (Aa[i].kh);obtain⟨b1,a1⟩:=Zx (Aa[i].vh);simp only [<-a0,<-a1] at f1 f2 az aY;obtain⟨aA,an⟩:=Zx (wr.alloc (Obj.cells #[.int .u64 aZ, .int .u64 b1] 31));obtain⟨a2,aB⟩:=Zx wr.heap.size;have aC:Below wr.heap.size wr aA:=(by rw [an];exact(Below.refl _ _).alloc (Nat.le_refl _) _);have bC:Hid (An aA a2 31 [.int .u64 aZ, .int .u64 b1]):=Zh (by rw [an,aB];exact An.new wr _ _);have n9:Hid (¬F' a2):=Zh (λU=>by have:=am.lt U;omega);have bD:=Zh (af.trans (Ad.below aC));have a3:=Zh (az aA aC);have a4:=Zh (And.intro an aB);clear ay aX ax a0 a1 an aB aC aW k1 k2 ag az ab;go_wp2_with fail;rw [<-a4.1];refine a3.mono ?_;rintro e w4 ⟨bE,rfl,a5,aD⟩;have a6:=bC.Aq aD n9.out;have a7:=a6.at' (i:=1) rfl;have a8:=Zh (aY w4 bE _ a5);have bF:=Zh (bD.trans aD);rw [a4.2] at a7;clear a5 aD a6 a3 f1 f2;go_wp2_with fail;refine a8.mono ?_;rintro e bX ⟨bG,rfl,a9,ba⟩;have bH:=Zh a9;have bI:=Zh (bF.trans ba);clear a9 ba a8 a7;go_wp2;go_roundw
   case rel=>exact⟨i+1,bG,_,by omega,by go_num,bH,bI⟩
   case measure=>simp [intOf];omega
  . obtain rfl:i=L.length:=by omega
    have ao:Hid (Ah wr s F' (CQ R (Aa.flatMap It.hs)) H' P q most last G):=Zh (by have Z:=am.out;rw [<-aQ.out,List.take_length] at Z;exact Z);have bb:=Zh (aO wr F' H' ao);clear am aO;go_wp2_with fail;refine bb.mono ?_;rintro e w6 ⟨bY,rfl,aE,aF⟩;obtain⟨bZ,c7,rfl⟩:=Ae aE;have bJ:=Zh (ao.below aF);have bK:=Zh (af.trans (Ad.below aF));have bc:=Zh aE;have bL:=Zh (λb (U:F' b)=>ao.lt U);clear aF aE bb ao af;go_wp2_with fail
    go_loopw [42] (λaa bd=> ∃(i:Nat) (F2:Nat->Prop) (H2:List Nat),i<=ns.length/\aa= .int .i64 i/\Hid (Ah bd s F2 (CQ R (Aa.flatMap It.hs++ns.take i)) H2 P q most last G)/\Hid (Ad w6 F' bd F2)) (λaa _=>ns.length-(intOf aa).toNat)
    case atStart=>exact⟨0,F',H',Nat.zero_le _,rfl,by rw [List.take_zero,List.append_nil];exact bJ,Zh (Ad.refl _ _)⟩
    case round=>
     obtain⟨be,bf⟩:=Zx wr;rw [<-bf] at hrel ⊢;clear bf;obtain⟨i,F2,H2,b3,rfl,bg,aG⟩:=hrel;by_cases O:i<ns.length
     ·
      as_aux_lemma=>
      obtain⟨g7,b4,bh,b5,b8⟩:=Bg bc.out (λe=>by rw [e] at O;simp at O);simp only [Value.slice.injEq] at bh;obtain⟨rfl,-,rfl⟩:=bh;have ab: ¬F' g7:=(λU=>by have:=bL.out g7 U;omega);have f1:=aG.cell ((BQ bc.out O)) ab;obtain⟨k1,ws,k2⟩:=br.out i O;have aH:=Jr bg.out ((Hm k1).trans k2);rw [HV,List.append_assoc,<-List.take_succ_eq_append_getElem O] at aH;have aI:=Zh aH;obtain⟨b9,bi⟩:=Zx (ns[i]);rw [<-bi] at f1 aI;clear aH k1 k2 ab bi;go_wp2_with fail;refine aI.mono ?_;rintro e cb ⟨bM,rfl,bj,bk⟩;have bN:=Zh bj;have bO:=Zh (aG.trans bk);clear bj bk aI f1;go_wp2;go_roundw
      case rel=>exact⟨i+1,bM,_,by omega,by go_num,bN,bO⟩
      case measure=>simp [intOf];omega
     . obtain rfl:i=ns.length:=by omega
       have bP:Hid (∃(F' :Nat->Prop) (H' :List Nat),Ah be s F' (CQ R (Aa.flatMap It.hs++ns)) H' P q most last G/\Ad w F be F'):=Zh ⟨F2,H2,by have Z:=bg.out;rw [List.take_length] at Z;exact Z,(Ad.below (F:=F) aV).trans (bK.trans aG)⟩;go_wp2;go_ret;obtain⟨bQ,bR,h1,ae⟩:=bP.out;exact⟨bQ,bR,rfl,h1,ae⟩
end
abbrev Cl:=Int × Pr
def opsV(l:List Cl):List Value:=l.flatMap λp=> [.int .i64 p.1, .string p.2.1, .string p.2.2]
def Vn(w:World)(A:Option Addr)(l:List Cl):Prop:=AK w (λb=>w.heap.size<=b) A (opsV l)/\(∀p∈l,(-9223372036854775808<=p.1/\p.1<=9223372036854775807)/\p.2.1.size<=9223372036854775807/\p.2.2.size<=9223372036854775807)/\l.length<=9223372036854775807
theorem SH: ∀(l:List Cl) (k:Nat) (h:k<l.length),(opsV l)[k*3]? =some (.int .i64 l[k].1)/\(opsV l)[k*3+1]? =some (.string l[k].2.1)/\(opsV l)[k*3+2]? =some (.string l[k].2.2)
 |p::l,0,_=>⟨rfl,rfl,rfl⟩
 |p::l,k+1,h=>by
  have:=SH l k (by simpa using h);rw [show(k+1)*3=k*3+3 by omega];exact this
theorem Pq: ∀{l:List Cl} {j:Nat} {u:Value},(opsV l)[j]? =some u-> ∃(i:Nat) (hi:i<l.length),(j=i*3/\u= .int .i64 l[i].1)\/(j=i*3+1/\u= .string l[i].2.1)\/(j=i*3+2/\u= .string l[i].2.2)
 | [],j,u,h=>by simp [opsV] at h
 |p::l,0,u,h=>by simp [opsV] at h;exact⟨0,by simp, .inl ⟨rfl,h.symm⟩⟩
 |p::l,1,u,h=>by simp [opsV] at h;exact⟨0,by simp, .inr (.inl ⟨rfl,h.symm⟩)⟩
 |p::l,2,u,h=>by simp [opsV] at h;exact⟨0,by simp, .inr (.inr ⟨rfl,h.symm⟩)⟩
 |p::l,j+3,u,h=>by
  obtain⟨i,hi,hh⟩:=Pq (l:=l) (j:=j) (u:=u) (by simpa [opsV] using h);refine⟨i+1,by simpa using hi, ?_⟩;rcases hh with ⟨h1,I⟩|⟨h1,I⟩|⟨h1,I⟩
  . exact .inl ⟨jA,I⟩
  . exact .inr (.inl ⟨jA,I⟩)
  . exact .inr (.inr ⟨jA,I⟩)
theorem AK.ops{w:World}{F:Nat->Prop}{A:Option Addr}{l:List Cl}(h:AK w F A (opsV l)){k:Nat}(O:k<l.length): ∃b o,A=some ⟨b,o,none⟩/\w.cell? ⟨b,o+k*3,none⟩=some (.int .i64 l[k].1)/\w.cell? ⟨b,o+k*3+1,none⟩=some (.string l[k].2.1)/\w.cell? ⟨b,o+k*3+2,none⟩=some (.string l[k].2.2):=by
 obtain⟨h1,U,V⟩:=SH l k O;obtain⟨b,o,e,Z⟩:=h.at' h1;obtain⟨b',ac,I,aa⟩:=h.at' U;obtain⟨b2,ae,J,ab⟩:=h.at' V;rw [e] at I J
 cases I
 cases J
 exact⟨b,o,e,Z,by rw [Nat.add_assoc];exact aa,by rw [Nat.add_assoc];exact ab⟩
section
variable {H:Type} {enc:TypeId × Value->H} {w:World} {base:Nat} {held:Bool}
theorem VQ{t e:TypeId}{f0 f1:Field}(am:prog.underlying t=some (.slice e))(he:prog.underlying e=some (.struct #[f0,f1]))(ce:prog.cellsOf e=3)(an:f0.offset=0)(ao:f1.offset=1)
 (t0:f0.type=3) (t1:f1.type=45)
 {fuel:Nat} {cs:List Value} {x:DataW H × List MemPlace} (h:DataW.trod enc prog w base (λ_=>true) held fuel t cs=some x): ∃A len cap l,cs= [.slice A len cap]/\len=l.length/\Vn w A l:=by
 rcases open_slice am h with ⟨U,_⟩|⟨a,len,cap,m,n,D,aG,U,aH,aI,hm,aq,_,hx⟩
 . exact⟨none,0,0,[],U,rfl, .inl rfl,λp hp=>by simp at hp,by simp⟩
 . have ar:m=cap:=by simpa using aq
   subst ar;have au: ∀i,∃p:Cl,i<m->w.cell? (a.add (i*3))=some (.int .i64 p.1)/\w.cell? (a.add (i*3+1))=some (.string p.2.1)/\w.cell? (a.add (i*3+2))=some (.string p.2.2)/\(-9223372036854775808<=p.1/\p.1<=9223372036854775807)/\p.2.1.size<=maxLen/\p.2.2.size<=maxLen:=λi=>by
    by_cases hi:i<m
    . obtain⟨aw,h1,ax⟩:=hx i hi
      rw [ce] at h1;obtain⟨_,hlen,V⟩:=World.cells?_some h1;obtain⟨xs,k,aJ,aK,_,ay,I⟩:=DataW.trod_struct he ax;have c0:prog.cellsOf f0.type=1:=(by rw [t0];kernel_rfl);have c1:prog.cellsOf f1.type=2:=by rw [t1];kernel_rfl
      match xs,ay,aw,hlen with
      | [y0,y1],_,[v0,v1,v2],_=>
        have g0:DataW.trod enc prog w base (λ_=>true) held k 3 (([v0,v1,v2].drop 0).take (prog.cellsOf 3))=some y0:=(by have J:=I 0 f0 rfl;rw [an,t0] at J;exact J);have g1:DataW.trod enc prog w base (λ_=>true) held k 45 (([v0,v1,v2].drop 1).take (prog.cellsOf 45))=some y1:=(by have J:=I 1 f1 rfl;rw [ao,t1] at J;exact J);rw [t0] at c0;rw [t1] at c1;rw [c0] at g0;rw [c1] at g1;simp only [List.drop_zero,List.drop_succ_cons,List.take_succ_cons,List.take_zero] at g0 g1;have ac:=V 0 jA;have ae:=V 1 jA;have af:=V 2 jA;rw [Go.Deep.add_add] at ac ae af;obtain⟨z,ag,_,az⟩:=DataW.trod_int Tryz.underlying3 g0;obtain⟨aA,k2,aL,_,_,aB,hg⟩:=DataW.trod_struct Tryz.underlying45 g1
        match aA,aB with
        | [u0,u1],_=>
          have aC:prog.cellsOf 9=1:=(by kernel_rfl);have Z:DataW.trod enc prog w base (λ_=>true) held k2 9 (([v1,v2].drop 0).take (prog.cellsOf 9))=some u0:=hg 0 _ rfl;have q1:DataW.trod enc prog w base (λ_=>true) held k2 9 (([v1,v2].drop 1).take (prog.cellsOf 9))=some u1:=hg 1 _ rfl;rw [aC] at Z q1;simp only [List.drop_zero,List.drop_succ_cons,List.take_succ_cons,List.take_zero] at Z q1;obtain⟨aD,ah,_,z0⟩:=DataW.trod_string Tryz.underlying9 Z;obtain⟨s1,ai,_,O⟩:=DataW.trod_string Tryz.underlying9 q1;simp only [List.cons.injEq,and_true] at ag ah ai;subst ag ah ai;exact⟨(z,aD,s1),λ_=>⟨by simpa using ac,by simpa using ae,by simpa using af,Ia az,z0,O⟩⟩
    . exact⟨(0,⟨#[]⟩,⟨#[]⟩),λhh=>absurd hh hi⟩
   obtain⟨f,I⟩:=Classical.axiomOfChoice au;have aj:((List.range len).map f).length=len:=(by simp);unfold maxLen at hm;refine⟨some a,len,m,(List.range len).map f,U,aj.symm, ?_, ?_,by rw [aj];omega⟩
   . by_cases h0:len=0
     . subst h0;exact .inl rfl
     . obtain⟨b,off,spot⟩:=a
       have al:=(I 0 jA).1;have aE:spot=none:=(by simpa [Addr.add] using World.cell?_spot al);subst aE;have aa:=World.block_lt_of_cell? _ _ al;rw [LO] at aa;refine .inr ⟨b,off,rfl,aa,by show¬w.heap.size<=b;simp only at aa;omega,λj u hu=> ?_⟩;obtain⟨i,hi,hh⟩:=Pq hu;have aF:i<len:=jA;obtain⟨c0,c1,c2,_⟩:=I i jA;rw [LO] at c0 c1 c2;have ab:((List.range len).map f)[i]=f i:=(by simp);rcases hh with ⟨rfl,rfl⟩|⟨rfl,rfl⟩|⟨rfl,rfl⟩
       . rw [c0,ab]
       . rw [c1,ab]
       . rw [c2,ab]
   . intro p hp
     obtain⟨i,hi,rfl⟩:=List.mem_map.1 hp;have aF:i<len:=(by simpa using hi);obtain⟨_,_,_,z,z0,O⟩:=I i jA;unfold maxLen at z0 O;exact⟨z,z0,O⟩
end
variable {F:Nat->Prop}{its2:List It}{j:Nat}{l:List Pr}{nz:Int}{old:It}{p:Pr}{w:World}
theorem VR(O:AZ l)(U:j<l.length):Fu l l[j].1 (l.take j) [l[j]] (l.drop (j+1))/\Fu (l.eraseIdx j) l[j].1 (l.take j) [] (l.drop (j+1)):=by
 have e:l=l.take j++(l[j]::l.drop (j+1)):=by rw [<-List.drop_eq_getElem_cons U,List.take_append_drop]
 have V :AZ (l.take j++(l[j]::l.drop (j+1))):=by rw [<-e];exact O
 obtain⟨h1,Z,aa⟩:=List.pairwise_append.1 V;have I: ∀p∈l.take j,Tx.cmp p.1 l[j].1<0:=λp hp=>aa p hp l[j] List.mem_cons_self
 have J: ∀p∈l.drop (j+1),Tx.cmp l[j].1 p.1<0:=(List.pairwise_cons.1 Z).1;exact⟨⟨e.symm,I,λp hp=>by rw [List.mem_singleton.1 hp],by simp,J⟩,⟨by rw [List.eraseIdx_eq_take_drop_succ];rfl,I,λp hp=>by simp at hp,by simp,J⟩⟩
theorem X6(J:AZ l)(O:j<l.length)(hp:l[j].1=p.1):Dc (l.eraseIdx j) p=Dc l p:=by
 obtain⟨h1,I⟩:=VR J O;obtain⟨k,v⟩:=p;have U :l[j].1=k:=hp;rw [U] at h1 I;rw [h1.put,I.put]
abbrev jF(w:World)(s:Nat)(F:Nat->Prop)(R:Zr)(H:List Nat)(k t root:Nat)(Aa:List It)(ns:List Nat)(hg m:Nat):=AN w s F R H (20*(k+1)) 262144 1000 4294967295 (9*(k+1)) t root Aa ns hg m
def Rl(d:Int)(l:List Pr)(p:Pr)(has:Bool)(nz:Int):List Pr:=
 if d=1 then Dc (if has then l.eraseIdx nz.toNat else l) p else (if has then l.eraseIdx nz.toNat else l)
def Ls(wr:World)(F' :Nat->Prop)(wx:World)(s t k b12 bx:Nat)(d:Int)(l:List Pr)(p:Pr)(now:Nat)(nz:Int)(has:Bool):Prop:=
 ∃(its2:List It) (R2:Zr) (F2:Nat->Prop) (H2:List Nat) (ns2:List Nat) (hg2 m2:Nat),jF wx s F2 R2 H2 k t now its2 ns2 hg2 m2/\Ad wr F' wx F2/\Bt.AJ its2=Rl d l p has nz/\its2.length<=k+1/\An wx bx 62 [.int .i64 d, .string p.1, .string p.2]/\ ¬F2 bx/\
  ((has=false/\nz<0/\m2=0)\/(has=true/\m2=2/\ ∃(j:Nat) (hj:j<l.length) (old:It),nz=(j:Int)/\old.At R2/\((ns2++its2.flatMap It.hs)++old.hs).Nodup/\old.k=l[j].1/\old.v=l[j].2/\An wx b12 31 [.int .u64 old.kh, .int .u64 old.vh]))
abbrev jG(wr:World)(F' :Nat->Prop)(w6:World)(s t k b12 bx:Nat)(l:List Pr)(c e:Value)(d:Int)(p:Pr)(now:Nat)(nz:Int)(has:Bool):=Hid (Ls wr F' ((w6.setCell ⟨b12,0,none⟩ c).setCell ⟨b12,1,none⟩ e) s t k b12 bx d l p now nz has)
section
variable {wr wx:World} {s t k b12 root:Nat} {F' F2:Nat->Prop} {R2:Zr} {H2:List Nat} {Aa:List It} 
theorem HF(I:Bt.AJ Aa=l)(O:j<Aa.length)(U:j<l.length):Aa[j].k=l[j].1/\Aa[j].v=l[j].2:=by
 have J:l[j]=Aa[j].pr:=by simp only [<-I];simp [Bt.AJ]
 rw [J];exact⟨rfl,rfl⟩
theorem O6(U:AZ (Bt.AJ Aa))(J:Bt.AJ Aa=l){key:ByteArray}(I:Bt.Bb Aa key=some old): ∃(j:Nat) (ac:j<Aa.length) (ae:j<l.length),E2 l key=(j:Int)/\Aa[j]=old/\Aa[j].k=key/\AE l key=j:=by
 obtain⟨h1,V⟩:=Bt.CO (key:=key) U;obtain⟨Z,aa⟩:=V old I;obtain⟨ab,O⟩:=List.getElem?_eq_some_iff.1 Z;rw [I] at h1;rw [J] at h1;have af:=ZR;refine⟨AE (Bt.AJ Aa) key,ab,jA,by rw [h1,J];rfl,O,by rw [O];exact aa,by rw [J]⟩
theorem Q6(I:AZ (Bt.AJ Aa))(J:Bt.AJ Aa=l){key:ByteArray}(O:Bt.Bb Aa key=none):E2 l key= -1:=by
 have h1:=(Bt.CO (key:=key) I).1;rw [O,J] at h1;exact h1
end
theorem AK.goes{w1:World}{A:Option Addr}{vs:List Value}(h:AK w (λb=>w.heap.size<=b) A vs)(I:Below w.heap.size w w1)(O: ∀b,F b->w.heap.size<=b):AK w1 F A vs:=by
 rcases h with h|⟨b,o,h1,U,V,J⟩
 . exact .inl h
 . exact .inr ⟨b,o,h1,Nat.lt_of_lt_of_le U I.size,λZ=>V (O b Z),λj u hu=>(I.cell (p:=⟨b,o+j,none⟩) (Am (J j u hu))).trans (J j u hu)⟩
def I6(l:List Pr):Prop:= ∀p∈l,p.1.size<=1000/\p.2.size<=1000
theorem I6.sized(h:I6 l):JL l:=λp hp=>⟨by have:=(h p hp).1;omega,by have:=(h p hp).2;omega⟩
theorem I6.put(h:I6 l)(h1:p.1.size<=1000)(J:p.2.size<=1000):I6 (Dc l p):=λq I=>by
 rcases PG I with rfl|I
 . exact⟨h1,J⟩
 . exact h q I
theorem I6.cut(h:I6 l)(n:Nat):I6 (l.eraseIdx n):=λq I=>h q (List.mem_of_mem_eraseIdx I)
section
variable {wr w6:World} {s t k b12 bx root now q:Nat} {F' F6:Nat->Prop} {R6:Zr} {H6:List Nat} {Aa:List It} {ns6:List Nat} {hg6:Nat}  {d:Int}  {vs:List Value}
theorem XB(x:An w6 bx 62 [.int .i64 d, .string p.1, .string p.2])(V: ¬F6 bx)(I:bx≠b12)(J:Bt.AJ Aa=l)(hd:d≠1)(al:l.length<=k)(Z:j<Aa.length)(aa:AN w6 s F6 R6 H6 (20*k) 262144 1000 4294967295 (9*k) t now (Aa.eraseIdx j) ns6 hg6 2)(hi:Aa[j].At R6)(ab:((ns6++(Aa.eraseIdx j).flatMap It.hs)++Aa[j].hs).Nodup)(ac:Ad wr F' w6 F6)(z:An w6 b12 31 vs)(ae: ∃v,vs[0]? =some v/\ ∀p,v≠ .pointer p)(af:vs.length=2)(ag: ¬F6 b12)(O:wr.heap.size<=b12/\s<b12/\1<b12):
 Ls wr F' ((w6.setCell ⟨b12,0,none⟩ (.int .u64 (Aa[j].kh:Nat))).setCell ⟨b12,1,none⟩ (.int .u64 (Aa[j].vh:Nat))) s t k b12 bx d l p now (j:Int) true:=by
 obtain⟨h1,ah⟩:=F8 (aa.more (P' :=20*(k+1)) (G' :=9*(k+1)) jA jA) ac O.1 z ae ag O.2 (.int .u64 (Aa[j].kh:Nat)) (.int .u64 (Aa[j].vh:Nat));have am:=ZR;have U:j<l.length:=jA
 obtain⟨ai,aj⟩:=HF J Z U
 match vs,af with
 | [a,b],_=>
   refine⟨_,_,_,_,_,_,2,h1,ah, ?_,by rw [List.length_eraseIdx];split<;>omega,(x.other (p:=⟨b12,0,none⟩) I _).other (p:=⟨b12,1,none⟩) I _,V, .inr ⟨rfl,rfl,j,U,Aa[j],rfl,hi,ab,ai,aj,(z.set 0 _).set 1 _⟩⟩
   unfold Rl;rw [if_neg hd,if_pos rfl,Int.toNat_natCast];unfold Bt.AJ at J ⊢;rw [<-Bt.HJ];exact congrArg (·.eraseIdx j) J
theorem Ln(x:An w6 bx 62 [.int .i64 d, .string p.1, .string p.2])(U: ¬F6 bx)(I:bx≠b12)(J:Bt.AJ Aa=l)(hd:d≠1)(af:l.length<=k)(V:AN w6 s F6 R6 H6 (20*k) 262144 1000 4294967295 (9*k) t now Aa ns6 hg6 0)(Z:Ad wr F' w6 F6)(z:An w6 b12 31 vs)(aa: ∃v,vs[0]? =some v/\ ∀p,v≠ .pointer p)(ab: ¬F6 b12)(O:wr.heap.size<=b12/\s<b12/\1<b12)(ac:nz<0)(c e:Value):
 Ls wr F' ((w6.setCell ⟨b12,0,none⟩ c).setCell ⟨b12,1,none⟩ e) s t k b12 bx d l p now nz false:=by
 obtain⟨h1,ae⟩:=F8 (V.more (P' :=20*(k+1)) (G' :=9*(k+1)) jA jA) Z O.1 z aa ab O.2 c e;have ag:=ZR;refine⟨_,_,_,_,_,_,0,h1,ae, ?_,jA,(x.other (p:=⟨b12,0,none⟩) I _).other (p:=⟨b12,1,none⟩) I _,U, .inl ⟨rfl,ac,rfl⟩⟩;unfold Rl;rw [if_neg hd,if_neg jD];exact J
theorem YN(x:An w6 bx 62 [.int .i64 1, .string p.1, .string p.2])(O: ¬F6 bx)(I:bx≠b12)(U:Bt.AJ its2=Dc l p)(V:its2.length<=k+1)(Z:jF w6 s F6 R6 H6 k t now its2 ns6 hg6 0)(aa:Ad wr F' w6 F6)(z:An w6 b12 31 vs)(ab: ∃v,vs[0]? =some v/\ ∀p,v≠ .pointer p)(ac: ¬F6 b12)(J:wr.heap.size<=b12/\s<b12/\1<b12)(ae:nz<0)(c e:Value):
 Ls wr F' ((w6.setCell ⟨b12,0,none⟩ c).setCell ⟨b12,1,none⟩ e) s t k b12 bx 1 l p now nz false:=by
 obtain⟨h1,af⟩:=F8 Z aa J.1 z ab ac J.2 c e;refine⟨_,_,_,_,_,_,0,h1,af, ?_,V,(x.other (p:=⟨b12,0,none⟩) I _).other (p:=⟨b12,1,none⟩) I _,O, .inl ⟨rfl,ae,rfl⟩⟩;unfold Rl;rw [if_pos rfl,if_neg jD];exact U
theorem Wf(x:An w6 bx 62 [.int .i64 1, .string p.1, .string p.2])(V: ¬F6 bx)(I:bx≠b12)(Z:AZ l)(J:j<l.length)(aa:l[j].1=p.1)(O:old.k=l[j].1/\old.v=l[j].2)(ab:Bt.AJ its2=Dc l p)(ac:its2.length<=k+1)(ae:jF w6 s F6 R6 H6 k t now its2 ns6 hg6 2)(hi:old.At R6)(af:((ns6++its2.flatMap It.hs)++old.hs).Nodup)(ag:Ad wr F' w6 F6)(z:An w6 b12 31 vs)(ah: ∃v,vs[0]? =some v/\ ∀p,v≠ .pointer p)(ai:vs.length=2)(aj: ¬F6 b12)(U:wr.heap.size<=b12/\s<b12/\1<b12):
 Ls wr F' ((w6.setCell ⟨b12,0,none⟩ (.int .u64 old.kh)).setCell ⟨b12,1,none⟩ (.int .u64 old.vh)) s t k b12 bx 1 l p now (j:Int) true:=by
 obtain⟨h1,al⟩:=F8 ae ag U.1 z ah aj U.2 (.int .u64 old.kh) (.int .u64 old.vh)
 match vs,ai with
 | [a,b],_=>
   refine⟨_,_,_,_,_,_,2,h1,al, ?_,ac,(x.other (p:=⟨b12,0,none⟩) I _).other (p:=⟨b12,1,none⟩) I _,V, .inr ⟨rfl,rfl,j,J,old,rfl,hi,af,O.1,O.2,(z.set 0 _).set 1 _⟩⟩;unfold Rl;rw [if_pos rfl,if_pos rfl,Int.toNat_natCast,X6 Z J aa];exact ab
end
theorem J8(ay:Ix w)(t:Int)(z:List Cl)(A:Option Addr)(c:Nat)(aa:z.length<=9223372036854775807)(hg:t<2\/16<t\/100<z.length):
 Calls prog 7 #[.int .i64 t, .slice A z.length c] w (ID w):=by
 have hN:=Yld;have hA:=Zh (λW (J:Below w.heap.size w W)=>Iy (ay.below J (Da ay)));have O:decide (t<2)=true\/(decide (t<2)=false/\decide (16<t)=true)\/(decide (t<2)=false/\decide (16<t)=false/\decide ((100:Int)<(z.length:Int))=true):=by
  simp only [decide_eq_true_eq,decide_eq_false_iff_not];omega
 clear ay hg;unfold ID;rcases O with d1|⟨d1,d2⟩|⟨d1,d2,d3⟩
 all_goals
  go_enter func7,ntmps7;go_wp2_with fail;refine hN.mono ?_;rintro e w1 ⟨s,F,rfl,U,V,Z,I⟩;have aK:=Zh I;clear I Z U hN V;go_wp2_with fail;refine(hA _ aK).mono ?_;exact Ybf
theorem KV: ∀Aa:List It,(Aa.flatMap It.hs).length=2*Aa.length
 | []=>rfl
 |i::Aa=>by
  have h:=KV Aa;rw [List.flatMap_cons,List.length_append,h,List.length_cons]
  show 2+_=_
  omega
theorem AN.only{s:Nat}{R:Zr}{H:List Nat}{P q most last G t root:Nat}{Aa:List It}{ns:List Nat}{hg:Nat}(h:AN w s F R H P q most last G t root Aa ns hg 0)(x:Nat)(hx:R x≠none):x∈Aa.flatMap It.hs++ns:=by
 have J:=(h.st.MH x).2 hx;by_cases hm:x∈ns++Aa.flatMap It.hs
 . exact List.mem_append.2 (List.mem_append.1 hm).symm
 . exfalso
   have h1:=K9 (f:=λ_=>1) (x::(ns++Aa.flatMap It.hs)) H (List.nodup_cons.2 ⟨hm,h.ow.nodup⟩) (λy I=>by
    rcases List.mem_cons.1 I with rfl|I
    . exact J
    . exact(h.st.MH y).2 (h.ne y I))
   have e: ∀l:List Nat,(l.map λ_=>1).sum=l.length:=λl=>by induction l<;>simp_all<;>omega
   rw [e,e,List.length_cons,List.length_append,KV] at h1;have O:=h.len;omega
def jC{P}(h:P:=by have:=hlen.out;omega):P:=h
def Ybb{P}(h:P:=by
 exact XB (au.1.Aq af au.2) (af.not au.1.lt au.2) aL aA jD aR aw aG aI aC ((Ad.below (F:=F') aF).trans af) aa jE rfl n6 aM):=h
def Yce{P}(h:P:=by
 have I:=Zh (Iy (aQ.below aW (Da aQ)));go_wp2_with fail;rw [<-aS.1];refine I.mono ?_;rintro e U ⟨rfl,J⟩;have O:=Zh (aW.trans (J.mono aW.size));clear J I;go_wp2;go_ret;exact⟨rfl,O⟩):=h
def Yfq{P}(h:P:=by
 clear aa al az z12;go_wp2;go_meet
 case rel=>exact⟨0,-1,false,rfl,rfl,rfl,rfl,ai⟩):=h
def Ymr{P}(h:P:=by
 have aa:=z12.Aq af n12.out;have n6:=af.not z12.lt n12.out;have f0:=aa.free 0;have f1:=aa.free 1;exact And.intro aa (And.intro n6 (And.intro f0 f1))):=h
def Yoh{P}(h:P:=by
 have I:Aa= []:=List.eq_nil_of_length_eq_zero (hlen.trans aN);have J:root=0:=(am.tr.zero am.z).2 I;exact And.intro I J):=h
def Yps{P}(h:P:=by
 have aa:=z12.below al;have f0:=aa.free 0;have f1:=aa.free 1;exact And.intro aa (And.intro f0 f1)):=h
def Yru{P}(h:P:=by
 have aa:=aV.1.Aq af aV.2;have n6:=af.not aV.1.lt aV.2;have f0:=aa.free 0;have f1:=aa.free 1;exact And.intro aa (And.intro n6 (And.intro f0 f1))):=h
theorem ON(ay:Ix w)(t:Nat)(bR:BN.A0 t)(z:List Cl)(A:Option Addr)(c:Nat)(h:Vn w A z)(g1:z.length<=100):
 Calls prog 7 #[.int .i64 t, .slice A z.length c] w (ID w):=by
 have aQ:=Zh ay;have t1:=bR.1;have t2:=bR.2;have d1:decide ((t:Int)<2)=false:=jB;have d2:decide ((16:Int)<(t:Int))=false:=jB;have d3:decide ((100:Int)<(z.length:Int))=false:=jB;have hN:=Yld;have bH:=Zh (λ(W:World) (F:Nat->Prop) (dW:Below w.heap.size w W) (dX: ∀b,F b->w.heap.size<=b)=>h.1.goes dW dX);have dY:=Zh h.2.1;have a6:=Zh bR;clear ay h bR;unfold ID;go_enter func7,ntmps7;go_wp2_with fail;refine hN.mono ?_;rintro e w1 ⟨s,F,rfl,cP,eD,b9,cb⟩;have cc:=Zh cb;have dZ:Hid (AN w1 s F (λ_=>none) [] 0 262144 1000 4294967295 0 t 0 [] [] 0 0):=Zh (AN.start cP t);have cQ:Hid (∀b,F b->w.heap.size<=b):=Zh b9;have d0:=Zh (bH w1 F cb b9);clear cP b9 cb hN bH;go_wp2_with fail
 go_loopw [7,8,9] (λd4 d5 cd wr=> ∃(k root:Nat) (l:List Pr) (bc:Option Addr) (a8:Nat) (Aa:List It) (ns:List Nat) (hg:Nat) (F' :Nat->Prop) (R' :Zr) (H' :List Nat),k<=z.length/\l.length<=k/\cd= .int .i64 k/\d4= .int .u64 root/\d5= .slice bc l.length a8/\Hid (AN wr s F' R' H' (20*k) 262144 1000 4294967295 (9*k) t root Aa ns hg 0)/\Hid (Bt.AJ Aa=l)/\Hid (RT wr F' bc a8 l)/\Hid (I6 l)/\Hid (Ad w1 F wr F')) (λ_ _ cd _=>z.length-(intOf cd).toNat)
 case atStart=>exact⟨0,0,[],none,0,[],[],0,F,(λ_=>none),[],jA,Nat.le_refl _,rfl,rfl,rfl,by simpa using dZ,Zh rfl,Zh ⟨.inl rfl,λ_=>rfl,Nat.le_refl _⟩,Zh (λp hp=>by cases hp),Zh (Ad.refl _ _)⟩
 case round=>
  obtain⟨k,root,l,bc,a8,Aa,ns,hg,F',R',H',eE,aR,rfl,rfl,rfl,a9,aA,ba,bS,bC⟩:=hrel;have ae:=Zh (cc.trans (bC.Hf cc.size cQ.out));have hlen:Hid (Aa.length=l.length):=Zh (by rw [<-Bt.Bz,aA.out]);have cR:=bC;by_cases cT:k<z.length
  . obtain⟨eF,cU,ce,q1,cf,d6⟩:=(d0.Aq bC).ops cT
    have cV:=dY.out _ (List.getElem_mem cT);generalize z[k]=p at*;obtain⟨d,aZ,a2⟩:=p;simp only at q1 cf d6 cV;obtain⟨⟨eG,eH⟩,eI,eJ⟩:=cV;subst ce;obtain⟨ao,aX⟩:=Zx (wr.alloc (Obj.cells #[.int .i64 d, .string aZ, .string a2] 62));have I:=Yke;obtain⟨bx,a1⟩:=Zx wr.heap.size;have aP:An ao bx 62 [.int .i64 d, .string aZ, .string a2]:=(by rw [aX,a1];exact An.new wr _ _);have aU: ¬F' bx:=(λa3=>by have:=a9.st.lt a3;omega);have c0:=aP.at' (i:=0) rfl;have c1:=aP.at' (i:=1) rfl;have c2:=aP.at' (i:=2) rfl;have bT:=Zh I;obtain⟨bU,aS⟩:=XD;have aW:=Dt;rw [aX,a1] at c0 c1 c2;clear aP aU I aX a1;by_cases d7:1000<aZ.size
    · as_aux_lemma=>
     have cW:decide ((1000:Int)<(aZ.size:Int))=true:=decide_eq_true jA;exact Yce
    . have cW:decide ((1000:Int)<(aZ.size:Int))=false:=jB
      by_cases d8:1000<a2.size
      · as_aux_lemma=>
       have cX:decide ((1000:Int)<(a2.size:Int))=true:=decide_eq_true jA;exact Yce
      . have cX:decide ((1000:Int)<(a2.size:Int))=false:=jB
        have cg:=Zh (RD (c:=a8) (ba.1.Aq (Ad.below (F:=F') bT)).AJ (Nat.le_refl _) jA bS.sized aZ jA);obtain⟨bb,ci⟩:=Zx (E2 l aZ);rw [<-ci] at cg;have bV:=Zh ci;clear ci;go_wp2_with fail;rw [<-aS.1];refine cg.mono ?_;rintro e w3 ⟨rfl,aB⟩;obtain⟨aD,ax⟩:=Zx (w3.alloc (Obj.cells #[.int .u64 0, .int .u64 0] 31));obtain⟨b12,aH⟩:=Zx w3.heap.size;have aO:=YY;have cj:=Ylo;have aJ:Below wr.heap.size wr aD:=bT.trans (cj.mono bT.size);have DY:Hid (An aD b12 31 [.int .u64 0, .int .u64 0]):=Zh (by rw [ax,aH];exact An.new w3 _ _);have cY:wr.heap.size<=b12:=(by rw [aH];exact Nat.le_trans bT.size aB.size);have n12:Hid (¬F' b12):=Zh (λa3=>by have:=a9.st.lt a3;omega);have aM:=Zh (show wr.heap.size<=b12/\s<b12/\1<b12 from⟨cY,by have:=a9.st.FP;omega,by have:=a9.st.Da;omega⟩);have bI:=bU.1.below cj;have bd:=bI.at' (i:=0) rfl;have be:=bI.at' (i:=1) rfl;have bk:=bI.at' (i:=2) rfl;have au:=Zh (And.intro bI bU.2);have aL:Hid (bx≠b12):=Zh (by have eK:=bU.1.lt;have a0:=aB.size;omega);have am:=Zh (a9.below aJ);obtain⟨aF,ck⟩:=SA;rw [aS.2,ax] at bd be bk;have cl:=Zh (And.intro a9.len (a9.tr.IE a6.out));have bm:Hid (aZ.size<=1000/\a2.size<=1000):=Zh ⟨jA,jA⟩;clear ax aH aO cj aJ bI aB cg cY c0 c1 c2 cW cX d7 d8;by_cases cZ:d=1\/d=2\/d=3\/d=4
        rotate_left
        · as_aux_lemma=>
         have eL:(d==1)=false:=(by simp;omega);have eM:(d==2)=false:=(by simp;omega);have eN:(d==3)=false:=(by simp;omega);have eO:(d==4)=false:=(by simp;omega);have cn:Hid (jF aD s F' R' H' k t root Aa ns hg 0/\RT aD F' bc a8 l/\Ad w1 F aD F'):=Zh ⟨am.more jA jA,⟨ba.1.Aq (Ad.below (F:=F') aF),ba.2⟩,bC.trans (Ad.below (F:=F') aF)⟩;clear cZ;go_wp2;go_roundw
         case rel=>rw [<-ck.1];exact⟨k+1,root,l,bc,a8,Aa,ns,hg,F',R',H',jA,jA,by go_num,rfl,rfl,Zh cn.1,aA,Zh cn.2.1,bS,Zh cn.2.2⟩
         case measure=>simp [intOf];omega
        . go_upto_block 2 with (fail)
          rw [<-ck.1,<-ck.2,<-aS.2];clear bd be bk;have bd:=au.1.at' (i:=0) rfl;have be:=au.1.at' (i:=1) rfl;have bk:=au.1.at' (i:=2) rfl;go_cut [7,11,13,14] from 76 to 133 (λd9 ea eb ec wx=> ∃(now:Nat) (nz:Int) (has:Bool),d9= .int .u64 now/\ea= .int .i64 nz/\eb= .bool has/\ec= .int .i64 0/\Hid (Ls wr F' wx s t k b12 bx d l (aZ,a2) now nz has))
          case first=>
           have z12:=DY.out;have ed:=Zh (show AZ l by rw [<-aA.out];exact am.ow.CY);rcases cZ with rfl|rfl|rfl|rfl
           · as_aux_lemma=>
            have co:=Nn am.out (aZ,a2) bm.1 bm.2 jA (by have:=cl.out;have:=hlen.out;omega) jA;dsimp only at co;have bH:=Zh co;clear co;go_wp2_with fail;refine bH.mono ?_;rintro e bJ ⟨it,bo,a4,bp,rfl,cp,cr,cs,c8,c9,V,da,bq⟩;dsimp only at cp cr;have hIn:=cs.PC a6.out it c8 c9 jC da jA (by have:=cl.out;have:=hlen.out;omega) jA;have z5:=z12.Aq V n12.out;have n5:=V.not z12.lt n12.out;have eP:=Zh cs;have bD:=Zh (And.intro cp cr);obtain⟨kh,db⟩:=Zx it.kh;obtain⟨vh,dc⟩:=Zx it.vh;rw [<-db,<-dc] at hIn ⊢;have cu:=Zh hIn;have aV:=Zh (And.intro z5 n5);have bg:=Zh (And.intro (au.1.Aq V au.2) (V.not au.1.lt au.2));have bK:=Zh ((Ad.below (F:=F') aF).trans V);clear bH cs c8 c9 V da bq hIn cp cr db dc z5 n5 z12;go_wp2_with fail;refine cu.mono ?_;intro e w6 ee
            cases ee with
            | @here _ old R6 F6 H6 ns6 hg6 a3 al bL aC af=>
              obtain⟨aa,n6,f0,f1⟩:=Yru;obtain⟨g0,g1⟩:=AX aa;obtain⟨j,aw,bM,br,bs,bu,bN⟩:=O6 (key:=aZ) (old:=old) am.ow.CY aA.out (by rw [<-bD.1];exact a3);have ai:jG wr F' w6 s t k b12 bx l (.int .u64 old.kh) (.int .u64 old.vh) 1 (aZ,a2) root bb true:=Zh (by
               have a0:=HF aA.out aw bM;rw [bs] at a0;rw [bV.out,br];refine Wf (bg.1.Aq af bg.2) (af.not bg.1.lt bg.2) aL ed bM (by rw [<-a0.1,<-bs];exact bu) a0 ?_ (by rw [Bt.Gf];have:=hlen.out;omega) (al.more jA jA) bL aC (bK.trans af) aa jE rfl n6 aM.out;rw [Bt.PV am.ow.CY a3,aA.out]
               show Dc l (it.k,it.v)=_
               rw [bD.1,bD.2])
              clear a3 al bL aC af aa n6 aw bM br bs bu bN cu;go_wp2;go_meet
              case rel=>exact⟨root,bb,true,rfl,rfl,rfl,rfl,ai⟩
            | @put _ now R6 F6 H6 ns6 hg6 a3 al af=>
              obtain⟨aa,n6,f0,f1⟩:=Yru;obtain⟨g0,g1⟩:=AX aa;have ai:jG wr F' w6 s t k b12 bx l (.int .u64 0) (.int .u64 0) 1 (aZ,a2) now bb false:=Zh (by
               refine YN (bg.1.Aq af bg.2) (af.not bg.1.lt bg.2) aL ?_ (by rw [Bt.E8];have:=hlen.out;omega) (al.more jA jA) (bK.trans af) aa jE n6 aM (by
                rw [bV.out,Q6 (key:=aZ) am.ow.CY aA.out (by rw [<-bD.1];exact a3)];decide) _ _
               rw [Bt.LS am.ow.CY a3,aA.out]
               show Dc l (it.k,it.v)=_
               rw [bD.1,bD.2])
              clear a3 al af aa n6 cu;go_wp2;go_meet
              case rel=>exact⟨now,bb,false,rfl,rfl,rfl,rfl,ai⟩
           · as_aux_lemma=>
            cases a3:Bt.Bb Aa aZ with
            |none=>
             have az:=Zh (am.RK a6.out bm.1 a3 jC);have ef:Hid (bb<0):=Zh (by rw [bV.out,Q6 am.ow.CY aA.out a3];decide);clear a3;go_wp2_with fail;refine az.mono ?_;rintro e w6 ⟨rfl,al⟩;obtain⟨aa,f0,f1⟩:=Yps;obtain⟨g0,g1⟩:=AX aa;have ai:jG wr F' w6 s t k b12 bx l (.int .u64 0) (.int .u64 0) 2 (aZ,a2) root bb false:=Zh (Ln (au.1.below al) au.2 aL aA jD aR (am.below al) (Ad.below (F:=F') (aF.trans (al.mono aF.size))) aa jE n12 aM ef _ _);clear aa al az z12;go_wp2;go_meet
             case rel=>exact⟨root,bb,false,rfl,rfl,rfl,rfl,ai⟩
            |some old=>
             obtain⟨j,aw,bM,br,bs,bu,bN⟩:=O6 am.ow.CY aA.out a3;have aE:=am.MX a6.out bm.1 aw bu jC;obtain⟨bh,U⟩:=Zx (Aa[j]'aw);obtain⟨dd,aq⟩:=Zx (Aa.eraseIdx j);rw [<-U,<-aq] at aE;obtain⟨az,a7⟩:=X7;have eg:Hid (bb=(j:Int)):=Zh (bV.trans br);clear a3 aE U aq br bs bu bN;go_wp2_with fail;refine az.mono ?_;rintro e w6 ⟨R6,F6,H6,now,ns6,hg6,rfl,aG,aI,aC,af⟩;obtain⟨aa,n6,f0,f1⟩:=Ymr;obtain⟨g0,g1⟩:=AX aa;have ai:jG wr F' w6 s t k b12 bx l (.int .u64 bh.kh) (.int .u64 bh.vh) 2 (aZ,a2) now bb true:=Zh (by
              rw [a7.1] at aI aC ⊢;rw [a7.2] at aG aC;rw [eg.out];exact Ybb)
             clear aG aI aC af aa n6 az z12 a7 aw bM;go_wp2;go_meet
             case rel=>exact⟨now,bb,true,rfl,rfl,rfl,rfl,ai⟩
           · as_aux_lemma=>
            by_cases aN:l.length=0
            . obtain⟨bO,cv⟩:=Yoh
              have az:=Zh (am.UL a6.out bO);have cw:l= []:=List.eq_nil_of_length_eq_zero aN;subst cw cv;clear aN bO;go_wp2_with fail;refine az.mono ?_;rintro e w6 ⟨rfl,al⟩;obtain⟨aa,f0,f1⟩:=Yps;obtain⟨g0,g1⟩:=AX aa;have ai:jG wr F' w6 s t k b12 bx [] (.int .u64 0) (.int .u64 0) 3 (aZ,a2) 0 (-1) false:=Zh (Ln (au.1.below al) au.2 aL aA jD aR (am.below al) (Ad.below (F:=F') (aF.trans (al.mono aF.size))) aa jE n12 aM jD _ _);exact Yfq
            . have aw:0<Aa.length:=by have:=hlen.out;omega
              have aE:=am.Px a6.out 0 aw rfl jC;obtain⟨bh,U⟩:=Zx (Aa[0]'aw);obtain⟨dd,aq⟩:=Zx (Aa.eraseIdx 0);rw [<-U,<-aq] at aE;obtain⟨az,a7⟩:=X7;have eh:IntKind.i64.wrap ((l.length:Int)-1)=(l.length:Int)-1:=(by rw [IntKind.wrap_i64];omega);have eQ:min 0 ((l.length:Int)-1)=0:=jA;clear aE U aq;go_wp2_with fail;refine az.mono ?_;rintro e w6 ⟨R6,F6,H6,now,ns6,hg6,rfl,aG,aI,aC,af⟩;obtain⟨aa,n6,f0,f1⟩:=Ymr;obtain⟨g0,g1⟩:=AX aa;have ai:jG wr F' w6 s t k b12 bx l (.int .u64 bh.kh) (.int .u64 bh.vh) 3 (aZ,a2) now 0 true:=Zh (by
               rw [a7.1] at aI aC ⊢;rw [a7.2] at aG aC;exact Ybb)
              clear aG aI aC af aa n6 az z12 a7 aw;go_wp2;go_meet
              case rel=>exact⟨now,0,true,rfl,rfl,rfl,rfl,ai⟩
           · as_aux_lemma=>
            by_cases aN:l.length=0
            . obtain⟨bO,cv⟩:=Yoh
              have az:=Zh (am.PF a6.out bO);have cw:l= []:=List.eq_nil_of_length_eq_zero aN;subst cw cv;clear aN bO;go_wp2_with fail;refine az.mono ?_;rintro e w6 ⟨rfl,al⟩;obtain⟨aa,f0,f1⟩:=Yps;obtain⟨g0,g1⟩:=AX aa;have ai:jG wr F' w6 s t k b12 bx [] (.int .u64 0) (.int .u64 0) 4 (aZ,a2) 0 (-1) false:=Zh (Ln (au.1.below al) au.2 aL aA jD aR (am.below al) (Ad.below (F:=F') (aF.trans (al.mono aF.size))) aa jE n12 aM jD _ _);exact Yfq
            . obtain⟨j,ei⟩: ∃j,l.length=j+1:=⟨l.length-1,jA⟩
              have aw:j<Aa.length:=jC;have aE:=am.XU a6.out j aw jC jC;obtain⟨bh,U⟩:=Zx (Aa[j]'aw);obtain⟨dd,aq⟩:=Zx (Aa.eraseIdx j);rw [<-U,<-aq] at aE;obtain⟨az,a7⟩:=X7;have eh:IntKind.i64.wrap ((l.length:Int)-1)=(j:Int):=(by rw [IntKind.wrap_i64];omega);clear aE U aq ei;go_wp2_with fail;refine az.mono ?_;rintro e w6 ⟨R6,F6,H6,now,ns6,hg6,rfl,aG,aI,aC,af⟩;obtain⟨aa,n6,_,_⟩:=Ymr;obtain⟨g0,g1⟩:=AX aa;have ai:jG wr F' w6 s t k b12 bx l (.int .u64 bh.kh) (.int .u64 bh.vh) 4 (aZ,a2) now (j:Int) true:=Zh (by
               rw [a7.1] at aI aC ⊢;rw [a7.2] at aG aC;exact Ybb)
              clear aG aI aC af aa n6 az z12 a7 aw;go_wp2;go_meet
              case rel=>exact⟨now,(j:Int),true,rfl,rfl,rfl,rfl,ai⟩
          case rest=>
           obtain⟨bJ,de⟩:=Zx wc;rw [<-de] at hcut ⊢;clear de;obtain⟨now,nz,has,rfl,rfl,rfl,rfl,df⟩:=hcut
           as_aux_lemma=>
           obtain⟨its2,R2,F2,H2,bv,bw,m2,dg,dh,di,dj,an,ar,aj⟩:=df.out;obtain⟨a5,bq⟩:=Zx (if has then l.eraseIdx nz.toNat else l);have dk:Hid (Bt.AJ its2=if d=1 then Dc a5 (aZ,a2) else a5):=Zh (by rw [di,bq];rfl);have dl:=Zh bq;have dm:decide (0<=nz)=has:=by
            rcases aj with ⟨rfl,h1,-⟩|⟨rfl,-,j,-,-,h1,-⟩
            . exact jB
            . rw [h1];exact decide_eq_true jA
           have dn:(has !=has)=false:=by cases has<;>rfl
           have cx:=Zh dg;have bW:=Zh dh;obtain⟨bE,cy⟩:=Oo;have bi:Hid (I6 a5/\a5.length<=k/\its2.length<=k+1):=Zh ⟨by rw [bq];split;exact bS.cut _;exact bS.out,by rw [bq];split;(rw [List.length_eraseIdx];split<;>omega);exact aR,dj⟩
           clear dg dh di dj an ar aj df bq a9 am aA bC DY n12 bd be bk bU au cl;go_upto_if 142 with (fail);go_cut [8] from 143 to 163 (λej wx=> ∃(bj:Option Addr) (c5:Nat) (bo:Zr) (a4:Nat->Prop) (bp:List Nat),ej= .slice bj a5.length c5/\Hid (jF wx s a4 bo bp k t now its2 bv bw 0/\RT wx a4 bj c5 a5/\Ad wr F' wx a4/\An wx bx 62 [.int .i64 d, .string aZ, .string a2]/\ ¬a4 bx))
           case first=>
            as_aux_lemma=>
            rcases cy.out with ⟨rfl,ek,rfl⟩|⟨rfl,rfl,j,aw,old,rfl,bL,dp,dq,dr,aH⟩
            . have cz:Hid (jF bJ s F2 R2 H2 k t now its2 bv bw 0/\RT bJ F2 bc a8 l/\Ad wr F' bJ F2/\An bJ bx 62 [.int .i64 d, .string aZ, .string a2]/\ ¬F2 bx):=Zh ⟨cx,⟨ba.1.Aq bW,ba.2⟩,bW,bE⟩
              obtain rfl:a5=l:=by rw [dl.out];rfl
              clear ek;go_wp2;go_meet
              case rel=>exact⟨bc,a8,R2,F2,H2,rfl,cz⟩
            . have ds:a5=l.eraseIdx j:=by rw [dl.out,if_pos rfl,Int.toNat_natCast]
              have dt:JQ l j (j+1)=l.eraseIdx j:=(by unfold JQ;rw [List.eraseIdx_eq_take_drop_succ]);have el:Hid (∀W,D8 W W.heap.size bc l->Calls prog 22 #[.slice bc l.length a8, .int .i64 (j:Nat), .int .i64 ((j:Int)+1)] W λe w' => ∃v,e= .returned v/\w'.ownsRow W.heap.size 45 2 v a5.length (B5 a5)/\Below W.heap.size W w'):=Zh (λW em=>by
               have a0:=UM (c:=a8) em (Nat.le_refl _) ba.2.1 ba.2.2 jA j (j+1) jA jA;rw [dt,<-ds] at a0;push_cast at a0;exact a0)
              obtain⟨en,cU,ce,q1,cf⟩:=ba.1.U5 aw;obtain⟨du,cB⟩: ∃z,l[j].1=z:=⟨_,rfl⟩;obtain⟨dv,cC⟩: ∃z,l[j].2=z:=⟨_,rfl⟩;have eo:=Zh (λW (ay: ∃dw,Ad wr F' W dw)=>by
               obtain⟨dw,ay⟩:=ay;have a0:=(ba.1.Aq ay).U5 aw;rw [cB,cC] at a0;exact a0)
              have eR:j<=100:=jA;have eS:decide ((j:Int)<0)=false:=jB;have eT:decide ((l.length:Int)<=(j:Int))=false:=jB;have eU:decide (l.length<=j)=false:=jB;have bX:=N5 (m:=0) cx bL dp;rw [dq,dr,cB,cC] at bX;subst ce;obtain⟨eV,dx⟩:=Zx old.kh;obtain⟨eW,dy⟩:=Zx old.vh;rw [<-dx,<-dy] at bX aH;obtain⟨bd,be⟩:=AX aH;have dz:=Zh bX;clear bX dx dy dt ds cB cC q1 cf aH bL dp dq dr cy dm dn;go_wp2_with fail;refine dz.mono ?_;rintro e O ⟨dA,bF,dB,rfl,dC,ep,dD⟩;obtain⟨ag,ac⟩:=Zx (O.alloc (Obj.cells #[.string du, .string dv] 45));obtain⟨eq,cD⟩:=Zx O.heap.size;have cF:=ZK;have aT:An ag eq 45 [.string du, .string dv]:=(by rw [ac,cD];exact An.new O _ _);have cG:=Zh (dD.trans (Ad.below cF));have dE:=Zh (bW.trans cG);have es:=Zh (dC.below cF);have bY:=Zh (And.intro (bE.1.Aq cG.out bE.2) (cG.not bE.1.lt bE.2));obtain⟨b2,et,dF,s1,s2⟩:=eo.out ag ⟨_,dE⟩;obtain⟨rfl,rfl⟩:en=b2/\cU=et:=by simpa using dF
              obtain⟨br,bs⟩:=Yio;have bu:=(λX:Au (λ_=>False) ag=>X.cell s1 (λh=>h));have bN:=(λX:Au (λ_=>False) ag=>X.cell s2 (λh=>h));have dG:=Zh (And.intro ac cD);clear ac cD cF aT dC dD ep dF s1 s2 dz bd be;go_wp2;rw [<-dG.1,<-dG.2];refine As (λw' => ∃X:Au (λ_=>False) ag,w' =X.W) [.r 0, .r 1, .r 2, .r 3, .r 4, .r 5, .r 6, .r 7, .r 8, .r 9] (Ay _ _) ?_
              iterate 10 (refine AH ?_;go_simp)
              clear br bs bu bN;refine AP ?_;have cH:=Zh (Ad.below (F:=bF) (Ac ag));have dH:=Zh (dE.trans cH);have dI:=Zh (es.below (Ac ag));have dJ:=Zh (And.intro (bY.1.Aq cH.out bY.2) (cH.not bY.1.lt bY.2));have dK:=Zh (el _ (ba.1.Aq dH).AJ);go_wp2_with fail;refine dK.mono ?_;rintro e bZ ⟨v,rfl,bz,b3⟩;obtain⟨bj,c5,rfl,ab,dL,dM⟩:=NQ bz rfl;have cz:Hid (jF bZ s bF dA dB k t now its2 bv bw 0/\RT bZ bF bj c5 a5/\Ad wr F' bZ bF/\An bZ bx 62 [.int .i64 d, .string aZ, .string a2]/\ ¬bF bx):=Zh ⟨dI.below b3,⟨AK.own bz dM (λb a3=>dI.st.lt a3),ab,dL⟩,dH.trans (Ad.below b3),dJ.1.below b3,dJ.2⟩;clear bz ab dL dM b3 dK;go_wp2;go_meet
              case rel=>exact⟨bj,c5,dA,bF,dB,rfl,cz⟩
           case rest=>
            obtain⟨w6,dN⟩:=Zx wc;rw [<-dN] at hcut ⊢;clear dN;obtain⟨bj,c5,bo,a4,bp,rfl,dO⟩:=hcut;obtain⟨J,ab,V,b4,eu⟩:=dO.out;obtain⟨b5,bG,bK⟩:=EA;have bd:=b4.at' (i:=0) rfl;have be:=b4.at' (i:=1) rfl;have bk:=b4.at' (i:=2) rfl;clear dO J ab V b4 eu cy cx bW bE dm dn;by_cases cI:d=1
            · as_aux_lemma=>
             subst cI;have bA:Hid (Bt.AJ its2=Dc a5 (aZ,a2)):=Zh (by rw [dk.out,if_pos rfl]);have b8:=Zh (U1 (c:=c5) bG.1.AJ (Nat.le_refl _) bG.2.1 bG.2.2 (by have:=bi.2.1;omega) bi.1.sized (aZ,a2) (by have:=bm.1;dsimp only;omega));dsimp only at b8;obtain⟨bP,cJ⟩:=Zx (Dc a5 (aZ,a2));have ev:Hid (I6 bP):=Zh (by rw [cJ];exact bi.1.put bm.1 bm.2);rw [<-cJ] at b8 bA;have cK:bP.length<=k+1:=(by rw [<-bA.out,Bt.Bz];exact bi.2.2);clear cJ;go_wp2_with fail;refine b8.mono ?_;rintro e dP ⟨v,rfl,bz,Z⟩;obtain⟨cL,c7,rfl,dQ,dR,dS⟩:=NQ bz rfl;have cM:Hid (RT dP a4 cL c7 bP):=Zh ⟨AK.own bz dS (λb a3=>b5.st.lt a3),dQ,dR⟩;have dT:=Zh (b5.below Z);have ew:=Zh (bK.trans (Ad.below Z));have bQ:=Zh (Sf a6.out dT (by have:=bi.2.2;omega) c7 bA cM.1);clear bz dQ dR dS Z b8 bd be bk;go_wp2_with fail;refine bQ.mono ?_;rintro e bB ⟨rfl,bf⟩;have ai:Hid (jF bB s a4 bo bp k t now its2 bv bw 0/\RT bB a4 cL c7 bP/\Ad w1 F bB a4):=Zh ⟨dT.below bf,⟨cM.1.Aq (Ad.below (F:=a4) bf),cM.2⟩,cR.trans (ew.trans (Ad.below bf))⟩;clear bf bQ;go_wp2;go_roundw
             case rel=>exact⟨k+1,now,bP,cL,c7,its2,bv,bw,a4,bo,bp,jA,cK,by go_num,rfl,rfl,Zh ai.1,bA,Zh ai.2.1,ev,Zh ai.2.2⟩
             case measure=>simp [intOf];omega
            · as_aux_lemma=>
             have eX:(d==1)=false:=(by simp;omega);have bA:Hid (Bt.AJ its2=a5):=Zh (by rw [dk.out,if_neg cI]);have bQ:=Zh (Sf a6.out b5 (by have:=bi.2.2;omega) c5 bA bG.1);have cK:a5.length<=k+1:=(by have:=bi.2.1;omega);clear cI;go_wp2_with fail;refine bQ.mono ?_;rintro e bB ⟨rfl,bf⟩;have ai:Hid (jF bB s a4 bo bp k t now its2 bv bw 0/\RT bB a4 bj c5 a5/\Ad w1 F bB a4):=Zh ⟨b5.below bf,⟨bG.1.Aq (Ad.below (F:=a4) bf),bG.2⟩,cR.trans (bK.trans (Ad.below bf))⟩;clear bf bQ bd be bk;go_wp2;go_roundw
             case rel=>exact⟨k+1,now,a5,bj,c5,its2,bv,bw,a4,bo,bp,jA,cK,by go_num,rfl,rfl,Zh ai.1,bA,Zh ai.2.1,Zh bi.1,Zh ai.2.2⟩
             case measure=>simp [intOf];omega
  · as_aux_lemma=>
   obtain rfl:k=z.length:=jA
   have cN:=Zh (a9.IL a6.out jC);have aY:=Zh (λW (J:Below w.heap.size w W)=>Iy (aQ.below J (Da aQ)));have ex:Hid (CQ R' (Aa.flatMap It.hs++ns)=λ_=>none):=Zh (by
    funext x
    unfold CQ
    split
    . rfl
    . next hx=>
      cases ey:R' x with
      |none=>rfl
      |some ws=>exact absurd (a9.only x (by rw [ey];simp)) hx)
   have ez:Hid (∀b,F' b->w.heap.size<=b):=Zh (λb a3=>by
    rcases bC.grow b a3 with a0|a0
    . exact cQ.out b a0
    . exact Nat.le_trans cc.size a0)
   rw [ex.out] at cN;go_wp2_with fail;refine cN.mono ?_;rintro e w6 ⟨F6,H6,rfl,cO,af⟩;have eA:H6= []:=List.eq_nil_iff_forall_not_mem.2 (λx hx=>by
    have a0:=(cO.MH x).1 hx;simp at a0)
   have dU:=Zh (T1 cO);have al:=Zh (ae.trans (af.Hf ae.size ez.out));clear cO af cN;go_wp2_with fail;refine dU.mono ?_;rintro e dP ⟨n6,rfl,dV,-,Z⟩;have eB:n6=0:=by
    obtain⟨p,h1,-,eC,-⟩:=dV;rw [h1,eC eA]
   subst eB;have aK:=OZ;clear Z dU dV;go_wp2_with fail;refine(aY _ aK).mono ?_;exact Ybf
open Go.ChangeMaps (open_string shut_string)
theorem walk(W:World)(O:Ix W)(n0:Int)(aa: -9223372036854775808<=n0/\n0<=9223372036854775807)(J:Option Addr)(c1:Nat)(I:List Cl)(U:Vn W J I):
 Calls prog 7 #[.int .i64 n0, .slice J I.length c1] W (ID W):=by
 by_cases h1:n0<2
 . exact J8 O n0 I J c1 U.2.2 (.inl h1)
 . by_cases V:16<n0
   . exact J8 O n0 I J c1 U.2.2 (.inr (.inl V))
   . by_cases Z:100<I.length
     . exact J8 O n0 I J c1 U.2.2 (.inr (.inr Z))
     . obtain⟨t,rfl⟩:=Int.eq_ofNat_of_zero_le (show 0<=n0 by omega)
       exact ON O t ⟨jA,jA⟩ I J c1 U jA
theorem lifted(os:Os)(started:os.Started)(H:Type)(enc:TypeId × Value->H):
 ReturnsInHanded {} Tryz.checked os 7 .any (λw args=>(Rows.bcutPlaysSpec.pre enc prog f7 [] false w args/\laidMetH prog GD w)/\sizedMet enc prog f7 (OpenSpec.ofChange Rows.bcutPlaysSpec) false w args)
  (Rows.bcutPlaysSpec.post enc prog f7 false true false false):=by
 refine returnsInHanded_of_change_and (C:=Tryz.checked) (X:=λw _=>laidMetH prog GD w) (λ_ _ _ hh h=>h.of_heap hh) own started (by kernel_rfl) func7
  (ChangeSpec.witness_shaped (enc:=enc) (C:=Tryz.checked) (os:=os) (X:=λw _=>laidMetH prog GD w) false (World.doorLaid prog 400 os) #[.int .i64 0, .slice none 0 0] 8 rfl (World.shaped_of_RefB (by kernel_rfl) (by kernel_rfl)) (by kernel_rfl) (by kernel_rfl) (by kernel_rfl) (LR os _)) ?_
 intro W base args ab gs before J O _ am ac _;have I: ∀(j:Nat) t v,f7.params[j]? =some t->args[j]? =some v->Value.okWide prog W .any base t v:=J;have ae :=O;obtain⟨p,q,U,af,rfl,an,ao⟩:=O;have hA:DataW.TrodAll enc prog W 0 (λ_=>true) true f7.params.toList args.toList ab p:=U;rw [Tryz.params7] at hA I;obtain⟨v0,aq,d0,ar,au,aw,ax,rfl,rfl,h0,ag⟩:=trodAll_cons hA;obtain⟨v1,ay,d1,az,ah,q1,rfl,rfl,rfl,h1,r1⟩:=trodAll_cons ag;obtain⟨rfl,rfl,rfl⟩:=trodAll_nil r1;obtain rfl:args= #[v0,v1]:=by cases args;simp_all
 obtain⟨rfl,rfl⟩:=trodVars_none af;obtain⟨l0,rfl,rfl,rfl,V⟩:=open_int Tryz.underlying3 (I 0 3 v0 rfl rfl) h0;obtain⟨Z,m1,c1,rfl⟩:=okWide_slice Tryz.underlying60 (I 1 60 v1 rfl rfl);have k1:=h1;have ai: ∀x∈ah,x.block<W.heap.size:=by obtain⟨m,hm⟩:=k1;exact DataW.trod_lt m _ _ _ hm
 obtain⟨l1,rfl,w1⟩: ∃l,m1=l.length/\Vn W Z l:=by
  obtain⟨fuel,aj⟩:=h1;obtain⟨A,len,cap,l,aa,hlen,al⟩:=VQ Tryz.underlying60 Tryz.underlying62 (by kernel_rfl) rfl rfl rfl rfl aj;simp only [Value.cells,List.cons.injEq,Value.slice.injEq,and_true] at aa;obtain⟨rfl,rfl,rfl⟩:=aa;exact⟨l,hlen,al⟩
 clear U J;refine(walk W (Nh ac) l0 (Ia V) Z c1 l1 w1).mono λe W' ⟨he,hg⟩=> ?_
 subst he;exact⟨_,rfl,_,_,_,[],_,[],ae,trodAll_mk1 (shut_bool Tryz.underlying4 _),(trodAll_cons_mk (shut_int Tryz.underlying3 V) (trodAll_cons_mk (Below.trod laidOut (by kernel_rfl) (of_decide_eq_true (by kernel_rfl)) k1 hg ai) trodAll_mk0)),rfl,hg.frame _,λh=>by cases h⟩
theorem over:Rows.BcutPlaysSaid:=
 OpenClaim.holds_of_wide 7 f7 rfl rfl rfl rfl rfl rfl rfl ⟨rfl,rfl,rfl,rfl,rfl⟩ rfl rfl rfl rfl rfl (by kernel_rfl) func7 (by kernel_rfl)
  (of_decide_eq_true (by kernel_rfl)) (by unfold Func.isWrapper;first|(rw [if_pos (by decide+kernel)];kernel_rfl)|(rw [if_neg (by decide+kernel)];exact⟨rfl,rfl⟩))
  (λos started H enc _=>lifted os started H enc)
theorem proved:Rows.BcutPlaysCardSaid:=
 Claim7.holds_tied_plain_at .later [] [.data] true (true, "decf4495e0eb9d1dc5f760179527da9ce0eac81654323c3da16ae9e0811fd128") false
  over (λ_ h=>by cases h) (by kernel_rfl) (λ_ h=>by cases h) bcutPlays_row_tie rfl ⟨rfl,rfl⟩ (by kernel_rfl) rfl
  (λf fn J O=>by
   obtain rfl:f=7:=Option.some.inj ((show prog.funcNamed "loft/loftlaw17.BcutPlays" =some 7 by kernel_rfl).symm.trans J) |>.symm;obtain rfl:fn=f7:=(Option.some.inj (func7.symm.trans O)).symm;exact⟨by kernel_rfl,λj t I=>by
    rw [Tryz.params7] at I;have hm:t∈ [3,60]:=(by simpa using Array.mem_of_getElem? I);have U:([3,60].all λu=> !prog.wantsStandIn u)=true:=(by kernel_rfl);exact(show prog.wantsStandIn t=false by simpa using List.all_eq_true.1 U t hm)⟩)
  (by kernel_rfl)
