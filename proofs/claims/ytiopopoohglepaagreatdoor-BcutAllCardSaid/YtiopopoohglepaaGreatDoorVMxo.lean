/- A part. -/
import Derived.Test.YtiopopoohglepaaGreatDoorVMxn
set_option linter.all false
set_option maxRecDepth 100000
set_option maxHeartbeats 4000000
namespace Go.Proofs.YtiopopoohglepaaGreatDoor
open Go.Proofs.Tryz
open Go.RowKit Go.Shelf
variable {A:Option Addr}{a b c l m:List Pr}{k:Nat}{w:World}
def Ybs{P}(h:P:=by
 rw [Bt.LM aO.ow.Dn an,aq.out,<-aP.out]
 show C4 _ (it.k,it.v)=_
 rw [aL.1,aL.2]):=h
def Yhs{P}(h:P:=by
 have d:Below au.heap.size au ai:=by rw [ay];exact(Below.refl _ _).alloc (Nat.le_refl _) _
 exact d):=h
def Yij{P}(h:P:=by
 have hN:=Zh (MZ U 262144 1000 4294967295 (by omega) (by omega) (by omega) (by omega) (by omega));exact hN):=h
def Yjq{P}(h:P:=by
 have an:Bt.Bb Aa it.k=none:=Gn aO.ow.Dn (by rw [aL.1,aq.out];exact Int.not_le.2 aQ);exact an):=h
def Ykw{P}(h:P:=by
 have d:=Zh (And.intro aw.len (And.intro (aw.tr.II aj.out) aM));exact d):=h
theorem GH(U:Hc w):Calls prog 13 #[] w λe w' =>e= .returned (.bool true)/\Below w.heap.size w w' :=by
 have hN:=Yij;have bb:BN.A1 2:=⟨by omega,by omega⟩;have aj:=Zh bb;clear U bb;go_enter func13,ntmps13;go_wp2_with fail;refine hN.mono ?_;rintro e w1 ⟨s,F,rfl,Z,cg,ab,J⟩;obtain⟨ac,bM,aN⟩:=EW;clear J ab Z hN;go_wp2_with fail;obtain⟨ah,ax⟩:=Zx (w1.alloc (Obj.cells #[.string ⟨#[97]⟩, .string ⟨#[]⟩, .string ⟨#[98]⟩, .string ⟨#[]⟩, .string ⟨#[99]⟩, .string ⟨#[]⟩, .string ⟨#[100]⟩, .string ⟨#[]⟩] 45));obtain⟨b2,aR⟩:=Zx w1.heap.size;have d:An ah b2 45 [.string ⟨#[97]⟩, .string ⟨#[]⟩, .string ⟨#[98]⟩, .string ⟨#[]⟩, .string ⟨#[99]⟩, .string ⟨#[]⟩, .string ⟨#[100]⟩, .string ⟨#[]⟩]:=by rw [ax,aR];exact An.new w1 45 _
 have bc: ¬F b2:=λae=>by have:=aN.lt ae;omega
 have bd:Hid (∀k (al:k<4),ah.cell? ⟨b2,k*2,none⟩=some (.string (FI[k]'al).1)/\ah.cell? ⟨b2,k*2+1,none⟩=some (.string ⟨#[]⟩)):=Zh λk al=>by
  match k,al with
  |0,_=>exact⟨d.at' (i:=0) rfl,d.at' (i:=1) rfl⟩
  |1,_=>exact⟨d.at' (i:=2) rfl,d.at' (i:=3) rfl⟩
  |2,_=>exact⟨d.at' (i:=4) rfl,d.at' (i:=5) rfl⟩
  |3,_=>exact⟨d.at' (i:=6) rfl,d.at' (i:=7) rfl⟩
 have I:Below w1.heap.size w1 ah:=by rw [ax];exact(Below.refl _ _).alloc (Nat.le_refl _) _
 have bN:Hid (AU ah s F (λ_=>none) [] 0 262144 1000 4294967295 0 2 0 [] [] 0 0):=Zh (AU.start (aN.below I) 2);have be:=DR;have bf:=Zh bc;rw [<-ax,<-aR];clear d I ax aR aN ac bc
 go_loopw [3,5] (λbO aS wr=> ∃(k root:Nat) (Aa:List It) (ns:List Nat) (hg:Nat) (F' :Nat->Prop) (R' :Zr) (H' :List Nat),k<=4/\aS= .int .i64 k/\bO= .int .u64 root/\Hid (AU wr s F' R' H' (20*k) 262144 1000 4294967295 (9*k) 2 root Aa ns hg 0)/\Hid (Bt.AI Aa=FI.take k)/\Hid (Ad ah F wr F')) (λ_ aS _=>4-(intOf aS).toNat)
 case atStart=>exact⟨0,0,[],[],0,F,_,[],by omega,rfl,rfl,by simpa using bN,Zh rfl,Zh (Ad.refl _ _)⟩
 case round=>
  obtain⟨k,root,Aa,ns,hg,F',R',H',al,rfl,rfl,aw,aq,aA⟩:=hrel;by_cases aB:k<4
  . obtain⟨aT,aC,aD,z2⟩:=Uf k aB
    have q1:=aA.cell (bd k aB).1 bf.out;have bP:=aA.cell (bd k aB).2 bf.out;obtain⟨p,hp⟩: ∃p,FI[k]'aB=p:=⟨_,rfl⟩;rw [hp] at aT aC aD z2 q1;obtain⟨bQ,aU⟩:=p;dsimp only at aD z2 q1 aC;subst z2;have aM:Aa.length=k:=(by rw [<-Bt.Bn,aq.out,List.length_take];exact Nat.min_eq_left al);have aV:=Ykw;have bg:=Zh (JS aw.out (bQ,⟨#[]⟩) aD (show(⟨#[]⟩:ByteArray).size<=1000 by decide) (by omega) (by have:=aV.out;omega) (by omega));have aP:=Zh aT;have aQ:=Zh aC;clear aT aC hp aM aD;go_wp2_with fail;refine bg.mono ?_;rintro e w3 ⟨it,R3,ci,cj,rfl,az,aF,aE,hi,bh,U,bi,ck⟩;have hIn:=aE.LB aj.out it hi bh (by have:=aV.out;omega) bi (by omega) (by have:=aV.out;omega) (by omega);rw [show((2:Nat):Int)=2 from rfl] at hIn;have aW:=Zh hIn;have bR:=Zh (aA.trans U);obtain⟨aO,aL⟩:=QI;obtain⟨kh,bj⟩:=Zx it.kh;obtain⟨vh,bk⟩:=Zx it.vh;rw [<-bj,<-bk] at aW ⊢;clear bg aE U hIn az aF bh hi bi q1 bP bj bk;go_wp2_with fail;refine aW.mono ?_;intro e w4 bS;have an:=Yjq
    cases bS with
    |here ae _ _ _ _=>exfalso;rw [an] at ae;cases ae
    | @put _ now R4 F4 H4 ns' hg' ae hb4 hT4=>
      have aX:Below w4.heap.size w4 (w4.alloc (Obj.cells #[.int .u64 0, .int .u64 0] 31)):=(Below.refl _ w4).alloc (Nat.le_refl _) _;have bm :=(hb4.more (P' :=20*(k+1)) (G' :=9*(k+1)) (by omega) (by omega)).below aX;have bT:Hid (Bt.AI (Bt.BF Aa it)=FI.take (k+1)):=Zh (by
       exact Ybs)
      have bU:=Zh bm;have bV:=Zh ((bR.trans hT4).trans (Ad.below aX));clear hb4 bm aX hT4 ae an aW;go_wp2;go_roundw
      case rel=>exact⟨k+1,now,_,ns',hg',F4,R4,H4,by omega,by go_num,rfl,bU,bT,bV⟩
      case measure=>simp [intOf];omega
  . obtain rfl:k=4:=by omega
    have bW:Aa.length=4:=(by rw [<-Bt.Bn,aq.out];rfl);have aG:Aa[1].k=⟨#[98]⟩:=by
     have bo:(Bt.AI Aa)[1]'(by rw [Bt.Bn];omega)=FI[1]:=(by simp only [aq.out];rfl);rw [show(Bt.AI Aa)[1]'(by rw [Bt.Bn];omega)=Aa[1].pr by simp [Bt.AI]] at bo;exact congrArg Prod.fst bo
    have aY:=aw.MU aj.out (key:=⟨#[98]⟩) (by decide) (j:=1) (by omega) aG (by omega);rw [show((2:Nat):Int)=2 from rfl] at aY;have aZ:=Zh aY;have a0:(Aa.eraseIdx 1).length=3:=(by rw [List.length_eraseIdx,if_pos (by omega)];omega);obtain⟨ao,a1⟩:=Zx (Aa[1]);obtain⟨a2,a3⟩:=Zx (Aa.eraseIdx 1);rw [<-a1,<-a3] at aZ;rw [<-a1] at aG;rw [<-a3] at a0;have bX:=Zh aG;have ar:=Zh a0;clear aY bW a1 a3 aG a0 aw aq;go_wp2_with fail;refine aZ.mono ?_;rintro e O ⟨cl,cn,co,now,cp,cr,rfl,bp,bq,br,bs⟩;obtain⟨am,aa⟩:=Zx (O.alloc (Obj.cells #[.int .u64 ao.kh, .int .u64 ao.vh] 31));have a4:=Yhq;have aH:=Zh (J6 (bp.below a4) bq br);have bY:=Zh (bs.trans (Ad.below a4));rw [bX.out] at aH;obtain⟨cu,bu⟩:=Zx ao.kh;obtain⟨cv,bv⟩:=Zx ao.vh;rw [<-bu,<-bv] at aH aa ⊢;generalize ao.v=aU at*;have bZ:=Zh aa;clear aa bp bq br bs a4 bu bv aZ;go_wp2_with fail;rw [<-bZ.out];refine aH.mono ?_;rintro e au ⟨cw,b3,cx,rfl,a5,b4,bw⟩;obtain⟨ai,ay⟩:=Zx (au.alloc (Obj.cells #[.string ⟨#[98]⟩, .string aU] 45));obtain⟨bz,a6⟩:=Zx au.heap.size;have a7:=Yhs;have bA:An ai bz 45 [.string ⟨#[98]⟩, .string aU]:=(by rw [ay,a6];exact An.new au _ _);have n14: ¬b3 bz:=(λae=>by have:=a5.st.lt ae;omega);have aI:=(a5.below a7).Ps aj.out 0 (by have:=ar.out;omega) rfl (by have:=ar.out;omega);rw [show((2:Nat):Int)=2 from rfl] at aI;have bB:(a2.eraseIdx 0).length=2:=(by rw [List.length_eraseIdx,if_pos (by have:=ar.out;omega)];have:=ar.out;omega);obtain⟨bC,bD⟩: ∃y,y=a2[0]'(by have:=ar.out;omega):=⟨_,rfl⟩;rw [<-bD] at aI;have bE:=Zh aI;have b5:=Zh (bY.trans (bw.trans (Ad.below a7)));have bF:=Zh (And.intro bA n14);have bG:=Zh (And.intro ay a6);have bH:=Zh bB;generalize a2.eraseIdx 0=cy at*;clear ay a6 a5 bw a7 bA n14 aH aI bB b4 bD;go_wp2_with fail;rw [<-bG.1,<-bG.2];refine bE.mono ?_;rintro e a8 ⟨cz,cB,cC,cD,cF,cG,rfl,bI,b8,b9,a9⟩;generalize bC.kh=cb at*;generalize bC.vh=cc at*;obtain⟨cd,aJ⟩:=Zx (a8.alloc (Obj.cells #[.int .u64 cb, .int .u64 cc] 31));have aK:Below a8.heap.size a8 cd:=(by rw [aJ];exact(Below.refl _ _).alloc (Nat.le_refl _) _);have bJ:=(bF.1.Ar a9 bF.2).below aK;have bK:=bJ.at' (i:=0) rfl;have ba:=(bI.below aK).X3 aj.out (by have:=bH.out;omega);rw [bH.out,show((2:Nat):Int)=2 from rfl] at ba;have bL:=Zh ba;have af:=Zh (be.trans ((aA.trans (b5.trans (a9.trans (Ad.below aK)))).F5 be.size bM.out));have ce:=Zh aJ;rw [aJ] at bK;clear aJ bI b8 b9 a9 aK bJ bE ba;go_wp2_with fail;rw [<-ce.out];refine bL.mono ?_;rintro e cH ⟨rfl,V⟩;have cf:=Jt;clear V bL bK;go_wp2;go_ret;exact⟨rfl,cf⟩
theorem AJ.own{F:Nat->Prop}{base c:Nat}(h:w.ownsRow base 45 2 (.slice A l.length c) l.length (Bv l))(hp:DE w w.heap.size A l)(d: ∀b,F b->b<base):AJ w F A (Bv l):=by
 rcases hp with h1|⟨b,o,h1,I,J⟩
 . rw [h1];exact .inl rfl
 . refine .inr ⟨b,o,h1,I,λO=> ?_,J⟩
   have U:=d b O;have V:=(Yb h (k:=b) (by rw [h1];rfl)).1;omega
section
variable {w' W:World} {F F':Nat->Prop}
theorem Ad.put(h:Ad w F w' F'){b j:Nat}{v:Value}(J:w.heap.size<=b):Ad w F (w'.setCell ⟨b,j,none⟩ v) F' :=
 ⟨by rw [<-h.os];rfl,by rw [<-h.tape];rfl,by rw [<-h.output];rfl,by simpa using h.size,λk d I=>(Below.heap_setCell w' ⟨b,j,none⟩ v k (by simp;omega)).trans (h.keep k d I),h.grow⟩
def Yeh{P}(h:P:=by
 obtain⟨b,o,e,I⟩:=h.at' d;exact⟨b,o,e,λW J=>(J.cell (p:=⟨b,o+i,none⟩) (Al I)).trans I⟩):=h
theorem WG{Z:Option Addr}{zs:List Int}(h:AJ w (λb=>w.heap.size<=b) Z (N4 zs)){i:Nat}(hi:i<zs.length): ∃b o,Z=some ⟨b,o,none⟩/\ ∀W,Below w.heap.size w W->W.cell? ⟨b,o+i,none⟩=some (.int .i64 zs[i]):=by
 have d:(N4 zs)[i]? =some (.int .i64 zs[i]):=by unfold N4;rw [List.getElem?_map,List.getElem?_eq_getElem hi];rfl
 exact Yeh
end
theorem LU{k:ByteArray}: ∀{l:List Pr},(∀p∈l,Tx.cmp p.1 k<0)->AH l k=l.length
 | [],_=>rfl
 |p::l,h=>by
  rw [GO,if_pos (h p (by simp)),LU (λq d=>h q (by simp [d]))];rfl
structure EP(l:List Pr)(k:ByteArray)(a b c:List Pr):Prop where
 app:a++(b++c)=l
 low: ∀p∈a,Tx.cmp p.1 k<0
 ky: ∀p∈b,p.1=k
 one:b.length<=1
 high: ∀p∈c,Tx.cmp k p.1<0
theorem EP.Po{k:ByteArray}(h:EP l k a b c):AH l k=a.length:=by
 rw [<-h.app,C3,LU h.low,Eu]
 . rfl
 . intro p hp
   rcases List.mem_append.1 hp with h1|h1
   . rw [h.ky p h1,(Cp.2 rfl:Tx.cmp k k=0)];omega
   . have d:=h.high p h1
     have I:=K9 p.1 k;omega
theorem EP.at'{k:ByteArray}(h:EP l k a b c):l[AH l k]? =(b++c)[0]? :=by
 rw [h.Po,<-h.app,List.getElem?_append_right (Nat.le_refl _),Nat.sub_self]
theorem EP.has{k:ByteArray}(h:EP l k a b c):(l[AH l k]?).map (·.1)=some k↔b.length=1:=by
 rw [h.at'];have h1:=h.one;constructor
 . intro d
   cases b with
   |cons p b=>simp at h1;simp [h1]
   |nil=>
    cases c with
    |nil=>simp at d
    |cons p c=>
     simp at d;have:=h.high p (by simp);rw [d,(Cp.2 rfl:Tx.cmp k k=0)] at this;omega
 . intro I
   cases b with
   |nil=>simp at I
   |cons p b=>
    have:=h.ky p (by simp);simp [this]
theorem EP.put{k v:ByteArray}(h:EP l k a b c):C4 l (k,v)=a++(k,v)::c:=by
 unfold C4;have I:=h.Po;have hh:=h.has;have h1:=h.one;by_cases d:b.length=1
 . rw [if_pos (hh.2 d),I,<-h.app,List.take_left,<-List.append_assoc,show a.length+1=(a++b).length by rw [List.length_append,d],List.drop_left]
 . rw [if_neg (λe=>d (hh.1 e)),I,<-h.app,List.take_left,List.drop_left]
   have:b= []:=List.eq_nil_of_length_eq_zero (by omega);rw [this];rfl
theorem EP.find{k:ByteArray}(h:EP l k a b c):EG l k=if b.length=1 then (a.length:Int) else-1:=by
 unfold EG;by_cases d:b.length=1
 . rw [if_pos (h.has.2 d),if_pos d,h.Po]
 . rw [if_neg (λe=>d (h.has.1 e)),if_neg d]
theorem PV(I:AY m)(J:k<m.length):EP (m.take k) m[k].1 (m.take k) [] []:=by
 refine⟨by simp,(λp hp=> ?_),(λp hp=>by cases hp),by simp,(λp hp=>by cases hp)⟩;have d :AY (m.take k++m.drop k):=by rw [List.take_append_drop];exact I
 have hd:m.drop k=m[k]::m.drop (k+1):=List.drop_eq_getElem_cons J;rw [hd] at d;have O:m[k]∈m[k]::m.drop (k+1):=List.mem_cons_self;exact(List.pairwise_append.1 d).2.2 p hp m[k] O
theorem O1(I:AY m)(d:k<m.length):C4 (m.take k) m[k]=m.take (k+1)/\ ¬0<=EG (m.take k) m[k].1:=by
 have hp:=PV I d;refine⟨?_, ?_⟩
 . have:=hp.put (v:=m[k].2)
   rw [List.take_succ_eq_append_getElem d];exact this
 . rw [hp.find]
   simp
def HV(l:List Pr)(i j:Nat):List Pr:=l.take i++l.drop j
theorem NY{B c:Nat}(h:DE w B A l)(ai:B<=w.heap.size)(J:A=none->c=0)(aj:l.length<=c)(ax:l.length<=2000000000000)(i j:Nat)(hi:i<=l.length)(al:j<=l.length):
 Calls prog 22 #[.slice A l.length c, .int .i64 i, .int .i64 j] w λe w' => ∃v,e= .returned v/\w'.ownsRow w.heap.size 45 2 v (HV l i j).length (Bv (HV l i j))/\Below w.heap.size w w' :=by
 obtain⟨am,ay,az,V,Z⟩:=LS A l.length j c al aj;have an:=Zh V;have ao:=Zh (Z J);have aq:=Zh J;have aa:Hid (i=(l.take i).length):=Zh (by rw [List.length_take];omega);have ar:Hid (l.length-j=(l.drop j).length):=Zh (by rw [List.length_drop]);have O:=Zh (Nu w 45);have ab:=Zh (h.more ai);have aA:(l.take i).length<=l.length:=by rw [List.length_take];omega
 have aB:(l.drop j).length<=l.length:=by rw [List.length_drop];omega
 clear h V Z J;go_enter func22,ntmps22;go_wp2_with (at_builtin;go_must (refine Ho rfl (.tmp 8) (.tmp 11) rfl _ w.heap.size _ [] rfl O w.heap.size A i c (l.take i) rfl aa ((ab.below ((Below.refl _ w).alloc (Nat.le_refl _) _)).take i) aq (by simp;omega) (by simp) ?_));intro v2 w2 d ac _;have I:=Zh (E8 ((Below.refl _ w).alloc (Nat.le_refl _) _) O ac (by simp));have ae :w2.ownsRow w.heap.size 45 2 v2 (l.take i).length (Bv (l.take i)):=by first|exact d|(rw [<-aa.out];exact d)|simpa using d
 have af:=Zh ae;clear d ae ac O;go_wp2_with (at_builtin;go_must (refine Ho rfl (.tmp 13) (.tmp 16) rfl _ w.heap.size _ (l.take i) rfl af w.heap.size am _ _ (l.drop j) rfl ar (an w2 w.heap.size l rfl (ab.below I)) ao (by omega) I.size ?_));intro v4 w4 U ag _;have au:=Zh (E8 I af ag I.size);have ah :w4.ownsRow w.heap.size 45 2 v4 (HV l i j).length (Bv (HV l i j)):=by unfold HV;first|exact U|simpa [Nat.min_eq_left hi] using U
 have aw:=Zh ah;clear U ah ag;go_wp2;go_ret;exact⟨v4,rfl,aw,au⟩
def Yaa{P}(h:P:=by
 have bG:=Zh d;have aW:=Zh (λW (ae:Below w.heap.size w W)=>IU (c:=c) (h.1.AI.below ae) h.2.2 h.2.1);rw [g3] at aW;have t1:=J.1;have t2:=J.2;have d1:decide ((t:Int)<2)=false:=decide_eq_false (by omega);have d2:decide ((16:Int)<(t:Int))=false:=decide_eq_false (by omega);have d3:decide ((100:Int)<(l.length:Int))=false:=decide_eq_false (by omega);have d6:decide ((200:Int)<(zs.length:Int))=false:=decide_eq_false (by omega);have hN:=Zh (MZ d 262144 1000 4294967295 (by omega) (by omega) (by omega) (by omega) (by omega));have de:=Zh h.1.AI;have df:=Zh h.2.1;have eg:=Ib l;have dg:=Zh (Ip l);have bH:=Pz g3;have bI:Hid (∀p∈BX l,p.1.size<=1000/\p.2.size<=1000):=Zh (λp hp=>bH p (H6 hp));have dh:=Zh I.1;have di:=Zh I.2.2;have au:=Zh J;clear d h g3 bH I J;unfold FJ;go_enter func4,ntmps4;go_wp2_with fail;refine hN.mono ?_;rintro e w1 ⟨s,F,rfl,aX,eh,bJ,aI⟩;have aY:=Zh aI;have bK:Hid (AU w1 s F (λ_=>none) [] 0 262144 1000 4294967295 0 t 0 [] [] 0 0):=Zh (AU.start aX t);have bL:Hid (∀b,F b->w.heap.size<=b):=Zh bJ;have bM:=Zh (Jz (c:=c) (de.below aI) aI.size (by omega) df);have bN:=Zh (λb (ab:F b)=>aX.lt ab);clear aI bJ aX hN;go_wp2_with fail;refine(aW _ aY).mono ?_;rintro e ei ⟨rfl,rfl⟩;clear aW;go_wp2_with fail;refine bM.mono ?_;rintro e w3 ⟨v,rfl,ah,aZ⟩;obtain⟨aJ,c2,rfl,bO,bP,bQ⟩:=Gq ah rfl;have bR:=Zh (bK.below aZ);have a0:=Zh (aY.trans (aZ.mono aY.size));have aK:Hid (MB w3 F aJ c2 (BX l)):=Zh ⟨AJ.own ah bQ bN,bO,bP⟩;clear ah bQ bO bP aZ bM bK bN;generalize BX l=m at*;have ej:m.length<=100:=by omega
 go_wp2_with fail
 go_loopw [9,11] (λdj a1 wr=> ∃(i root:Nat) (Aa:List It) (ns:List Nat) (hg:Nat) (F' :Nat->Prop) (R' :Zr) (H' :List Nat),i<=m.length/\a1= .int .i64 i/\dj= .int .u64 root/\Hid (AU wr s F' R' H' (20*i) 262144 1000 4294967295 (9*i) t root Aa ns hg 0)/\Hid (Bt.AI Aa=m.take i)/\Hid (Ad w3 F wr F')) (λ_ a1 _=>m.length-(intOf a1).toNat)
 case atStart=>exact⟨0,0,[],[],0,F,(λ_=>none),[],by omega,rfl,rfl,by simpa using bR,Zh rfl,Zh (Ad.refl _ _)⟩
 case round=>
  obtain⟨i,root,Aa,ns,hg,F',R',H',dk,rfl,rfl,aw,ax,al⟩:=hrel;by_cases a2:i<m.length
  ·
   as_aux_lemma=>
   obtain⟨bS,bT,a3,q1,ay⟩:=(aK.1.Ar al).Ka a2;obtain⟨a4,a5⟩:=O1 dg a2;have aL:=bI.out _ (List.getElem_mem a2);obtain⟨p,hp⟩: ∃p,m[i]=p:=⟨_,rfl⟩;rw [hp] at a4 a5 aL;simp only [hp] at q1 ay;have bU:Aa.length=i:=(by rw [<-Bt.Bn,ax.out,List.length_take];omega);have a6:=Zh (And.intro aw.len (And.intro (aw.tr.II au.out) bU));have bV:=Zh (JS aw.out p aL.1 aL.2 (by omega) (by have:=a6.out;omega) (by omega));have dm:=Zh a4;have dn:=Zh a5;subst a3;clear a4 a5 hp bU aL;go_wp2_with fail;refine bV.mono ?_;rintro e w4 ⟨it,R3,am,a7,rfl,bW,bX,ae,hi,bY,d,bZ,ek⟩;have a8:=Zh (ae.LB au.out it hi bY (by have:=a6.out;omega) bZ (by omega) (by have:=a6.out;omega) (by omega));have aM:=Zh (al.trans d);have b3:=Zh ae;have a9:=Zh (And.intro bW bX);obtain⟨kh,b4⟩:=Zx it.kh;obtain⟨vh,b5⟩:=Zx it.vh;rw [<-b4,<-b5] at a8 ⊢;clear bV ae d bW bX bY hi bZ q1 ay b4 b5;go_wp2_with fail;refine a8.mono ?_;intro e az dp;have ba:Bt.Bb Aa it.k=none:=Gn b3.ow.Dn (by rw [a9.1,ax.out];exact Int.not_le.2 dn)
   cases dp with
   |here ab _ _ _ _=>exfalso;rw [ba] at ab;cases ab
   | @put _ now R4 F4 H4 ns' hg' ab hb4 hT4=>
     have bb:Below az.heap.size az (az.alloc (Obj.cells #[.int .u64 0, .int .u64 0] 31)):=(Below.refl _ az).alloc (Nat.le_refl _) _;have b8 :=(hb4.more (P' :=20*(i+1)) (G' :=9*(i+1)) (by omega) (by omega)).below bb;have dq:Hid (Bt.AI (Bt.BF Aa it)=m.take (i+1)):=Zh (by
      rw [Bt.LM b3.ow.Dn ba,ax.out,<-dm.out]
      show C4 _ (it.k,it.v)=_
      rw [a9.1,a9.2])
     have dr:=Zh b8;have ds:=Zh ((aM.trans hT4).trans (Ad.below bb));clear hb4 b8 bb hT4 ab ba a8;go_wp2;go_roundw
     case rel=>exact⟨i+1,now,_,ns',hg',F4,R4,H4,by omega,by go_num,rfl,dr,dq,ds⟩
     case measure=>simp [intOf];omega
  . obtain rfl:i=m.length:=by omega
    have dt:Hid (Bt.AI Aa=m):=Zh (by rw [ax.out,List.take_length]);have bc:Hid (MB wr F' aJ c2 m):=Zh ⟨aK.1.Ar al,aK.2⟩;clear ax;go_upto_block 2 with (fail);go_cut [16,17] from 93 to 103 (λel em wc=> ∃(ai:List Nat) (aj m2 an ao:Nat) (Z:Nat->Prop) (R2:Zr) (ac:List Nat),Hid (AU wc s Z R2 ac an 262144 1000 4294967295 ao t root Aa ai aj m2)/\Hid (Ad wr F' wc Z))
    case first=>
     as_aux_lemma=>
     go_wp2_with fail
     go_loopg [] 1000 (λbd b9=> ∃(ai:List Nat) (aj m2 an ao:Nat) (Z:Nat->Prop) (R2:Zr) (ac:List Nat),1000-ac.length<=bd/\Hid (AU b9 s Z R2 ac an 262144 1000 4294967295 ao t root Aa ai aj m2)/\Hid (Ad wr F' b9 Z))
     case atStart=>exact⟨ns,hg,0,_,_,F',R',H',by omega,aw,Zh (Ad.refl _ _)⟩
     case round=>
      obtain⟨ai,aj,m2,an,ao,Z,R2,ac,du,aa,af⟩:=hrel;have cb:=Zh (R8 aa.st);go_wp2_with fail;refine cb.mono ?_;rintro e az ⟨v5,cc,rfl,cd,ce,cf⟩;obtain⟨be,c5,rfl⟩:=Ae ce;have bf:cc.length=ac.length:=cd.length_eq;have aA:=Zh cf;obtain⟨bg,cg⟩:=Zx cc.length;rw [<-cg] at bf ⊢;have dv:=Zh bf;clear cf ce cd cb cg bf;by_cases en:bg<1000
      . have dl:decide ((bg:Int)<1000)=true:=decide_eq_true (by omega)
        have bh:=Zh (Lr (aa.st.below aA) 0 (by omega));go_wp2_with fail;refine bh.mono ?_;rintro e aB (⟨ci,bi,n1,cj,dw,rfl,aC,ag⟩|⟨er,bi,rfl,dx,aC,ag⟩)
        . have aq:=Zh (aa.grow (k:=1) aC (λz I=>As λe=>I (by rw [e];exact n1)) (by rw [As (Ne.symm cj)];exact aa.z) (aa.sh.B5 ci _ λws I=>by cases I;simp) (by simp))
          have bj:=Zh (af.trans ((Ad.below aA).trans ag));clear aC ag bh n1 cj dw;go_wp2
          go_roundg (999-ac.length)
          case measure=>have:=dv.out;omega
          case rel=>exact⟨ai,aj,m2+1,_,_,bi,_,ci::ac,(by simp<;>omega),aq,bj⟩
        . have eo:((er:Int) !=0)=true:=by simp;omega
          have aq:=Zh (aa.grow (k:=0) aC (λ_ _=>rfl) aa.z aa.sh rfl);have bj:=Zh (af.trans ((Ad.below aA).trans ag));clear aC ag bh dx;go_wp2;go_meet
          case rel=>exact⟨_,_,_,_,_,_,_,_,aq,bj⟩
      . have dl:decide ((bg:Int)<1000)=false:=decide_eq_false (by omega)
        have dy:=Zh (aa.below aA);have dz:=Zh (af.trans (Ad.below aA));go_wp2;go_meet
        case rel=>exact⟨_,_,_,_,_,_,_,_,dy,dz⟩
    case rest=>
     obtain⟨w4,ck⟩:=Zx wc;rw [<-ck] at hcut ⊢;clear ck;obtain⟨ai,aj,m2,an,ao,Z,R2,ac,aa,af⟩:=hcut;have dA:Hid (MB w4 Z aJ c2 m):=Zh ⟨bc.1.Ar af,bc.2⟩;have cl:=Zh (a0.trans ((al.trans af).F5 a0.size bL.out));have dB:Hid (∀b,Z b->w.heap.size<=b):=Zh (λb ab=>by
      rcases(al.trans af).grow b ab with O|O
      . exact bL.out b O
      . exact Nat.le_trans a0.size O)
     clear aw aK bR bc af al;go_wp2_with fail
     go_loopg [9,10,18] m.length (λbd dC dD dE ar=> ∃(i aN:Nat) (aD:Option Addr) (c3:Nat) (l3:List Pr) (U:List It) (cn:List Nat) (co:Nat) (am:Nat->Prop) (R3:Zr) (a7:List Nat),dC= .int .u64 aN/\dD= .slice aD l3.length c3/\dE= .int .i64 i/\i+l3.length=m.length/\l3.length<=bd/\Hid (AU ar s am R3 a7 an 262144 1000 4294967295 ao t aN U cn co m2)/\Hid (Bt.AI U=l3)/\Hid (MB ar am aD c3 l3)/\Hid (∀p∈l3,p.1.size<=1000/\p.2.size<=1000)/\Hid (Ad w4 Z ar am))
     case atStart=>exact⟨0,root,aJ,c2,m,Aa,ai,aj,Z,R2,ac,rfl,rfl,rfl,by omega,Nat.le_refl _,aa,dt,dA,bI,Zh (Ad.refl _ _)⟩
     case round=>
      obtain⟨ar,cp⟩:=Zx wr;rw [<-cp] at hrel ⊢;clear cp;obtain⟨i,aN,aD,c3,l3,U,cn,co,am,R3,a7,rfl,rfl,rfl,dk,du,aE,aO,aF,bk,aM⟩:=hrel;have bm:=Zh (cl.trans (aM.F5 cl.size dB.out));have bo:Hid (U.length=l3.length):=Zh (by rw [<-Bt.Bn,aO.out]);by_cases cr:l3.length=0
      ·
       as_aux_lemma=>
       have bp:U= []:=List.eq_nil_of_length_eq_zero (bo.trans cr);have dF:aN=0:=(aE.tr.zero aE.z).2 bp;have dl:decide ((0:Int)<(l3.length:Int))=false:=decide_eq_false (by omega);have dln:decide (0<l3.length)=false:=decide_eq_false (by omega);have cu:=Zh (aE.Ur au.out bp);subst dF;have dG:=Zh (λW (ae:Below w.heap.size w W)=>GH (bG.below ae (CU bG)));clear bp cr;go_wp2_with fail;refine cu.mono ?_;rintro e aB ⟨rfl,bq⟩;have br:=Zh (bm.trans ((bq.alloc bq.size (Obj.cells #[.int .u64 0, .int .u64 0] 31)).mono bm.size));clear bq cu;go_wp2_with fail;refine(dG _ br).mono ?_;rintro e ep ⟨rfl,cv⟩;have dH:=Zh (br.trans (cv.mono br.size));clear cv;go_wp2;go_ret;exact⟨rfl,dH⟩
      . have dl:decide ((0:Int)<(l3.length:Int))=true:=decide_eq_true (by omega)
        have cw:0<l3.length:=(by omega);go_upto_if 112 with (fail);go_cut [19] from 109 to 125 (λdI dJ=> ∃k:Nat,dI= .int .i64 (k:Nat)/\k<l3.length/\ar=dJ)
        case first=>
         by_cases cx:i<zs.length
         . have dK:decide ((i:Int)<(zs.length:Int))=true:=decide_eq_true (by omega)
           obtain⟨eq,es,rfl,cy⟩:=WG dh cx;have dL:=cy _ bm.out;obtain⟨a,ha⟩: ∃a,zs[i]=a:=⟨_,rfl⟩;have dM:=di.out _ (List.getElem_mem cx);rw [ha] at dL dM;clear ha cy;obtain⟨dN,dO,et,eu,ev⟩:=XX a l3.length cw;go_wp2;go_meet
           case rel=>exact⟨dN,rfl,dO,rfl⟩
         . have dK:decide ((i:Int)<(zs.length:Int))=false:=decide_eq_false (by omega)
           go_wp2;go_meet
           case rel=>exact⟨0,rfl,cw,rfl⟩
        case rest=>
         obtain⟨k,rfl,aG,rfl⟩:=hcut
         as_aux_lemma=>
         have cz:k<U.length:=(by rw [bo.out];exact aG);have DF:Hid (U[k].k=l3[k].1/\U[k].v=l3[k].2):=Zh (by
          have O:l3[k]=U[k].pr:=(by simp only [<-aO.out];simp [Bt.AI]);rw [O];exact⟨rfl,rfl⟩)
         obtain⟨bS,bT,a3,q1,ay⟩:=aF.1.Ka aG;have cB:=(bk _ (List.getElem_mem aG)).1;have aP:=aE.MU au.out (key:=l3[k].1) cB cz DF.1 (by have:=bo.out;omega);have aQ:Hid (Bt.AI (U.eraseIdx k)=l3.eraseIdx k):=Zh (by unfold Bt.AI;rw [<-Bt.Gi];exact congrArg (·.eraseIdx k) aO);have cC:HV l3 k (k+1)=l3.eraseIdx k:=(by unfold HV;rw [List.eraseIdx_eq_take_drop_succ]);have aR:Hid ((l3.eraseIdx k).length=l3.length-1):=Zh (by rw [List.length_eraseIdx,if_pos aG]);have cD:Hid (∀p∈l3.eraseIdx k,p.1.size<=1000/\p.2.size<=1000):=Zh (λp hp=>bk p (List.mem_of_mem_eraseIdx hp));have cF:Hid (∀W,DE W W.heap.size aD l3->Calls prog 22 #[.slice aD l3.length c3, .int .i64 (k:Nat), .int .i64 ((k:Int)+1)] W λe w' => ∃v,e= .returned v/\w'.ownsRow W.heap.size 45 2 v (l3.eraseIdx k).length (Bv (l3.eraseIdx k))/\Below W.heap.size W w'):=Zh (λW dP=>by
          have O:=NY (c:=c3) dP (Nat.le_refl _) aF.2.1 aF.2.2 (by omega) k (k+1) (by omega) (by omega);rw [cC] at O;push_cast at O;exact O)
         obtain⟨aS,bs⟩:=Zx (U[k]);obtain⟨cG,bu⟩:=Zx (l3.eraseIdx k);obtain⟨dQ,bv⟩:=Zx (U.eraseIdx k);rw [<-bs] at DF;rw [<-bs,<-bv] at aP;rw [<-bu,<-bv] at aQ;rw [<-bu] at aR cD cF;obtain⟨cH,bw⟩: ∃z,l3[k].1=z:=⟨_,rfl⟩;obtain⟨cI,bz⟩: ∃z,l3[k].2=z:=⟨_,rfl⟩;rw [bw] at aP q1 DF;rw [bz] at ay DF;have cJ:=Zh aP;have dR:=Zh (λW (d: ∃F',Ad ar am W F')=>by
          obtain⟨F',d⟩:=d;have O:=(aF.1.Ar d).Ka aG;rw [bw,bz] at O;exact O)
         have ew:k<=100:=(by omega);have ex:decide ((k:Int)<0)=false:=decide_eq_false (by omega);have ey:decide ((l3.length:Int)<=(k:Int))=false:=decide_eq_false (by omega);have ez:decide (l3.length<=k)=false:=decide_eq_false (by omega);subst a3;clear aP cC bs bu bv bw bz cB cz aE aO bk;go_wp2_with fail;refine cJ.mono ?_;rintro e aB ⟨eA,bi,eB,now,dS,dT,rfl,aq,cK,cL,ag⟩;obtain⟨dU,aT⟩:=Zx (aB.alloc (Obj.cells #[.int .u64 aS.kh, .int .u64 aS.vh] 31));have bA:Below aB.heap.size aB dU:=(by rw [aT];exact(Below.refl _ _).alloc (Nat.le_refl _) _);have aU:=J6 (aq.below bA) cK cL;rw [DF.1,DF.2] at aU;have dV:=Zh (ag.trans (Ad.below bA));obtain⟨eC,cM⟩:=Zx aS.kh;obtain⟨eD,cN⟩:=Zx aS.vh;rw [<-cM,<-cN] at aU aT ⊢;have cO:=Zh aU;have dW:=Zh aT;clear aT aq cK cL ag bA aU cM cN cJ q1 ay;go_wp2_with fail;rw [<-dW.out];refine cO.mono ?_;rintro e aH ⟨dX,cP,dY,rfl,cQ,dZ,cR⟩;obtain⟨V,aV⟩:=Zx (aH.alloc (Obj.cells #[.string cH, .string cI] 45));obtain⟨d0,bB⟩:=Zx aH.heap.size;have bC:Below aH.heap.size aH V:=(by rw [aV];exact(Below.refl _ _).alloc (Nat.le_refl _) _);have bD:An V d0 45 [.string cH, .string cI]:=(by rw [aV,bB];exact An.new aH _ _);have cT:=Zh (dV.trans (cR.trans (Ad.below bC)));have cU:=Zh (cQ.below bC);have cV:=Zh (λW (ae:Below V.heap.size V W)=>(cU.below ae).O2 au.out (by have:=aR.out;have:=aQ.out;have O:=congrArg List.length aQ.out;rw [Bt.Bn] at O;omega));obtain⟨b2,d4,cW,s1,s2⟩:=dR.out V ⟨_,cT⟩;obtain⟨rfl,rfl⟩:bS=b2/\bT=d4:=by simpa using cW
         have d5:=(λX:Au (λ_=>False) V=>X.cell (bD.at' (i:=0) rfl) (λh=>h));have d7:=(λX:Au (λ_=>False) V=>X.cell (bD.at' (i:=1) rfl) (λh=>h));have d8:=(λX:Au (λ_=>False) V=>X.cell s1 (λh=>h));have d9:=(λX:Au (λ_=>False) V=>X.cell s2 (λh=>h));have cX:=Zh (And.intro aV bB);clear aV bB bC bD cQ cR dZ cW s1 s2 cO;go_wp2;rw [<-cX.1,<-cX.2];refine Aw (λw' => ∃X:Au (λ_=>False) V,w' =X.W) [.r 0, .r 1, .r 2, .r 3, .r 4, .r 5, .r 6, .r 7, .r 8, .r 9, .r 10, .r 11, .r 12, .r 13, .r 14, .r 15, .r 16, .r 17, .r 18, .r 19, .r 20, .r 21, .a 22, .r 23, .r 24] (Ay _ _) ?_
         iterate 22 (refine AE ?_;go_simp)
         clear d5 d7 d8 d9;refine AK _ rfl (λea cY=> ?_);go_wp2_with fail;refine(cV _ (Ac V)).mono ?_;rintro e eb ⟨rfl,cZ⟩;have bE:=Zh ((Ac V).trans cZ);clear cZ cV;go_wp2;refine cY _ _ (Af bE) ?_;clear cY ea
         iterate 2 (refine AE ?_;go_simp)
         refine AO ?_;have c8:=Zh (cT.trans (Ad.below bE));have c9:=Zh (cU.below bE);have da:=Zh (cF eb (aF.1.Ar c8).AI);go_wp2_with fail;refine da.mono ?_;rintro e ec ⟨v,rfl,ah,bF⟩;obtain⟨be,c5,rfl,db,dc,dd⟩:=Gq ah rfl;have ed:Hid (MB ec cP be c5 cG):=Zh ⟨AJ.own ah dd (λb ab=>c9.st.lt ab),db,dc⟩;have ee:=Zh (c9.below bF);have ef:=Zh (aM.trans (c8.trans (Ad.below bF)));clear ah db dc dd bF da;go_wp2
         go_roundg (l3.length-1)
         case measure=>omega
         case rel=>exact⟨i+1,now,be,c5,cG,dQ,dS,dT,cP,dX,dY,rfl,rfl,by go_num,by have:=aR.out;omega,by have:=aR.out;omega,ee,aQ,ed,cD,ef⟩):=h
def Yaf{P}(h:P:=by
 rcases open_slice_pairs Tryz.underlying38 Tryz.underlying45 (by kernel_rfl) rfl rfl (by kernel_rfl) (by kernel_rfl) h with ⟨I,_⟩|⟨a,len,cap,m,n,aa,ab,ao,D1,aq,ar,I,au,aw,hm,ac,_,hx⟩
 . exact⟨none,0,0,[],I,rfl, .inl rfl,λp hp=>by simp at hp,by simp⟩
 . have ae:m=cap:=by simpa using ac
   subst ae;have af: ∀i,∃p:Pr,i<m->aa i= .string p.1/\ab i= .string p.2/\p.1.size<=maxLen/\p.2.size<=maxLen:=λi=>by
    by_cases hi:i<m
    . obtain⟨h1,ax,ag,ah⟩:=hx i hi
      obtain⟨ai,aj,_,z0⟩:=DataW.trod_string Tryz.underlying9 ag;obtain⟨s1,al,_,d⟩:=DataW.trod_string Tryz.underlying9 ah;exact⟨(ai,s1),λ_=>⟨by simpa using aj,by simpa using al,z0,d⟩⟩
    . exact⟨(⟨#[]⟩,⟨#[]⟩),λhh=>absurd hh hi⟩
   obtain⟨f,O⟩:=Classical.axiomOfChoice af;have U:((List.range len).map f).length=len:=(by simp);unfold maxLen at hm;refine⟨some a,len,m,(List.range len).map f,I,U.symm, ?_, ?_,by rw [U];omega⟩
   . by_cases h0:len=0
     . subst h0;exact .inl rfl
     . obtain⟨b,off,spot⟩:=a
       have V:=(hx 0 (by omega)).1;have am:spot=none:=(by simpa [Addr.add] using World.cell?_spot V);subst am;have J:=World.block_lt_of_cell? _ _ V;rw [E6] at J;refine .inr ⟨b,off,rfl,J,by show¬w.heap.size<=b;simp only at J;omega,λj u hu=> ?_⟩;obtain⟨i,hi,hh⟩:=Jf hu;have an:i<len:=(by omega);obtain⟨c0,c1,_,_⟩:=hx i (by omega);obtain⟨g0,g1,_,_⟩:=O i (by omega);rw [E6] at c0 c1;have Z:((List.range len).map f)[i]=f i:=(by simp);rcases hh with ⟨rfl,rfl⟩|⟨rfl,rfl⟩
       . rw [c0,g0,Z]
       . rw [c1,g1,Z]
   . intro p hp
     obtain⟨i,hi,rfl⟩:=List.mem_map.1 hp;have an:i<len:=(by simpa using hi);obtain⟨_,_,z0,d⟩:=O i (by omega);unfold maxLen at z0 d;exact⟨z0,d⟩):=h
def Yah{P}(h:P:=by
 rw [MakeChecks.laidMetH_plain _ _ _ (by kernel_rfl)] at h;obtain⟨ps,⟨g0,t0,O,f0,al,am,U,aa,ab,ac,_⟩,_⟩:=h;obtain rfl:=Option.some.inj (ZM.symm.trans U);obtain rfl:=Option.some.inj (ZF.symm.trans aa);obtain⟨xs,m1,rfl,d,hlen,an,ae⟩:=DataW.trod_array Tryz.underlying246 ac;have c5:prog.cellsOf 5=1:=by kernel_rfl
 simp only [Prod.mk.injEq] at d;rw [N1] at d;have af:xs.map (·.1)=Lib.deBruijn64tab.map λn=>DataW.lit (Lit.int .u8 (n:Nat)):=by
  have:=d.1;simp only [DataW.agg.injEq] at this;exact this.symm
 intro j I;have ag:j<64:=I;have V:j<xs.length:=by omega
 have h0:=ae j ag;rw [List.getElem?_eq_getElem V,c5,Nat.mul_one] at h0;obtain⟨k,ah,ai,_⟩:=DataW.trod_int Tryz.underlying5 h0;have J:(xs.map (·.1))[j]? =some (.lit (.int .u8 (Lib.deBruijn64tab.getD j 0:Nat))):=by
  rw [af,List.getElem?_map,List.getElem?_eq_getElem I];simp [List.getD_eq_getElem?_getD,List.getElem?_eq_getElem I]
 rw [List.getElem?_map,List.getElem?_eq_getElem V,ai] at J;simp only [Option.map_some,Option.some.injEq,DataW.lit.injEq,Lit.int.injEq,true_and] at J;subst J;have aj:=World.var?_cell U ab j;rw [aj];have hd:O.toList[j]? =some (.int .u8 (Lib.deBruijn64tab.getD j 0:Nat)):=by
  have Z:((O.toList.drop j).take 1)[0]? =some (.int .u8 (Lib.deBruijn64tab.getD j 0:Nat)):=by rw [ah];rfl
  rw [List.getElem?_take,if_pos (by omega),List.getElem?_drop,Nat.add_zero] at Z;exact Z
 simpa using hd):=h
def Yai{P}(h:P:=by
 have hN:=Zh (MZ d 262144 1000 4294967295 (by omega) (by omega) (by omega) (by omega) (by omega));have Z:=Zh (λW (J:Below w.heap.size w W)=>GH (d.below J (CU d)));have aa:=Zh (λW (J:Below w.heap.size w W)=>IU (c:=c) (h.1.AI.below J) h.2.2 h.2.1);have ab:decide (t<2)=true\/(decide (t<2)=false/\decide (16<t)=true)\/(decide (t<2)=false/\decide (16<t)=false/\decide ((100:Int)<(l.length:Int))=true)\/(decide (t<2)=false/\decide (16<t)=false/\decide ((100:Int)<(l.length:Int))=false/\CL l=true)\/(decide (t<2)=false/\decide (16<t)=false/\decide ((100:Int)<(l.length:Int))=false/\CL l=false/\decide ((200:Int)<(zs.length:Int))=true):=by
  simp only [decide_eq_true_eq,decide_eq_false_iff_not]
  cases ac:CL l<;>simp [ac] at hg ⊢ <;>omega
 clear d h hg;unfold FJ;rcases ab with d1|⟨d1,d2⟩|⟨d1,d2,d3⟩|⟨d1,d2,d3,d4⟩|⟨d1,d2,d3,d4,d5⟩
 all_goals
  go_enter func4,ntmps4;go_wp2_with fail;refine hN.mono ?_;rintro e w1 ⟨s,F,rfl,ae,af,ag,U⟩;have I:=Zh U;clear U ag ae hN af;go_wp2_with fail
  try
   have O:=Zh (aa w1 I);rw [d4] at O;refine O.mono ?_;rintro e ai ⟨rfl,rfl⟩;clear O;go_wp2_with fail
  refine(Z _ I).mono ?_;rintro e aj ⟨rfl,V⟩;have ah:=Zh (I.trans (V.mono I.size));clear V;go_wp2;go_ret;exact⟨rfl,ah⟩):=h
def Yaj{P}(h:P:=by
 rcases open_ints Tryz.underlying39 Tryz.underlying3 (by kernel_rfl) h with ⟨I,_⟩|⟨a,len,cap,zs,I,ae,af,hm,d,_,O,aa⟩
 . exact⟨none,0,0,[],I,rfl, .inl rfl,by simp,λz d=>by simp at d⟩
 . have ag:zs.length=cap:=by simpa using d
   unfold maxLen at hm;have U:(zs.take len).length=len:=(by simp;omega);refine⟨some a,len,cap,zs.take len,I,U.symm, ?_,by rw [U];omega,λz d=>Ie (aa z (List.mem_of_mem_take d))⟩;by_cases h0:len=0
   . subst h0;exact .inl rfl
   . obtain⟨b,off,spot⟩:=a
     have V:=O 0 (by omega);have ab:spot=none:=(by simpa [Addr.add] using World.cell?_spot V);subst ab;have J:=World.block_lt_of_cell? _ _ V;rw [E6] at J;refine .inr ⟨b,off,rfl,J,by show¬w.heap.size<=b;simp only at J;omega,λj u hu=> ?_⟩;rw [N4,List.getElem?_map] at hu;by_cases ac:j<(zs.take len).length
     . have Z:j<zs.length:=by omega
       have h1:=O j Z;rw [E6] at h1;rw [h1];rw [List.getElem?_eq_getElem ac,Option.map_some,Option.some.injEq] at hu;rw [<-hu,List.getElem_take];simp [List.getD_eq_getElem?_getD,List.getElem?_eq_getElem Z]
     . rw [List.getElem?_eq_none (by omega)] at hu
       cases hu):=h
def Yaw{P}(h:P:=by
 rcases open_ints Tryz.underlying39 Tryz.underlying3 (by kernel_rfl) h with ⟨d,_⟩|⟨a,U,V,zs,d,Z,aa,hm,J,hx,_,_⟩
 . simp only [List.cons.injEq,Value.slice.injEq,and_true] at d
   omega
 . simp only [List.cons.injEq,Value.slice.injEq,and_true] at d
   obtain⟨-,rfl,rfl⟩:=d;simp only [Prod.mk.injEq] at hx;rw [hx.1] at hd;have h1:=sized_slice hw I hd Tryz.underlying39;rw [show prog.bytesOf 3=8 by kernel_rfl,show reachBytes=140737488351232 from rfl] at h1;have ab:zs.length=cap:=(by simpa using J);have O:(lits (H:=H) IntKind.i64 (zs.take len)).length=len:=(by simp [lits];omega);rw [O] at h1;omega):=h
def Yge{P}(h:P:=by
 simpa [Lit.wf,IntKind.min,IntKind.max,IntKind.signed,IntKind.bits] using h):=h
