/- A part. -/
import Derived.Test.YtiopopoohglepaaGreatDoorPMxn
set_option linter.all false
set_option maxRecDepth 100000
set_option maxHeartbeats 4000000
namespace Go.Proofs.YtiopopoohglepaaGreatDoor
open Go.Proofs.Tryz
open Go.RowKit Go.Shelf
variable {A:Option Addr}{a b c l:List Pr}{w:World}
def Yld{P}(h:P:=by
 have hN:=Zh (Rc ay 262144 1000 4294967295 (by omega) (by omega) (by omega) (by omega) (by omega));exact hN):=h
theorem Iy(ay:Ix w):Calls prog 13 #[] w λe w' =>e= .returned (.bool true)/\Below w.heap.size w w' :=by
 have hN:=Yld;have a8:BN.A0 2:=⟨by omega,by omega⟩;have am:=Zh a8;clear ay a8;go_enter func13,ntmps13;go_wp2_with fail;refine hN.mono ?_;rintro e w1 ⟨s,F,rfl,V,ci,ab,J⟩;obtain⟨ae,bL,aM⟩:=EA;clear J ab V hN;go_wp2_with fail;obtain⟨ao,U⟩:=Zx (w1.alloc (Obj.cells #[.string ⟨#[97]⟩, .string ⟨#[]⟩, .string ⟨#[98]⟩, .string ⟨#[]⟩, .string ⟨#[99]⟩, .string ⟨#[]⟩, .string ⟨#[100]⟩, .string ⟨#[]⟩] 45));obtain⟨b2,aN⟩:=Zx w1.heap.size;have Z:An ao b2 45 [.string ⟨#[97]⟩, .string ⟨#[]⟩, .string ⟨#[98]⟩, .string ⟨#[]⟩, .string ⟨#[99]⟩, .string ⟨#[]⟩, .string ⟨#[100]⟩, .string ⟨#[]⟩]:=by rw [U,aN];exact An.new w1 45 _
 have a9: ¬F b2:=λai=>by have:=aM.lt ai;omega
 have ba:Hid (∀k (aq:k<4),ao.cell? ⟨b2,k*2,none⟩=some (.string (FL[k]'aq).1)/\ao.cell? ⟨b2,k*2+1,none⟩=some (.string ⟨#[]⟩)):=Zh λk aq=>by
  match k,aq with
  |0,_=>exact⟨Z.at' (i:=0) rfl,Z.at' (i:=1) rfl⟩
  |1,_=>exact⟨Z.at' (i:=2) rfl,Z.at' (i:=3) rfl⟩
  |2,_=>exact⟨Z.at' (i:=4) rfl,Z.at' (i:=5) rfl⟩
  |3,_=>exact⟨Z.at' (i:=6) rfl,Z.at' (i:=7) rfl⟩
 have I:=Yof;have bM:Hid (AN ao s F (λ_=>none) [] 0 262144 1000 4294967295 0 2 0 [] [] 0 0):=Zh (AN.start (aM.below I) 2);have bb:=Dt;have bc:=Zh a9;rw [<-U,<-aN];clear Z I U aN aM ae a9
 go_loopw [3,5] (λbN aO wr=> ∃(k root:Nat) (Aa:List It) (ns:List Nat) (hg:Nat) (F' :Nat->Prop) (R' :Zr) (H' :List Nat),k<=4/\aO= .int .i64 k/\bN= .int .u64 root/\Hid (AN wr s F' R' H' (20*k) 262144 1000 4294967295 (9*k) 2 root Aa ns hg 0)/\Hid (Bt.AJ Aa=FL.take k)/\Hid (Ad ao F wr F')) (λ_ aO _=>4-(intOf aO).toNat)
 case atStart=>exact⟨0,0,[],[],0,F,_,[],by omega,rfl,rfl,by simpa using bM,Zh rfl,Zh (Ad.refl _ _)⟩
 case round=>
  obtain⟨k,root,Aa,ns,hg,F',R',H',aq,rfl,rfl,au,al,aB⟩:=hrel;by_cases aC:k<4
  . obtain⟨aP,aD,aE,z2⟩:=UA k aC
    have q1:=aB.cell (ba k aC).1 bc.out;have bO:=aB.cell (ba k aC).2 bc.out;obtain⟨p,hp⟩: ∃p,FL[k]'aC=p:=⟨_,rfl⟩;rw [hp] at aP aD aE z2 q1;obtain⟨bP,aQ⟩:=p;dsimp only at aE z2 q1 aD;subst z2;have bd:Aa.length=k:=(by rw [<-Bt.Bz,al.out,List.length_take];exact Nat.min_eq_left aq);have aR:=Zh (And.intro au.len (And.intro (au.tr.IE am.out) bd));have be:=Zh (Nn au.out (bP,⟨#[]⟩) aE (show(⟨#[]⟩:ByteArray).size<=1000 by decide) (by omega) (by have:=aR.out;omega) (by omega));have bQ:=Zh aP;have bR:=Zh aD;clear aP aD hp bd aE;go_wp2_with fail;refine be.mono ?_;rintro e w3 ⟨it,R3,cj,ck,rfl,ax,aH,aJ,hi,bf,ay,bg,cl⟩;have hIn:=aJ.PC am.out it hi bf (by have:=aR.out;omega) bg (by omega) (by have:=aR.out;omega) (by omega);rw [show((2:Nat):Int)=2 from rfl] at hIn;have aS:=Zh hIn;have bS:=Zh (aB.trans ay);obtain⟨bh,aT⟩:=SA;obtain⟨kh,bi⟩:=Zx it.kh;obtain⟨vh,bj⟩:=Zx it.vh;rw [<-bi,<-bj] at aS ⊢;clear be aJ ay hIn ax aH bf hi bg q1 bO bi bj;go_wp2_with fail;refine aS.mono ?_;intro e w4 bT;have aU:Bt.Bb Aa it.k=none:=Nq bh.ow.CY (by rw [aT.1,al.out];exact Int.not_le.2 bR)
    cases bT with
    |here ai _ _ _ _=>exfalso;rw [aU] at ai;cases ai
    | @put _ now R4 F4 H4 ns' hg' ai hb4 hT4=>
      have aV:Below w4.heap.size w4 (w4.alloc (Obj.cells #[.int .u64 0, .int .u64 0] 31)):=(Below.refl _ w4).alloc (Nat.le_refl _) _;have bk :=(hb4.more (P' :=20*(k+1)) (G' :=9*(k+1)) (by omega) (by omega)).below aV;have bU:Hid (Bt.AJ (Bt.BL Aa it)=FL.take (k+1)):=Zh (by
       rw [Bt.LS bh.ow.CY aU,al.out,<-bQ.out]
       show Dc _ (it.k,it.v)=_
       rw [aT.1,aT.2])
      have bV:=Zh bk;have bW:=Zh ((bS.trans hT4).trans (Ad.below aV));clear hb4 bk aV hT4 ai aU aS;go_wp2;go_roundw
      case rel=>exact⟨k+1,now,_,ns',hg',F4,R4,H4,by omega,by go_num,rfl,bV,bU,bW⟩
      case measure=>simp [intOf];omega
  . obtain rfl:k=4:=by omega
    have bX:Aa.length=4:=(by rw [<-Bt.Bz,al.out];rfl);have aF:Aa[1].k=⟨#[98]⟩:=by
     have bm:(Bt.AJ Aa)[1]'(by rw [Bt.Bz];omega)=FL[1]:=(by simp only [al.out];rfl);rw [show(Bt.AJ Aa)[1]'(by rw [Bt.Bz];omega)=Aa[1].pr by simp [Bt.AJ]] at bm;exact congrArg Prod.fst bm
    have aW:=au.MX am.out (key:=⟨#[98]⟩) (by decide) (j:=1) (by omega) aF (by omega);rw [show((2:Nat):Int)=2 from rfl] at aW;have aX:=Zh aW;have aY:(Aa.eraseIdx 1).length=3:=(by rw [List.length_eraseIdx,if_pos (by omega)];omega);obtain⟨aw,aZ⟩:=Zx (Aa[1]);obtain⟨a0,a1⟩:=Zx (Aa.eraseIdx 1);rw [<-aZ,<-a1] at aX;rw [<-aZ] at aF;rw [<-a1] at aY;have bY:=Zh aF;have az:=Zh aY;clear aW bX aZ a1 aF aY au al;go_wp2_with fail;refine aX.mono ?_;rintro e O ⟨cn,co,cp,now,cr,cs,rfl,bo,bp,bq,br⟩;obtain⟨ag,ac⟩:=Zx (O.alloc (Obj.cells #[.int .u64 aw.kh, .int .u64 aw.vh] 31));have a2:=ZK;have aG:=Zh (N5 (bo.below a2) bp bq);have bZ:=Zh (br.trans (Ad.below a2));rw [bY.out] at aG;obtain⟨cu,bs⟩:=Zx aw.kh;obtain⟨cv,bu⟩:=Zx aw.vh;rw [<-bs,<-bu] at aG ac ⊢;generalize aw.v=aQ at*;have b3:=Zh ac;clear ac bo bp bq br a2 bs bu aX;go_wp2_with fail;rw [<-b3.out];refine aG.mono ?_;rintro e aA ⟨cw,b4,cx,rfl,a3,b5,bv⟩;obtain⟨bw,an⟩:=Zx (aA.alloc (Obj.cells #[.string ⟨#[98]⟩, .string aQ] 45));obtain⟨bz,ar⟩:=Zx aA.heap.size;have a4:Below aA.heap.size aA bw:=(by rw [an];exact(Below.refl _ _).alloc (Nat.le_refl _) _);have bA:An bw bz 45 [.string ⟨#[98]⟩, .string aQ]:=(by rw [an,ar];exact An.new aA _ _);have n14: ¬b4 bz:=(λai=>by have:=a3.st.lt ai;omega);have aI:=(a3.below a4).Px am.out 0 (by have:=az.out;omega) rfl (by have:=az.out;omega);rw [show((2:Nat):Int)=2 from rfl] at aI;have aj:(a0.eraseIdx 0).length=2:=(by rw [List.length_eraseIdx,if_pos (by have:=az.out;omega)];have:=az.out;omega);obtain⟨bB,bC⟩: ∃y,y=a0[0]'(by have:=az.out;omega):=⟨_,rfl⟩;rw [<-bC] at aI;have bD:=Zh aI;have b8:=Zh (bZ.trans (bv.trans (Ad.below a4)));have bE:=Zh (And.intro bA n14);obtain⟨bF,bG⟩:=Oo;generalize a0.eraseIdx 0=its2 at*;clear an ar a3 bv a4 bA n14 aG aI aj b5 bC;go_wp2_with fail;rw [<-bF.1,<-bF.2];refine bD.mono ?_;rintro e a5 ⟨cy,cz,cB,cC,cD,cF,rfl,bH,b9,cb,a6⟩;generalize bB.kh=cc at*;generalize bB.vh=cd at*;obtain⟨ce,aK⟩:=Zx (a5.alloc (Obj.cells #[.int .u64 cc, .int .u64 cd] 31));have aL:Below a5.heap.size a5 ce:=(by rw [aK];exact(Below.refl _ _).alloc (Nat.le_refl _) _);have bI:=(bE.1.Aq a6 bE.2).below aL;have bJ:=bI.at' (i:=0) rfl;have a7:=(bH.below aL).Yv am.out (by have:=bG.out;omega);rw [bG.out,show((2:Nat):Int)=2 from rfl] at a7;have bK:=Zh a7;have af:=Zh (bb.trans ((aB.trans (b8.trans (a6.trans (Ad.below aL)))).Hf bb.size bL.out));have cf:=Zh aK;rw [aK] at bJ;clear aK bH b9 cb a6 aL bI bD a7;go_wp2_with fail;rw [<-cf.out];refine bK.mono ?_;rintro e cG ⟨rfl,aa⟩;have cg:=K8;clear aa bK bJ;go_wp2;go_ret;exact⟨rfl,cg⟩
theorem AK.own{F:Nat->Prop}{base c:Nat}(h:w.ownsRow base 45 2 (.slice A l.length c) l.length (B5 l))(hp:D8 w w.heap.size A l)(I: ∀b,F b->b<base):AK w F A (B5 l):=by
 rcases hp with h1|⟨b,o,h1,J,O⟩
 . rw [h1];exact .inl rfl
 . refine .inr ⟨b,o,h1,J,λU=> ?_,O⟩
   have V:=I b U;have Z:=(YA h (k:=b) (by rw [h1];rfl)).1;omega
section
variable {w' W:World} {F F':Nat->Prop}
theorem Ad.put(h:Ad w F w' F'){b j:Nat}{v:Value}(O:w.heap.size<=b):Ad w F (w'.setCell ⟨b,j,none⟩ v) F' :=
 ⟨by rw [<-h.os];rfl,by rw [<-h.tape];rfl,by rw [<-h.output];rfl,by simpa using h.size,λk I J=>(Below.heap_setCell w' ⟨b,j,none⟩ v k (by simp;omega)).trans (h.keep k I J),h.grow⟩
end
theorem LY{k:ByteArray}: ∀{l:List Pr},(∀p∈l,Tx.cmp p.1 k<0)->AE l k=l.length
 | [],_=>rfl
 |p::l,h=>by
  rw [GM,if_pos (h p (by simp)),LY (λq I=>h q (by simp [I]))];rfl
structure Fu(l:List Pr)(k:ByteArray)(a b c:List Pr):Prop where
 app:a++(b++c)=l
 low: ∀p∈a,Tx.cmp p.1 k<0
 ky: ∀p∈b,p.1=k
 one:b.length<=1
 high: ∀p∈c,Tx.cmp k p.1<0
theorem Fu.R9{k:ByteArray}(h:Fu l k a b c):AE l k=a.length:=by
 rw [<-h.app,C8,LY h.low,Ev]
 . rfl
 . intro p hp
   rcases List.mem_append.1 hp with h1|h1
   . rw [h.ky p h1,(Cp.2 rfl:Tx.cmp k k=0)];omega
   . have I:=h.high p h1
     have J:=Lf p.1 k;omega
theorem Fu.at'{k:ByteArray}(h:Fu l k a b c):l[AE l k]? =(b++c)[0]? :=by
 rw [h.R9,<-h.app,List.getElem?_append_right (Nat.le_refl _),Nat.sub_self]
theorem Fu.has{k:ByteArray}(h:Fu l k a b c):(l[AE l k]?).map (·.1)=some k↔b.length=1:=by
 rw [h.at'];have h1:=h.one;constructor
 . intro I
   cases b with
   |cons p b=>simp at h1;simp [h1]
   |nil=>
    cases c with
    |nil=>simp at I
    |cons p c=>
     simp at I;have:=h.high p (by simp);rw [I,(Cp.2 rfl:Tx.cmp k k=0)] at this;omega
 . intro J
   cases b with
   |nil=>simp at J
   |cons p b=>
    have:=h.ky p (by simp);simp [this]
theorem Fu.put{k v:ByteArray}(h:Fu l k a b c):Dc l (k,v)=a++(k,v)::c:=by
 unfold Dc;have J:=h.R9;have hh:=h.has;have h1:=h.one;by_cases I:b.length=1
 . rw [if_pos (hh.2 I),J,<-h.app,List.take_left,<-List.append_assoc,show a.length+1=(a++b).length by rw [List.length_append,I],List.drop_left]
 . rw [if_neg (λe=>I (hh.1 e)),J,<-h.app,List.take_left,List.drop_left]
   have:b= []:=List.eq_nil_of_length_eq_zero (by omega);rw [this];rfl
def JQ(l:List Pr)(i j:Nat):List Pr:=l.take i++l.drop j
theorem UM{B c:Nat}(h:D8 w B A l)(ai:B<=w.heap.size)(hA:A=none->c=0)(aj:l.length<=c)(ax:l.length<=2000000000000)(i j:Nat)(hi:i<=l.length)(al:j<=l.length):
 Calls prog 22 #[.slice A l.length c, .int .i64 i, .int .i64 j] w λe w' => ∃v,e= .returned v/\w'.ownsRow w.heap.size 45 2 v (JQ l i j).length (B5 (JQ l i j))/\Below w.heap.size w w' :=by
 obtain⟨am,ay,az,V,Z⟩:=LX A l.length j c al aj;have an:=Zh V;have ao:=Zh (Z hA);have aq:=Zh hA;have aa:Hid (i=(l.take i).length):=Zh (by rw [List.length_take];omega);have ar:Hid (l.length-j=(l.drop j).length):=Zh (by rw [List.length_drop]);have O:=Zh (Nx w 45);have ab:=Zh (h.more ai);have aA:(l.take i).length<=l.length:=by rw [List.length_take];omega
 have aB:(l.drop j).length<=l.length:=by rw [List.length_drop];omega
 clear h V Z hA;go_enter func22,ntmps22;go_wp2_with (at_builtin;go_must (refine Hl rfl (.tmp 8) (.tmp 11) rfl _ w.heap.size _ [] rfl O w.heap.size A i c (l.take i) rfl aa ((ab.below ((Below.refl _ w).alloc (Nat.le_refl _) _)).take i) aq (by simp;omega) (by simp) ?_));intro v2 w2 I ac _;have J:=Zh (Fa ((Below.refl _ w).alloc (Nat.le_refl _) _) O ac (by simp));have ae :w2.ownsRow w.heap.size 45 2 v2 (l.take i).length (B5 (l.take i)):=by first|exact I|(rw [<-aa.out];exact I)|simpa using I
 have af:=Zh ae;clear I ae ac O;go_wp2_with (at_builtin;go_must (refine Hl rfl (.tmp 13) (.tmp 16) rfl _ w.heap.size _ (l.take i) rfl af w.heap.size am _ _ (l.drop j) rfl ar (an w2 w.heap.size l rfl (ab.below J)) ao (by omega) J.size ?_));intro v4 w4 U ag _;have au:=Zh (Fa J af ag J.size);have ah :w4.ownsRow w.heap.size 45 2 v4 (JQ l i j).length (B5 (JQ l i j)):=by unfold JQ;first|exact U|simpa [Nat.min_eq_left hi] using U
 have aw:=Zh ah;clear U ah ag;go_wp2;go_ret;exact⟨v4,rfl,aw,au⟩
def Yab{P}(h:P:=by
 have aJ:=Zh (h.O4 I (by omega));have ah:=Zh (λW (bm:Below w.heap.size w W)=>(h.below bm).Rh I (by omega));have ac:=h.ow.nodup;have bo:Hid (∀i (hi:i<Aa.length),Aa[i].kh∉(Aa.take i).flatMap It.hs/\Aa[i].vh∉(Aa.take i).flatMap It.hs++ [Aa[i].kh]/\Aa[i].At R):=Zh (λi hi=>by
  have h1:=(List.nodup_append.1 ac).2.1;have e:Aa=Aa.take i++Aa[i]::Aa.drop (i+1):=by rw [<-List.drop_eq_getElem_cons hi,List.take_append_drop]
  rw [e,List.flatMap_append,List.flatMap_cons] at h1;obtain⟨_,ae,aK⟩:=List.nodup_append.1 h1;have aL:=(List.nodup_append.1 ae).1;have bp:Aa[i].kh∉(Aa.take i).flatMap It.hs:=λhm=>aK _ hm Aa[i].kh (by simp [It.hs]) rfl
  have bq:Aa[i].vh∉(Aa.take i).flatMap It.hs:=λhm=>aK _ hm Aa[i].vh (by simp [It.hs]) rfl
  refine⟨bp,λhm=> ?_,h.ow.at' _ (List.getElem_mem hi)⟩;rcases List.mem_append.1 hm with V|V
  . exact bq V
  . simp [It.hs] at aL
    simp at V;exact aL V.symm)
 have aq:=(List.nodup_append.1 ac).1;have br:Hid (∀i (hi:i<ns.length),ns[i]∉Aa.flatMap It.hs++ns.take i/\ ∃ws,R ns[i]=some ws):=Zh (λi hi=>by
  refine⟨λhm=> ?_, ?_⟩
  . rcases List.mem_append.1 hm with V|V
    . exact(List.nodup_append.1 ac).2.2 _ (List.getElem_mem hi) _ V rfl
    . obtain⟨j,ar,e⟩:=List.getElem_of_mem V
      rw [List.getElem_take] at e;have:=(List.getElem_inj aq).1 e;rw [List.length_take] at ar;omega
  . obtain⟨ws,h1,_⟩:=h.tr.IJ _ (List.getElem_mem hi)
    exact⟨ws,h1⟩)
 have aM:Bt.Tree (CQ R (Aa.flatMap It.hs)) t root Aa ns hg:=by
  rcases h.tr with h1|⟨a,h1,ae⟩
  . exact .inl h1
  . exact .inr ⟨a,h1,ae.congr λz bs=>Hm λhm=>(List.nodup_append.1 ac).2.2 z bs z hm rfl⟩
 have aN:CQ R (Aa.flatMap It.hs) 0=none:=by
  unfold CQ
  split
  . rfl
  . exact h.z
 have aO:=Zh (λ(W:World) (F' :Nat->Prop) (H' :List Nat) (hs:Ah W s F' (CQ R (Aa.flatMap It.hs)) H' P q most last G)=>PA I hs aN aM aq h.rt (by omega));have bS:ns.length<=1000:=Nat.le_trans (h.tr.IE I) J;obtain⟨L,ai⟩:=Zx (Aa.map HY);have aP:L.length=Aa.length:=by rw [ai,List.length_map]
 have bu:Hid (∀j (ar:j<L.length) (bv:j<Aa.length),L[j]=(Aa[j].kh,Aa[j].vh)):=Zh λj ar bv=>by
  subst ai;simp [HY]
 rw [<-ai] at ah;have aj:Aa.length=L.length:=aP.symm;simp only [aj] at ah;rw [aj] at J;have aQ:=Zh aj;have aR:=Zh h.st;have aS:=Zh h.sh;clear h I ac aM aN ai aP aj aq;go_enter func12,ntmps12;go_wp2_with fail;refine aJ.mono ?_;rintro e w1 ⟨rfl,aT⟩;have al:=Zh aT;clear aT aJ;go_wp2_with fail;refine(ah _ al).mono ?_;rintro e w2 ⟨v9,rfl,au,aU⟩;obtain⟨bT,bU,rfl⟩:=Ae au;have aV:=Zh (al.trans (aU.mono al.size));have bw:=Zh (aR.below aV);have bz:=Zh au;have bA:=Zh (λb (U:F b)=>(show b<w1.heap.size from Nat.lt_of_lt_of_le (aR.lt U) al.size));clear au aU ah;go_wp2_with fail
 go_loopw [24] (λaa wr=> ∃(i:Nat) (F' :Nat->Prop) (H' :List Nat),i<=L.length/\aa= .int .i64 i/\Hid (Ah wr s F' (CQ R ((Aa.take i).flatMap It.hs)) H' P q most last G)/\Hid (Ad w2 F wr F')) (λaa _=>L.length-(intOf aa).toNat)
 case atStart=>exact⟨0,F,H,Nat.zero_le _,rfl,by rw [List.take_zero,List.flatMap_nil,P0];exact bw,Zh (Ad.refl _ _)⟩
 case round=>
  obtain⟨i,F',H',hi,rfl,am,af⟩:=hrel;by_cases O:i<L.length
  ·
   as_aux_lemma=>
   have aw:i<Aa.length:=(by rw [aQ.out];exact O);obtain⟨g9,bB,bV,bW,ax⟩:=JX bz rfl (by omega);subst bB;have ab: ¬F g9:=(λU=>by have:=bA.out g9 U;omega);have f1:=af.cell (ax i O).1 ab;have f2:=af.cell (ax i O).2 ab;simp only [bu.out i O aw] at f1 f2;obtain⟨k1,k2,ag⟩:=bo.out i aw;have aW:(Aa.take (i+1)).flatMap It.hs=((Aa.take i).flatMap It.hs++ [Aa[i].kh])++ [Aa[i].vh]:=by
    rw [List.take_succ_eq_append_getElem aw,List.flatMap_append];simp [It.hs]
   have ay:=(λW (J:Below wr.heap.size wr W)=>Jl (am.below J) (I8 aS _) ((Hm k1).trans ag.kt) (Tx.Es _ ag.ks).1);have aX: ∀(W:World) (F2:Nat->Prop) (H2:List Nat),Ah W s F2 (CQ R ((Aa.take i).flatMap It.hs++ [Aa[i].kh])) H2 P q most last G->Calls prog 38 #[.pointer (some ⟨s,0,none⟩), .int .u64 (Aa[i].vh:Nat)] W λe w' => ∃F',e= .returned (.int .i64 0)/\Ah w' s F' (CQ R ((Aa.take (i+1)).flatMap It.hs)) (H2.erase Aa[i].vh) P q most last G/\Ad W F2 w' F' :=λW F2 H2 hs=>by
    have Z:=Jl hs (I8 aS _) ((Hm k2).trans ag.vt) (Tx.Es _ ag.vs).1;rw [HV,<-aW] at Z;exact Z
   simp only [HV] at ay;have az:=Zh ay;have aY:=Zh aX;obtain⟨aZ,a0⟩:=Zx (Aa[i].kh);obtain⟨b1,a1⟩:=Zx (Aa[i].vh);simp only [<-a0,<-a1] at f1 f2 az aY;obtain⟨aA,an⟩:=Zx (wr.alloc (Obj.cells #[.int .u64 aZ, .int .u64 b1] 31));obtain⟨a2,aB⟩:=Zx wr.heap.size;have aC:Below wr.heap.size wr aA:=(by rw [an];exact(Below.refl _ _).alloc (Nat.le_refl _) _);have bC:Hid (An aA a2 31 [.int .u64 aZ, .int .u64 b1]):=Zh (by rw [an,aB];exact An.new wr _ _);have n9:Hid (¬F' a2):=Zh (λU=>by have:=am.lt U;omega);have bD:=Zh (af.trans (Ad.below aC));have a3:=Zh (az aA aC);have a4:=Zh (And.intro an aB);clear ay aX ax a0 a1 an aB aC aW k1 k2 ag az ab;go_wp2_with fail;rw [<-a4.1];refine a3.mono ?_;rintro e w4 ⟨bE,rfl,a5,aD⟩;have a6:=bC.Aq aD n9.out;have a7:=a6.at' (i:=1) rfl;have a8:=Zh (aY w4 bE _ a5);have bF:=Zh (bD.trans aD);rw [a4.2] at a7;clear a5 aD a6 a3 f1 f2;go_wp2_with fail;refine a8.mono ?_;rintro e bX ⟨bG,rfl,a9,ba⟩;have bH:=Zh a9;have bI:=Zh (bF.trans ba);clear a9 ba a8 a7;go_wp2;go_roundw
   case rel=>exact⟨i+1,bG,_,by omega,by go_num,bH,bI⟩
   case measure=>simp [intOf];omega
  . obtain rfl:i=L.length:=by omega
    have ao:Hid (Ah wr s F' (CQ R (Aa.flatMap It.hs)) H' P q most last G):=Zh (by have Z:=am.out;rw [<-aQ.out,List.take_length] at Z;exact Z);have bb:=Zh (aO wr F' H' ao);clear am aO;go_wp2_with fail;refine bb.mono ?_;rintro e w6 ⟨bY,rfl,aE,aF⟩;obtain⟨bZ,c7,rfl⟩:=Ae aE;have bJ:=Zh (ao.below aF);have bK:=Zh (af.trans (Ad.below aF));have bc:=Zh aE;have bL:=Zh (λb (U:F' b)=>ao.lt U);clear aF aE bb ao af;go_wp2_with fail
    go_loopw [42] (λaa bd=> ∃(i:Nat) (F2:Nat->Prop) (H2:List Nat),i<=ns.length/\aa= .int .i64 i/\Hid (Ah bd s F2 (CQ R (Aa.flatMap It.hs++ns.take i)) H2 P q most last G)/\Hid (Ad w6 F' bd F2)) (λaa _=>ns.length-(intOf aa).toNat)
    case atStart=>exact⟨0,F',H',Nat.zero_le _,rfl,by rw [List.take_zero,List.append_nil];exact bJ,Zh (Ad.refl _ _)⟩
    case round=>
     obtain⟨be,bf⟩:=Zx wr;rw [<-bf] at hrel ⊢;clear bf;obtain⟨i,F2,H2,b3,rfl,bg,aG⟩:=hrel;by_cases O:i<ns.length
     ·
      as_aux_lemma=>
      obtain⟨g7,b4,bh,b5,b8⟩:=Bg bc.out (λe=>by rw [e] at O;simp at O);simp only [Value.slice.injEq] at bh;obtain⟨rfl,-,rfl⟩:=bh;have ab: ¬F' g7:=(λU=>by have:=bL.out g7 U;omega);have f1:=aG.cell ((BQ bc.out O)) ab;obtain⟨k1,ws,k2⟩:=br.out i O;have aH:=Jr bg.out ((Hm k1).trans k2);rw [HV,List.append_assoc,<-List.take_succ_eq_append_getElem O] at aH;have aI:=Zh aH;obtain⟨b9,bi⟩:=Zx (ns[i]);rw [<-bi] at f1 aI;clear aH k1 k2 ab bi;go_wp2_with fail;refine aI.mono ?_;rintro e cb ⟨bM,rfl,bj,bk⟩;have bN:=Zh bj;have bO:=Zh (aG.trans bk);clear bj bk aI f1;go_wp2;go_roundw
      case rel=>exact⟨i+1,bM,_,by omega,by go_num,bN,bO⟩
      case measure=>simp [intOf];omega
     . obtain rfl:i=ns.length:=by omega
       have bP:Hid (∃(F' :Nat->Prop) (H' :List Nat),Ah be s F' (CQ R (Aa.flatMap It.hs++ns)) H' P q most last G/\Ad w F be F'):=Zh ⟨F2,H2,by have Z:=bg.out;rw [List.take_length] at Z;exact Z,(Ad.below (F:=F) aV).trans (bK.trans aG)⟩;go_wp2;go_ret;obtain⟨bQ,bR,h1,ae⟩:=bP.out;exact⟨bQ,bR,rfl,h1,ae⟩):=h
def Yag{P}(h:P:=by
 rw [MakeChecks.laidMetH_plain _ _ _ (by kernel_rfl)] at h;obtain⟨ps,⟨g0,t0,U,f0,am,an,V,ab,ac,ae,_⟩,_⟩:=h;obtain rfl:=Option.some.inj (Aai.symm.trans V);obtain rfl:=Option.some.inj (Aab.symm.trans ab);obtain⟨xs,m1,rfl,I,hlen,ao,af⟩:=DataW.trod_array Tryz.underlying246 ae;have c5:prog.cellsOf 5=1:=by kernel_rfl
 simp only [Prod.mk.injEq] at I;rw [N4] at I;have ag:xs.map (·.1)=Lib.deBruijn64tab.map λn=>DataW.lit (Lit.int .u8 (n:Nat)):=by
  have:=I.1;simp only [DataW.agg.injEq] at this;exact this.symm
 intro j J;have ah:j<64:=J;have Z:j<xs.length:=by omega
 have h0:=af j ah;rw [List.getElem?_eq_getElem Z,c5,Nat.mul_one] at h0;obtain⟨k,ai,aj,_⟩:=DataW.trod_int Tryz.underlying5 h0;have O:(xs.map (·.1))[j]? =some (.lit (.int .u8 (Lib.deBruijn64tab.getD j 0:Nat))):=by
  rw [ag,List.getElem?_map,List.getElem?_eq_getElem J];simp [List.getD_eq_getElem?_getD,List.getElem?_eq_getElem J]
 rw [List.getElem?_map,List.getElem?_eq_getElem Z,aj] at O;simp only [Option.map_some,Option.some.injEq,DataW.lit.injEq,Lit.int.injEq,true_and] at O;subst O;have al:=World.var?_cell V ac j;rw [al];have hd:U.toList[j]? =some (.int .u8 (Lib.deBruijn64tab.getD j 0:Nat)):=by
  have aa:((U.toList.drop j).take 1)[0]? =some (.int .u8 (Lib.deBruijn64tab.getD j 0:Nat)):=by rw [ai];rfl
  rw [List.getElem?_take,if_pos (by omega),List.getElem?_drop,Nat.add_zero] at aa;exact aa
 simpa using hd):=h
def Yaj{P}(h:P:=by
 obtain⟨N,af,hw⟩:=O.rd;have ab:=JM af t I root V;have t1:=I.1;have hm:ns.length<=BF N t:=by
  obtain⟨p,rfl,_,_,ah⟩:=hw;have h1:=K9 (f:=λx=>((R x).getD []).length+2) ns H U (λx hx=>(O.MH x).2 (by obtain⟨ws,aa,_⟩:=J.IJ x hx;rw [aa];simp));have ac:(ns.map λx=>((R x).getD []).length+2)=List.replicate ns.length (6*t+2):=by
   rw [List.eq_replicate_iff];refine⟨by simp,λb ae=> ?_⟩;obtain⟨x,hx,rfl⟩:=List.mem_map.1 ae;obtain⟨ws,aa,ag⟩:=J.IJ x hx;rw [aa,<-ag];rfl
  rw [ac,List.sum_replicate_nat] at h1;unfold BF;have ac:ns.length<=64*p/(6*t):=by
   rw [Nat.le_div_iff_mul_le (by omega)];exact Nat.le_trans (Nat.mul_le_mul_left _ (show 6*t<=6*t+2 by omega)) (by omega)
  omega
 have he:Bc R t (BF N t) 40 [] root=ns:=by
  rcases J with ⟨rfl,_,aa,_⟩|⟨a,_,aa⟩
  . rw [aa]
    unfold Bc;rw [if_pos (.inl (by unfold Bk;rw [Z];simp))]
  . have:=Bt.Ld I (BF N t) a 1 40 ⟨root,Aa,ns⟩ [] aa (aa.high I ae) (by simpa using hm)
    simpa using this
 rw [he] at ab;exact ab):=h
def Ybf{P}(h:P:=by
 rintro e O ⟨rfl,I⟩;have J:=Zh (aK.trans (I.mono aK.size));clear I;go_wp2;go_ret;exact⟨rfl,J⟩):=h
def Yck{P}(h:P:=by
 funext z
 unfold AQ CQ;by_cases e:z=x
 . rw [if_pos e,if_pos (by simp [e])]
 . rw [if_neg e]
   by_cases h:z∈xs
   . rw [if_pos h,if_pos (by simp [h])]
   . rw [if_neg h,if_neg (by simp [h,e])]):=h
def Ydm{P}(h:P:=by
 simpa [Lit.wf,IntKind.min,IntKind.max,IntKind.signed,IntKind.bits] using h):=h
def Yop{P}(h:P:=by
 have I:=Zh (λW (J:Below w.heap.size w W)=>Iy (aQ.below J (Da aQ)));exact I):=h
def Yqt{P}(h:P:=by
 go_wp2_with fail;refine(aY _ aK).mono ?_;exact Ybf):=h
