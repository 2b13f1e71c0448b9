/- A part. -/
import Derived.Test.YtiopopoohglepaaGreatDoorVMxlc
import Derived.Deep.CutBlock
set_option linter.all false
set_option maxRecDepth 100000
set_option maxHeartbeats 8000000
namespace Go.Proofs.YtiopopoohglepaaGreatDoor
open Go.Proofs.Tryz
open Go.RowKit Go.Shelf
variable {R:Zr}
def PI(w:World)(s:Nat)(F:Nat->Prop)(P q most last G:Nat)(p:(Zr) × List Nat × (Nat × Nat))(e:Ending)(w' :World):Prop:=
 ∃(F' :Nat->Prop) (H' :List Nat),e= .returned (.agg #[.int .u64 p.2.2.1, .int .u64 p.2.2.2])/\(p.2.2.1<18446744073709551616/\p.2.2.2<18446744073709551616)/\Am w' s F' p.1 H' P q most last G/\Ba p.1/\Ad w F w' F'
theorem Gz{t:Nat}{g:Wh}{f x k:Nat}{n:BN}{b:Bool}(d:Ag R t x=n)(hg:g R n=(k,b)):AP t (f+1) R x g=AP.tkGo t R x n k b (λR x=>AP t f R x g) (λR x=>AP t f R x Ci) (λR x=>AP t f R x Cu):=by
 subst d
 conv=>lhs;unfold AP
 rw [hg]
structure Tg(w wc:World)(s:Nat)(F:Nat->Prop)(P q most last G M bn t x:Nat)(R2:Zr)(F2:Nat->Prop)(H2:List Nat)(n2:BN)(v2:V3)(k2:Nat)(D2:List Nat)(rec:(Zr)->Nat->(Zr) × List Nat × (Nat × Nat))(p:(Zr) × List Nat × (Nat × Nat)):Prop where
 st:Am wc s F2 R2 H2 P q most last G
 nb:Dv wc F2 M bn n2 v2
 Ar:Ad w F wc F2
 sh:Ba R2
 lt:k2<n2.kids.length
 l1:n2.keys.length<=1000
 l2:n2.Ab.length<=1000
 l3:n2.kids.length<=1000
 mod:p=AP.tkOn t x R2 n2 D2 k2 rec
theorem J8(R:Zr)(t:Nat)(n:BN)(k:Nat):(BO R t n k).2.keys.length<=n.keys.length/\(BO R t n k).2.Ab.length<=n.Ab.length/\(BO R t n k).2.kids.length<=n.kids.length:=
 ⟨List.length_eraseIdx_le _ _,List.length_eraseIdx_le _ _,List.length_eraseIdx_le _ _⟩
theorem V7(R:Zr)(t:Nat)(n:BN)(k:Nat):(By R t n k).2.1.keys.length<=n.keys.length/\(By R t n k).2.1.Ab.length<=n.Ab.length/\(By R t n k).2.1.kids.length<=n.kids.length:=by
 unfold By;have hs: ∀(a b c:Nat),(n.Dg a b c).keys.length<=n.keys.length/\(n.Dg a b c).Ab.length<=n.Ab.length/\(n.Dg a b c).kids.length<=n.kids.length:=λa b c=>by simp [BN.Dg]
 split
 . exact⟨Nat.le_refl _,Nat.le_refl _,Nat.le_refl _⟩
 split
 . exact hs _ _ _
 split
 . exact hs _ _ _
 split
 . exact J8 R t n _
 split
 . exact J8 R t n _
 . exact⟨Nat.le_refl _,Nat.le_refl _,Nat.le_refl _⟩
section
variable {s:Nat} {P q most last G t:Nat}
theorem X4{w:World}{F:Nat->Prop}{N nn:Nat}{v:Value}{g:Wh}(h:Rd N w s R nn)(U:Ba R)(Z:JH w s F v g):
 ∃f J,v= .func (.func f) #[] J/\(∀args W,(callFunc f args).run prog W= .ok (.enter f args) W)/\ ∀W,Below w.heap.size w W-> ∀(FF:Nat->Prop) (V:Value) (n:BN),CX W FF V n->(∀x∈n.keys,x<18446744073709551616)->Calls prog f (#[V]++J) W λe w' =>e= .returned (.tuple #[.int .i64 ((g R n).1:Nat), .bool (g R n).2])/\Below W.heap.size W w' :=by
 rcases Z with ⟨rfl,rfl⟩|⟨rfl,rfl⟩|⟨aa,bt,key,rfl,rfl,h1,O,ab,ac⟩
 . exact⟨_,_,rfl,(λ_ _=>by go_simp),λW d FF V n I _=>SJ R I⟩
 . exact⟨_,_,rfl,(λ_ _=>by go_simp),λW d FF V n I _=>Rl R I⟩
 . exact⟨_,_,rfl,(λ_ _=>by go_simp),λW d FF V n I hx=>Wo (t:=0) (h.below d) U I hx key ((d.cell (p:=⟨aa,0,none⟩) (Al h1)).trans h1) ((d.cell (p:=⟨bt,0,none⟩) (Al O)).trans O)⟩
def Ybz{P}(h:P:=by
 rw [aB,aM];have:=An.new (w.alloc (Obj.cells #[.pointer (some ⟨s,0,none⟩), .int .i64 t] 77)) 31 [.int .u64 0, .int .u64 0]
 rwa [show(w.alloc (Obj.cells #[.pointer (some ⟨s,0,none⟩), .int .i64 t] 77)).heap.size=w.heap.size+1 by simp] at this):=h
def Ydu{P}(h:P:=by
 exact⟨_,_,rfl,⟨(by decide:(0:Nat)<18446744073709551616),(by decide:(0:Nat)<18446744073709551616)⟩,ae.1,aH,ae.2⟩):=h
def Yko{P}(h:P:=by
 have d:decide ((k:Int)<0)=false:=decide_eq_false (by omega);exact d):=h
def Ylu{P}(h:P:=by
 have Z:An ai aK 77 [.pointer (some ⟨s,0,none⟩), .int .i64 t]:=by rw [aB,aC];exact(An.new w 77 [.pointer (some ⟨s,0,none⟩), .int .i64 t]).alloc _
 exact Z):=h
def Ymb{P}(h:P:=by
 have ae:=Zh (C9 aP (Ad.below (F:=F) aL) aw.2.1 aq ⟨_,rfl,λp d=>by cases d⟩ (aO _ aw.2.1) aw.2.2 (.int .u64 0) (.int .u64 0));exact ae):=h
def Yos{P}(h:P:=by
 have d:=aO.out _ aw.1;have I:=aO.out _ aw.2.1;exact And.intro d I):=h
theorem TZ(a5:BN.A1 t): ∀(f:Nat) {w:World} {F:Nat->Prop} {R:Zr} {H:List Nat} (J:Am w s F R H P q most last G) (aH:Ba R) {v:Value} {g:Wh} (ar:JH w s F v g) (x:Nat) (hx:x<18446744073709551616) (d:Nat) (hd:d+f=40),
 Calls prog 71 #[.agg #[.pointer (some ⟨s,0,none⟩), .int .i64 t], .int .u64 (x:Nat),v, .int .i64 d] w (PI w s F P q most last G (AP t f R x g)):=by
 intro f
 induction f using Nat.strongRecOn with
 |ind f ih=>
  intro w F R H J aH v g ar x hx d hd;have e5:=J.FN;obtain⟨ga,nn,ce⟩: ∃N nn,Rd N w s R nn:=by
   obtain⟨nn,a7,-⟩:=J.rd;exact⟨_,nn,a7⟩
  obtain⟨gb,gc,rfl,aZ,aJ⟩:=X4 ce aH ar;obtain⟨ai,aB⟩:=Zx ((w.alloc (Obj.cells #[.pointer (some ⟨s,0,none⟩), .int .i64 t] 77)).alloc (Obj.cells #[.int .u64 0, .int .u64 0] 31));obtain⟨aK,aC⟩:=Zx w.heap.size;obtain⟨aN,aM⟩:=Zx (w.heap.size+1);have ab:=VC;have Z:=Ylu;have au:An ai aN 31 [.int .u64 0, .int .u64 0]:=by
   exact Ybz
  have ej:=Zh (F6 (ce.below ab) t a5 x hx);obtain⟨n,aG⟩:=Zx (Ag R t x);have cf:=Qf;obtain⟨bD,af,bc⟩:=EW;obtain⟨bT,ek,el⟩:=OT;obtain⟨em,cg,a8⟩:=Wd;have aO:Hid (∀z,w.heap.size<=z-> ¬F z):=Zh (λz gd dm=>by have:=J.lt dm;omega);have e6:=J.CU;have aw:=Yki;have bU:=Zh (show s<ai.heap.size/\1<ai.heap.size from⟨Nat.lt_of_lt_of_le e5 ab.size,Nat.lt_of_lt_of_le e6 ab.size⟩);clear aB aC aM J ab au ar aJ aG aZ;obtain⟨c4,a0⟩:=A2 Z;rw [cf.1,cf.2.1] at c4 a0;clear Z;go_enter func71,ntmps71;go_wp2_with fail;rw [<-cf.1,<-cf.2.2,<-cf.2.1];refine ej.mono ?_;rintro e w1 ⟨v1,v2,v3,rfl,bu,cK⟩;rw [<-cg.out] at bu ⊢;obtain⟨bV,k1,rfl⟩:=Ae bu.r1;obtain⟨bW,k2,rfl⟩:=Ae bu.r2;obtain⟨bm,bo,rfl⟩:=Ae bu.r3;have dn:n.Ok:=by rw [cg.out];exact(MO ce a8 x).1
  obtain⟨dp,cL⟩:=Zx (w1.alloc (Obj.cells #[.slice bV n.keys.length k1, .slice bW n.Ab.length k2, .slice bm n.kids.length bo, .int .u64 n.size] 100));obtain⟨aW,dq⟩:=Zx w1.heap.size;have dr:Dv dp F ai.heap.size aW n (.slice bV n.keys.length k1, .slice bW n.Ab.length k2, .slice bm n.kids.length bo):=by
   rw [cL,dq];exact Dv.new (bD.below af) bu cK.size dn
  have ds:Below ai.heap.size ai dp:=by rw [cL];exact cK.trans ((Below.refl _ w1).alloc (Nat.le_refl _) _ |>.mono cK.size)
  clear c4 a0;have hlen:=(MO ce a8 x).2;rw [<-cg.out] at hlen;have en:=Zh (el dp (af.trans (ds.mono af.size)) F _ n (dr.Mz (by omega) (by omega) (by omega)) dn.keys);have eo:=Zh dr;have ac:=Zh ds;have a1:=Zh hlen;have ep:=Zh (And.intro cL dq);clear dr ds el bu cK dn hlen cL dq ce;go_wp2_with fail;rw [em.out,Oper.upon_enter,<-ep.1];refine en.mono ?_;rintro e w3 ⟨rfl,I⟩;have V:=DR;have aL:=Jt;have bh:=Zh (eo.below I);have aP:=Zh ((bD.below af).below V);have aq:=Zh (bT.below V);have bv:=XC ek.out R n;have cj:Hid (n.Ab.length=n.keys.length/\(n.kids= []\/n.kids.length=n.keys.length+1)):=Zh (by rw [cg.out];exact JT a8.out x);obtain⟨⟨k,here⟩,bI⟩: ∃p,p=g R n:=⟨_,rfl⟩;rw [<-bI] at bv ⊢;dsimp only at bv ⊢;have bI:=Zh bI;have bv:=Zh bv;rw [<-ep.2];clear en I eo ac em ej;rcases f with _|f
  . have e7:((d:Int)==40)=true:=by simp;omega
    obtain⟨⟨d0,d1⟩,f0,f1⟩:=Dl aq.out;have bw:=PU;have ae:=Ymb;go_wp2;obtain⟨bz,r1⟩:=A2 bw.out;exact bodyPost_ret (v:= .agg #[.int .u64 0, .int .u64 0]) (by simp [results,f71,go_sem,bz,r1]) rfl (by
     unfold PI;rw [show AP t 0 R x g=(R,[],(0,0)) from rfl];exact Ydu)
  . have e7:((d:Int)==40)=false:=by simp;omega
    have bX:=Zh (Gz (t:=t) (f:=f) cg.symm bI.symm);have eq := @ih f (by omega);clear ih;obtain⟨sz,cM⟩:=Zx n.less.size;have bJ:Hid (n.less=⟨n.keys,n.Ab,n.kids,sz⟩/\sz<18446744073709551616):=Zh ⟨by rw [cM];rfl,by rw [cM];exact Nat.mod_lt _ (by omega)⟩;have gf:IntKind.u64.wrap ((n.size:Int)-1)=(sz:Int):=(by rw [IntKind.wrap_u64,cM];unfold BN.less;have:=bh.ok.size;dsimp only;omega);obtain⟨w4,cN⟩:=Zx (w3.setCell ⟨aW,3,none⟩ (.int .u64 sz));have aU:Hid (Dv w4 F ai.heap.size aW ⟨n.keys,n.Ab,n.kids,sz⟩ (.slice bV n.keys.length k1, .slice bW n.Ab.length k2, .slice bm n.kids.length bo)):=Zh (by rw [cN];exact bh.sz bJ.2);have ax:Hid (Below ai.heap.size ai w4):=Zh (by rw [cN];exact V.trans (bh.YN 3 _));have es:=Zh cN;obtain⟨dt,du,dv,dw⟩:=C5 bh.box;have g3:=bh.box.free 3;dsimp only at dt du dv dw;clear cM cN;by_cases bk:n.kids= []
    . have e8:((n.kids.length:Int)==0)=true:=by rw [bk];rfl
      cases here with
      |false=>
       as_aux_lemma=>
       have bK:Hid (AP t (f+1) R x g=(R,[],(0,0))):=Zh (by
        rw [bX.out];unfold AP.tkGo;rw [if_pos bk];rfl)
       clear dt du dw g3;obtain⟨⟨d0,d1⟩,f0,f1⟩:=Dl aq.out;have bw:=PU;have ae:=Ymb;go_wp2;obtain⟨bz,r1⟩:=A2 bw.out;exact bodyPost_ret (v:= .agg #[.int .u64 0, .int .u64 0]) (by simp [results,f71,go_sem,bz,r1]) rfl (by
        unfold PI;rw [bK.out];exact Ydu)
      |true=>
       as_aux_lemma=>
       have a2:=bv.1 rfl;have bd:k<n.Ab.length:=(by have:=cj.1;omega);have e9:k<=40:=(by have:=a1.out;omega);obtain⟨kh,bp⟩:=Zx (n.keys[k]);obtain⟨vh,bq⟩:=Zx (n.Ab[k]);have u64:kh<18446744073709551616/\vh<18446744073709551616:=⟨bp▸bh.ok.keys _ (List.getElem_mem a2),bq▸bh.ok.Ab _ (List.getElem_mem bd)⟩;obtain⟨KE,ck⟩:=Zx (n.keys.eraseIdx k);obtain⟨br,cl⟩:=Zx (n.Ab.eraseIdx k);have bK:Hid (AP t (f+1) R x g=(Bq R t x ⟨KE,br,n.kids,sz⟩,[],(kh,vh))):=Zh (by
        rw [bX.out];unfold AP.tkGo;rw [if_pos bk,cond_true,bp,bq,ck,cl,bJ.1];simp [a2,bd];rfl)
       have dx:Hid ((⟨KE,br,n.kids,sz⟩:BN).Ok/\KE.length<=1000/\br.length<=1000):=Zh ⟨⟨ck▸HJ bh.ok.keys k,cl▸HJ bh.ok.Ab k,bh.ok.kids,bJ.2⟩,by rw [ck];have:=List.length_eraseIdx_le n.keys k;have:=a1.out;omega,by rw [cl];have:=List.length_eraseIdx_le n.Ab k;have:=a1.out;omega⟩;have bL:=Oh (aU.Mz (by have:=a1.out;show n.keys.length<=_;omega) (by have:=a1.out;show n.Ab.length<=_;omega) (by have:=a1.out;show n.kids.length<=_;omega)) k a2 bd;simp only [<-bp,<-bq] at bL;have cn:=Zh bL;have fa:=Zh ck;have fc:=Zh cl;clear bL bp bq ck cl bk;go_wp2_with fail;rw [<-es.out];refine cn.mono ?_;rintro e aY ⟨rfl,ag⟩;obtain⟨bA,cO⟩:=Zx (aY.alloc (Obj.cells #[.int .u64 kh, .int .u64 vh] 31));obtain⟨bY,cP⟩:=Zx aY.heap.size;have U:Below w4.heap.size w4 bA:=(by rw [cO];exact ag.trans (((Below.refl _ aY).alloc (Nat.le_refl _) _).mono ag.size));have Eo:An bA bY 31 [.int .u64 kh, .int .u64 vh]:=(by rw [cO,cP];exact An.new aY _ _);have et:w4.heap.size<=bY:=(by rw [cP];exact ag.size);have cQ:=aU.below U;obtain⟨a3,q1⟩:=A2 cQ.box;dsimp only at a3 q1;have dy:=cQ.ob;have fd:=(λX:Au (BA (.slice bV n.keys.length k1, .slice bW n.Ab.length k2, .slice bm n.kids.length bo)) bA=>X.cell a3 dy);have fe:=(λX:Au (BA (.slice bV n.keys.length k1, .slice bW n.Ab.length k2, .slice bm n.kids.length bo)) bA=>X.cell q1 dy);have be:=Zh cQ;have bE:=QK;have co:=Zh (And.intro Eo et);have ff:=Zh cO;have fg:=Zh cP;clear cn ag U cO cP cQ a3 q1 Eo et;go_wp2;rw [<-ff.out,<-fg.out];refine AD (λw' => ∃X:Au (BA (.slice bV n.keys.length k1, .slice bW n.Ab.length k2, .slice bm n.kids.length bo)) bA,w' =X.W) [11,12,13,14,15] (.r 0<| .r 1<| .r 2<| .r 3<| .r 4<| .r 6<| .r 7<| .r 8<| .r 9<| .r 10<| .a 5<| .a 11<| .a 12<| .a 13<| .a 14<| .a 15<| .nil) (Ay _ _) ?_
       iterate 10 (refine AB ?_;go_simp)
       clear fd fe dy;obtain⟨ay,ao⟩:=Zx bA.drew;rw [<-ao];have dz:=(IB.start be.own).below (show Below bA.heap.size bA ay by rw [ao];exact Ac bA);clear ao;have dA:=Hi dz.own.r1 k a2;rw [<-fa.out] at dA;have eu:=Zh dA;clear dA;refine Ao _ rfl (λK aQ=> ?_);go_wp2_with fail;refine eu.mono ?_;rintro e gg ⟨v',rfl,aS,hw⟩;obtain⟨cp,g1,rfl⟩:=Ae aS;have cR:=dz.ZL aS hw;clear aS hw dz eu;go_wp2;refine aQ _ _ cR.Gh ?_;clear aQ K;have dB:=Hi cR.own.r2 k bd;rw [<-fc.out] at dB;have ev:=Zh dB;clear dB;refine AA _ rfl (by decide) (λK aQ=> ?_);go_wp2_with fail;refine ev.mono ?_;rintro e ew ⟨v',rfl,aS,hw⟩;obtain⟨cr,g2,rfl⟩:=Ae aS;have dC:=cR.ZE aS hw;clear aS hw cR ev;go_wp2;refine aQ _ _ ?_;clear aQ K;have bZ:=Zh dC;obtain⟨⟨z0,ex,z2,z3⟩,u0,u1,u2,u3⟩:=Cd (be.box.block (dC.T.keep aW be.box.lt be.ob));dsimp only at z0 ex z2 z3;clear dC
       iterate 4 (refine AA _ rfl (by decide) (λK aQ=> ?_);go_wp2;refine aQ _ _ ?_;clear aQ K)
       refine AF ?_;obtain⟨b3,cu⟩:=Zx ((ew.setCell ⟨aW,0,none⟩ (.slice cp KE.length g1)).setCell ⟨aW,1,none⟩ (.slice cr br.length g2));rw [<-cu];clear z0 ex z2 z3 u0 u1 u2 u3;have dD:ai.heap.size<=aW:=be.ge aW (.inl rfl);have dE: ∀k',BA (.slice cp KE.length g1, .slice cr br.length g2, .slice bm n.kids.length bo) k' ->ai.heap.size<=k' /\k' ≠aW:=λk' a7=>by
        rcases bZ.T.grow k' a7 with dF|dF
        . exact⟨be.ge k' (.inr dF),λe=>be.ob (e▸dF)⟩
        . have:=be.box.lt;have:=bE.size;omega
       have cv:Below ai.heap.size ai b3:=by
        rw [cu];exact((bE.trans (bZ.T.F5 bE.size (λk' bF =>be.ge k' (.inr bF)))).setCell (p:=⟨aW,0,none⟩) dD _).setCell (p:=⟨aW,1,none⟩) dD _
       have dG: ∀k',k' ≠aW->b3.heap[k']? =ew.heap[k']? :=λk' bF =>by
        rw [cu,Below.heap_setCell _ ⟨aW,1,none⟩ _ k' bF,Below.heap_setCell _ ⟨aW,0,none⟩ _ k' bF]
       have bu:AQ b3 0 (.slice cp KE.length g1) KE (.slice cr br.length g2) br (.slice bm n.kids.length bo) n.kids:=(bZ.own.blocks λk' bF =>dG k' (dE k' bF).2);have ey:CX b3 F (.agg #[.slice cp KE.length g1, .slice cr br.length g2, .slice bm n.kids.length bo, .int .u64 sz]) ⟨KE,br,n.kids,sz⟩:=bu.Kv (λk' bF dm=>by have:=bD.lt dm;have:=(dE k' bF).1;have:=af.size;omega) sz dx.2.1 dx.2.2 (by have:=a1.out;omega);have bG:=Zh (Gb ((bD.below af).below cv) t a8 x hx ey dx.1);have bi:An b3 aW 100 [.slice cp KE.length g1, .slice cr br.length g2, .slice bm n.kids.length bo, .int .u64 sz]:=by
        rw [cu];exact((be.box.block (bZ.T.keep aW be.box.lt be.ob)).set 0 _).set 1 _
       obtain⟨m0,m1,m2,m3⟩:=C5 bi;obtain⟨c4,a0⟩:=A2 (bc.below cv);have a6:=Zh (bT.below cv);have fh:Hid (An b3 bY 31 [.int .u64 kh, .int .u64 vh]):=Zh (co.1.block ((dG bY (λe=>by have:=aU.box.lt;have:=co.2;omega)).trans (bZ.T.keep bY co.1.lt (λa7=>by have:=(aU.own.IC a7).2;have:=co.2;omega))));have fi:=Zh (Ad.below (F:=F) (af.trans (cv.mono af.size)));have fj: ¬F bY:=aO.out _ (by have:=co.2;have:=ax.size;have:=af.size;omega);clear dE dG bu ey bi cu bZ be cv dD;go_wp2_with fail;refine bG.mono ?_;rintro e aa ⟨rfl,cw,bj⟩;have cT :=a6.Ar bj (aO _ aw.2.1);have ez :=fh.Ar bj fj;obtain⟨fk,b4⟩:=A2 ez;have fm:=Zh cw;have cU:=Zh (fi.trans bj);have bf:=bj.not a6.lt (aO _ aw.2.1);clear m0 m1 m2 m3 c4 a0 ez cw bj bG;obtain⟨⟨d0,d1⟩,f0,f1⟩:=Dl cT;have bw:=Zh ((cT.set 0 (.int .u64 kh)).set 1 (.int .u64 vh));have ae:=Zh (C9 fm cU aw.2.1 cT ⟨_,rfl,λp a7=>by cases a7⟩ bf aw.2.2 (.int .u64 kh) (.int .u64 vh));clear cT;go_wp2;obtain⟨bz,r1⟩:=A2 bw.out;exact bodyPost_ret (v:= .agg #[.int .u64 kh, .int .u64 vh]) (by simp [results,f71,go_sem,bz,r1]) rfl (by
        unfold PI;rw [bK.out];exact⟨_,_,rfl,u64,ae.1,Cr a8 aH,ae.2⟩)
    . have e8:((n.kids.length:Int)==0)=false:=by
       have a7:n.kids.length≠0:=(λe=>bk (List.eq_nil_of_length_eq_zero e));simp;omega
      as_aux_lemma=>
      have cx:Hid (n.kids.length=n.keys.length+1):=Zh (cj.2.resolve_left bk);have e9:k<=40:=(by have:=a1.out;have:=bv.2;omega);have bM:k<n.kids.length:=(by have:=bv.2;have:=cx.out;omega);have cy:Hid (∀(X:World),Below w4.heap.size w4 X-> ∀j:Int,Calls prog 127 #[.agg #[.pointer (some ⟨s,0,none⟩), .int .i64 t], .pointer (some ⟨aW,0,none⟩), .int .i64 j] X λe w' =>e= .returned (.bool (CA R t n.kids j))/\Below X.heap.size X w'):=Zh (λX dH j=>by
       obtain⟨nn,a7,-⟩:=((bD.below af).below (ax.trans (dH.mono ax.size))).rd;exact Og a7 a8 (aU.below dH).box (Fg (aU.below dH).own.r3) aU.ok.kids (by have:=a1.out;show n.kids.length<=100;omega) j)
      go_upto_block 0 with (fail);rw [<-es.out];clear dt du dw g3;have dv:=aU.box.at' (i:=2) rfl;dsimp only at dv;go_cut [10] from 43 to 131 (λfn wc=> ∃(R2:Zr) (dI:Nat->Prop) (eA:List Nat) (n2:BN) (v2:V3) (k2:Nat) (dJ:List Nat),fn= .int .i64 k2/\Hid (Tg ai wc s F P q most last G ai.heap.size aW t x R2 dI eA n2 v2 k2 dJ (λR x=>AP t f R x g) (AP t (f+1) R x g)))
      case first=>
       cases here with
       |true=>
        by_cases bN:(Bk R t ⟨n.keys,n.Ab,n.kids,sz⟩ k||Bk R t ⟨n.keys,n.Ab,n.kids,sz⟩ (k+1))=true
        . skip
          have a2:=bv.1 rfl
          as_aux_lemma=>
          have bd:k<n.Ab.length:=(by have:=cj.1;omega);obtain⟨kh,bp⟩:=Zx (n.keys[k]);obtain⟨vh,bq⟩:=Zx (n.Ab[k]);have u64:Hid (kh<18446744073709551616/\vh<18446744073709551616):=Zh ⟨bp▸bh.ok.keys _ (List.getElem_mem a2),bq▸bh.ok.Ab _ (List.getElem_mem bd)⟩;have bL:=(λW (cV:Below w4.heap.size w4 W)=>Oh ((aU.below cV).Mz (by have:=a1.out;show n.keys.length<=_;omega) (by have:=a1.out;show n.Ab.length<=_;omega) (by have:=a1.out;show n.kids.length<=_;omega)) k a2 bd);simp only [<-bp,<-bq] at bL;obtain⟨aj,gh,eB,_,_⟩:=Bj aU.own.r1 (λe=>by rw [show n.keys= [] from e] at a2;simp at a2);obtain⟨an,gi,eC,_,_⟩:=Bj aU.own.r2 (λe=>by rw [show n.Ab= [] from e] at bd;simp at bd);obtain⟨fo,ci,eD,_,_⟩:=Bj aU.own.r3 (λe=>by rw [show n.kids= [] from e] at bM;simp at bM);simp only [Value.slice.injEq] at eB eC eD;obtain⟨rfl,-,rfl⟩:=eB;obtain⟨rfl,-,rfl⟩:=eC;obtain⟨rfl,-,rfl⟩:=eD;obtain⟨bg,bO⟩:=Zx (n.kids.getD k 0);obtain⟨cW,dK⟩:=Zx (n.kids.getD (k+1) 0);have b5:Hid (bg=n.kids[k]/\bg<18446744073709551616):=Zh (by
           rw [bO,Cf bM];exact⟨rfl,aU.ok.kids _ (List.getElem_mem bM)⟩)
          have eE:Hid (∀h:k+1<n.kids.length,cW=n.kids[k+1]/\cW<18446744073709551616):=Zh (λh=>by
           rw [dK,Cf h];exact⟨rfl,aU.ok.kids _ (List.getElem_mem h)⟩)
          obtain⟨r1,cz⟩:=Zx (Bk R t ⟨n.keys,n.Ab,n.kids,sz⟩ k);have dL:Hid (r1=false->Bk R t ⟨n.keys,n.Ab,n.kids,sz⟩ (k+1)=true):=Zh (λe=>by rw [cz] at e;rw [e] at bN;simpa using bN);have b4:Hid (CA R t n.kids (k:Int)=r1):=Zh (by rw [cz];exact DC R t ⟨n.keys,n.Ab,n.kids,sz⟩ k);have dM:Hid (CA R t n.kids ((k:Int)+1)=Bk R t ⟨n.keys,n.Ab,n.kids,sz⟩ (k+1)):=Zh (by rw [<-DC];push_cast;rfl);have fp:Hid (r1=true->AP t (f+1) R x g=AP.tkIn t x ⟨n.keys,n.Ab,n.kids,sz⟩ k (kh,vh) (AP t f R bg Ci)):=Zh (λe=>by
           rw [bX.out];unfold AP.tkGo;rw [if_neg bk,cond_true,if_pos (show Bk R t n k=true from cz▸e),bJ.1,bO,bp,bq,Cf a2,Cf bd])
          have fq:Hid (r1=false->AP t (f+1) R x g=AP.tkIn t x ⟨n.keys,n.Ab,n.kids,sz⟩ k (kh,vh) (AP t f R cW Cu)):=Zh (λe=>by
           rw [bX.out];unfold AP.tkGo;rw [if_neg bk,cond_true,if_neg (show¬Bk R t n k=true from λh=>by rw [show Bk R t n k=false from cz▸e] at h;cases h),if_pos (show Bk R t n (k+1)=true from dL.out e),bJ.1,dK,bp,bq,Cf a2,Cf bd])
          have fs:Hid (r1=false->k+1<n.kids.length):=Zh (λe=>by
           have:=dL.out e;unfold Bk at this;simp only [Bool.and_eq_true,decide_eq_true_eq] at this;exact this.1)
          have cn:=Zh bL;clear bN bp bq bL bO dK cz bk;go_upto_region 12 with (fail);go_cut [73] from 74 to 85 (λft O=>ft= .bool true/\Hid (Below w4.heap.size w4 O))
          case first=>
           obtain⟨c4,a0⟩:=A2 (bc.below ax);have aS:=cy.out w4 (Below.refl _ _) (k:Int);rw [b4.out] at aS;have bB:=Zh aS;clear aS
           cases r1 with
           |true=>
            go_wp2_with fail;refine bB.mono ?_;rintro e aY ⟨rfl,ag⟩;have al:=Zh ag;clear ag;go_wp2;go_meet
            case rel=>exact⟨rfl,al⟩
           |false=>
            have fu:Hid (CA R t n.kids ((k:Int)+1)=true):=Zh (dM.trans (dL rfl));go_wp2_with fail;refine bB.mono ?_;rintro e aY ⟨rfl,ag⟩;obtain⟨c4,a0⟩:=A2 (bc.below (ax.trans (ag.mono ax.size)));have aS:=cy.out aY ag ((k:Int)+1);rw [fu.out] at aS;have cB:=Zh aS;have al:=Zh ag;clear aS bB ag;go_wp2_with fail;refine cB.mono ?_;rintro e eF ⟨rfl,ah⟩;have U:=Ym;clear ah cB;go_wp2;go_meet
            case rel=>exact⟨rfl,U⟩
          case rest=>
           obtain⟨O,eG⟩:=Zx wc;rw [<-eG] at hcut ⊢;clear eG;obtain⟨rfl,bi⟩:=hcut;go_upto_region 13 with (fail);go_cut [13,14,15] from 86 to 93 (λfv dN dO cX=> ∃b13,fv= .pointer (some ⟨b13,0,none⟩)/\dN= .int .u64 bg/\dO= .func (.func 36) #[] #[]/\Hid (An cX b13 31 [.int .u64 kh, .int .u64 vh]/\Below O.heap.size O cX/\O.heap.size<=b13))
           case first=>
            have dP:=aU.below bi.out;obtain⟨a3,q1,aA,aD⟩:=C5 dP.box;dsimp only at a3 q1 aA aD;have cC:=BZ dP.own.r3 bM;rw [<-b5.1] at cC;have dQ:=Yko;have dR:decide ((n.kids.length:Int)<=(k:Int))=false:=decide_eq_false (by omega);have dS:decide (n.kids.length<=k)=false:=decide_eq_false (by omega);have fw:=Z3;have dT:=(λX:Au (λ_=>False) O=>X.cell q1 (λh=>h));have dU:=(λX:Au (λ_=>False) O=>X.cell aA (λh=>h));have dV:=(λX:Au (λ_=>False) O=>X.cell aD (λh=>h));have dW:=(λX:Au (λ_=>False) O=>X.cell cC (λh=>h));clear dP a3 q1 aA aD cC;refine AD (λw' => ∃X:Au (λ_=>False) O,w' =X.W) [10,11] (.r 0<| .r 1<| .r 3<| .r 4<| .r 5<| .r 6<| .r 7<| .two 2 (.a 8<| .a 9<| .a 10<| .a 11<| .nil) 8 (.a 2<| .a 9<| .a 10<| .a 11<| .nil)) (Ay _ _) ?_
            iterate 7 (refine AB ?_;go_simp)
            clear fw dT dU dV dW;refine Be _ _ rfl rfl (λK aQ=> ?_) (λK aQ=> ?_)
            focus
             go_wp2_with fail;refine(cn _ (bi.trans ((Ac O).mono bi.size))).mono ?_;rintro e aY ⟨rfl,ag⟩;have al:=Zh ((Ac O).trans ag);clear ag;go_wp2;refine aQ _ _ (Af al) ?_;clear aQ K;refine Ao _ rfl (λK aQ=> ?_);go_wp2;refine aQ _ _ (Af (al.trans (((Below.refl _ aY).alloc (Nat.le_refl _) _).mono al.size))) ?_;clear aQ K;have bP:=Zh (And.intro (An.new aY 31 [.int .u64 kh, .int .u64 vh]) (And.intro (al.trans (((Below.refl _ aY).alloc (Nat.le_refl _) (Obj.cells #[.int .u64 kh, .int .u64 vh] 31)).mono al.size)) al.size));refine Ao _ rfl (λK aQ=> ?_);go_wp2;refine aQ _ _ (Af bP.2.1) ?_;clear aQ K
            rotate_left
            focus
             go_wp2;obtain⟨aY,cY⟩:=Zx ((O.alloc (Obj.cells #[.int .u64 0, .int .u64 0] 31)).drew);obtain⟨b13,dX⟩:=Zx O.heap.size;have ag:Below O.heap.size O aY:=(by rw [cY];exact((Below.refl _ O).alloc (Nat.le_refl _) _).drew);have EH:An aY b13 31 [.int .u64 0, .int .u64 0]:=(by rw [cY,dX];exact BG (An.new O _ _));rw [<-cY,<-dX];refine aQ _ _ (Af ag) ?_;clear aQ K;have al:=Zh (And.intro ag (show O.heap.size<=b13 by omega));have fx:=Zh EH;clear cY dX ag EH;refine Ao _ rfl (λK aQ=> ?_);go_wp2_with fail;refine(cn _ (bi.trans (al.1.mono bi.size))).mono ?_;rintro e eF ⟨rfl,ah⟩;have b8:=fx.below ah;have eH:=Zh (al.1.trans (ah.mono al.1.size));obtain⟨⟨d0,d1⟩,f0,f1⟩:=Dl b8;have bP:=Zh (And.intro ((b8.set 0 (.int .u64 kh)).set 1 (.int .u64 vh)) (And.intro ((eH.setCell (p:=⟨b13,0,none⟩) al.2 (.int .u64 kh)).setCell (p:=⟨b13,1,none⟩) al.2 (.int .u64 vh)) al.2));clear ah b8;go_wp2;refine aQ _ _ (Af eH) ?_;clear aQ K;refine Ao _ rfl (λK aQ=> ?_);go_wp2;refine aQ _ _ (Af bP.2.1) ?_;clear aQ K d0 d1 f0 f1
            all_goals
             iterate 2 (refine AA _ rfl (by decide) (λK aQ=> ?_);go_wp2;refine aQ _ _ ?_;clear aQ K)
             refine AF ?_;go_wp2_with fail;go_meet
             case rel=>exact⟨_,rfl,rfl,rfl,bP⟩
           case rest=>
            obtain⟨cX,eI⟩:=Zx wc;rw [<-eI] at hcut ⊢;clear eI;obtain⟨b13,rfl,rfl,rfl,cZ⟩:=hcut;have aT:=Zh (bi.trans (cZ.2.1.mono bi.size));have aS:=cy.out cX aT (k:Int);rw [b4.out] at aS;have bB:=Zh aS;obtain⟨c4,a0⟩:=A2 (bc.below (ax.trans (aT.mono ax.size)));clear aS;go_wp2_with fail;refine bB.mono ?_;rintro e aY ⟨rfl,ag⟩;have c8:=Ygr;have b8:=Zh (cZ.1.below ag);clear ag bB c4 a0;go_upto_if 97 with (fail);go_cut [14,15] from 97 to 103 (λdN dO fy=> ∃(Ap:Nat) (vv:Value) (c9:Wh),dN= .int .u64 Ap/\dO=vv/\aY=fy/\Hid ((∀W FF,JH W s FF vv c9)/\Ap<18446744073709551616/\AP t (f+1) R x g=AP.tkIn t x ⟨n.keys,n.Ab,n.kids,sz⟩ k (kh,vh) (AP t f R Ap c9)))
            case first=>
             cases r1 with
             |true=>
              go_wp2;go_meet
              case rel=>exact⟨bg, .func (.func 36) #[] #[],Ci,rfl,rfl,rfl,Zh ⟨λ_ _=> .inr (.inl ⟨rfl,rfl⟩),b5.2,fp (by first|rfl|trivial)⟩⟩
             |false=>
              have dY:=fs.out (by first|rfl|trivial)
              have dZ:=aU.below c8.out;have aA:=dZ.box.at' (i:=2) rfl;have cC:=BZ dZ.own.r3 dY;dsimp only at aA;rw [<-(eE.out dY).1] at cC;have eJ:=(eE dY).2;have dQ:decide ((k:Int)+1<0)=false:=decide_eq_false (by omega);have dR:decide ((n.kids.length:Int)<=(k:Int)+1)=false:=decide_eq_false (by omega);have dS:decide (n.kids.length<=k+1)=false:=decide_eq_false (by omega);have bP:=Zh (And.intro eJ (fq.out (by first|rfl|trivial)))
              clear dZ eJ;go_wp2;go_meet
              case rel=>exact⟨cW, .func (.func 35) #[] #[],Cu,rfl,rfl,rfl,Zh ⟨λ_ _=> .inl ⟨rfl,rfl⟩,bP.1,bP.2⟩⟩
            case rest=>
             obtain⟨Ap,vv,c9,rfl,rfl,rfl,da⟩:=hcut;have cD:=Zh (ax.trans (c8.mono ax.size));have bH:=eq ((bD.below af).below cD) aH (da.1 aY F) Ap da.2.1 (d+1) (by omega);push_cast at bH;obtain⟨eK,d2⟩:=Zx (AP t f R Ap c9);have bK:Hid (AP t (f+1) R x g=AP.tkIn t x ⟨n.keys,n.Ab,n.kids,sz⟩ k (kh,vh) eK):=Zh (by rw [d2];exact da.2.2);rw [<-d2] at bH;obtain⟨gj,gk,db,b7⟩:=eK;have cF:=Zh bH;obtain⟨c4,a0⟩:=A2 (bc.below cD);have fz:d<=40:=(by omega);clear d2 bH da;go_wp2_with fail;refine cF.mono ?_;rintro e am ⟨dc,dd,rfl,b9,bC,aE,bs⟩;dsimp only at b9 bC aE ⊢;obtain⟨aI,az⟩:=Zx (am.alloc (Obj.cells #[.int .u64 db, .int .u64 b7] 31));obtain⟨d3,aF⟩:=Zx am.heap.size;have de:=Yhr;have d4:An aI d3 31 [.int .u64 db, .int .u64 b7]:=(by rw [az,aF];exact An.new am _ _);have aV:=Zh (((aU.below c8).Ar bs).below de);have bQ:=bs.trans (Ad.below de);have eL:=aU.own.IC (k:=aj) (.inl rfl);have eM:=aU.own.IC (k:=an) (.inr (.inl rfl));have bI:ai.heap.size<=aj/\ai.heap.size<=an:=⟨aU.ge aj (.inr (.inl rfl)),aU.ge an (.inr (.inr (.inl rfl)))⟩;have eN:=c8.size;have eO:=bs.size;have d5: ¬(d3=aj\/d3=an):=(by omega);have d6: ¬(aW=aj\/aW=an):=λe=>by
              exact Ycg
             have df:=Yng;obtain⟨a3,q1⟩:=A2 aV.box;dsimp only at a3 q1;have fA:=BZ aV.own.r1 a2;have fB:=BZ aV.own.r2 bd;have fC:=aV.own.r1.frozenAt k;have fD:=aV.own.r2.frozenAt k;have fF:=(λX:Au (λz=>z=aj\/z=an) aI=>X.cell a3 d6);have fG:=(λX:Au (λz=>z=aj\/z=an) aI=>X.cell q1 d6);have fH:=(λX:Au (λz=>z=aj\/z=an) aI=>X.cell (d4.at' (i:=0) rfl) d5);have Z:=(λX:Au (λz=>z=aj\/z=an) aI=>X.cell (d4.at' (i:=1) rfl) d5);have dQ:=Yko;have dR:decide ((n.keys.length:Int)<=(k:Int))=false:=decide_eq_false (by omega);have dS:decide (n.keys.length<=k)=false:=decide_eq_false (by omega);have gl:decide ((n.Ab.length:Int)<=(k:Int))=false:=decide_eq_false (by omega);have gm:decide (n.Ab.length<=k)=false:=decide_eq_false (by omega);have fI:=Zh (bC.below de);have fJ:=Zh (And.intro (And.intro eL.2 eM.2) (And.intro bI (And.intro eN eO)));have cb:=bc.below cD.out;have a6:=bT.below cD.out;obtain⟨cc,bf⟩:=Yos;have d7: ¬F b13:=aO.out _ (by have:=cZ.2.2;have:=bi.size;have:=ax.size;have:=af.size;omega);have v4:=Zh (cb.Ar bQ cc);have d8:=Zh (And.intro (a6.Ar bQ bf) (bQ.not a6.lt bf));have eP:=Zh (And.intro (b8.Ar bQ d7) (bQ.not b8.lt d7));have fK:=Zh ((Ad.below (F:=F) (af.trans (cD.mono af.size))).trans bQ);have dg:=Zh b9;obtain⟨fL,eQ⟩:=QI;have fM:=Zh df;clear az aF de bQ eL eM bI eN eO d5 d6 df a3 q1 d4 bC bs b9 aE cb a6 cc bf d7 cF c4 a0;go_wp2;rw [<-eQ.1,<-eQ.2];refine Aw (λw' => ∃X:Au (λz=>z=aj\/z=an) aI,w' =X.W) [.r 0, .r 1, .r 2, .r 3, .r 4, .r 5, .r 6, .r 7, .r 8, .r 9, .r 10, .a 11, .r 12, .a 13] (Ay _ _) ?_
             iterate 11 (refine AE ?_;go_simp)
             clear fF fG fH Z;have df:=fM.out;refine AK _ rfl (λd9 cG=> ?_);go_wp2;refine cG _ _ (Cl (Bi (B:=λz=>z=aj\/z=an) (p:=⟨aj,k,none⟩) (Af (Below.refl _ _)) (.inl rfl) _) (Ac _)) ?_;clear cG d9;refine AE ?_;go_simp;refine AK _ rfl (λd9 cG=> ?_);go_wp2;refine cG _ _ (Cl (Bi (B:=λz=>z=aj\/z=an) (p:=⟨an,k,none⟩) (Bi (B:=λz=>z=aj\/z=an) (p:=⟨aj,k,none⟩) (Af (Below.refl _ _)) (.inl rfl) _) (.inr rfl) _) (Ac _)) (AO ?_);clear cG d9 fC fD fA fB df;obtain⟨ea,eb,eR⟩:=Dv.put fI aV bU.1 bU.2 (k:=k) (x:=db) (y:=b7) a2 bd dg.1 dg.2;have ec:=((fK.or _).trans eR).P6 (λz cH=>Nat.le_trans af.size (aV.ge z cH));obtain⟨aR,ed⟩:=Zx ((aI.setCell ⟨aj,k,none⟩ (.int .u64 db)).setCell ⟨an,k,none⟩ (.int .u64 b7));have dh: ∀{b:Nat} {T:TypeId} {vs:List Value},An aI b T vs->b≠aj->b≠an->An aR b T vs:=(λh h1 fN=>by rw [ed];exact(h.other (p:=⟨aj,k,none⟩) h1 _).other (p:=⟨an,k,none⟩) fN _);rw [<-ed] at ea eb ec ⊢;obtain⟨ay,ao⟩:=Zx aR.drew;have bR:=Z6;rw [<-ao];have hh:=fJ.out;have fO:=bc.lt;have fP:=bT.lt;have fQ:=cZ.2.2;have fR:=bi.size;have eS:=(dh v4 (by omega) (by omega)).below bR;have u8:=(dh d8.1 (by omega) (by omega)).below bR;have eT:=(dh eP.1 (by omega) (by omega)).below bR;have eU :=ea.below bR;have di :=eb.below bR;have eV :=ec.trans (Ad.below bR);have hle:=a1.out;have bG:=Zh (Gb eU t a8 x hx (di.Mz (by simp [BN.Dg];omega) (by simp [BN.Dg];omega) (by show n.kids.length<=_;omega)) di.ok);obtain⟨m0,m1,m2,m3⟩:=C5 di.box;dsimp only at m0 m1 m2 m3;obtain⟨c4,a0⟩:=A2 eS;have eW:=Zh u8;have fS:=Zh eT;have fT:=Zh eV;clear ed ao bR ea eb eR ec dh hh fO fP fQ fR eS u8 eT eU di eV hle;go_wp2_with fail;refine bG.mono ?_;rintro e gn ⟨rfl,eX,cI⟩;have a6:=eW.Ar cI d8.2;have bf:=cI.not eW.lt d8.2;have eY :=fS.Ar cI eP.2;obtain⟨fk,b4⟩:=A2 eY;have fU:=Zh eX;have fV:=Zh (fT.trans cI);clear m0 m1 m2 m3 c4 a0 eX cI eY bG;obtain⟨⟨d0,d1⟩,f0,f1⟩:=Dl a6;have bw:=Zh ((a6.set 0 (.int .u64 kh)).set 1 (.int .u64 vh));have ae:=Zh (C9 fU fV aw.2.1 a6 ⟨_,rfl,λp a7=>by cases a7⟩ bf aw.2.2 (.int .u64 kh) (.int .u64 vh));clear a6;go_wp2;obtain⟨bz,r1⟩:=A2 bw.out;exact bodyPost_ret (v:= .agg #[.int .u64 kh, .int .u64 vh]) (by simp [results,f71,go_sem,bz,r1]) rfl (by
              unfold PI;rw [bK.out];exact⟨_,_,rfl,u64,ae.1,Cr a8 fL,ae.2⟩)
        . have r1:Bk R t ⟨n.keys,n.Ab,n.kids,sz⟩ k=false:=by simp at bN;exact bN.1
          have r2:Bk R t ⟨n.keys,n.Ab,n.kids,sz⟩ (k+1)=false:=(by simp at bN;exact bN.2);have a2:=bv.1 rfl
          as_aux_lemma=>
          have b4:CA R t n.kids (k:Int)=false:=(DC R t ⟨n.keys,n.Ab,n.kids,sz⟩ k).trans r1;have dM:CA R t n.kids ((k:Int)+1)=false:=(by rw [<-r2,<-DC];push_cast;rfl);obtain⟨c4,a0⟩:=A2 (bc.below ax);have aS:=cy.out w4 (Below.refl _ _) (k:Int);rw [b4] at aS;have bB:=Zh aS;clear aS;go_wp2_with fail;refine bB.mono ?_;rintro e aY ⟨rfl,ag⟩;obtain⟨c4,a0⟩:=A2 (bc.below (ax.trans (ag.mono ax.size)));have aS:=cy.out aY ag ((k:Int)+1);rw [dM] at aS;have cB:=Zh aS;have al:=Zh ag;clear aS bB ag;go_wp2_with fail;refine cB.mono ?_;rintro e eF ⟨rfl,ah⟩;have U:=al.trans (ah.mono al.size);have bE:=ax.trans (U.mono ax.size);obtain⟨c4,a0⟩:=A2 (bc.below bE);have eZ:=Zh (I5 ((bD.below af).below bE) aH a8 (aU.below U) bU.1 bU.2 (by have:=a1.out;show n.keys.length<=40;omega) cj.1 cx k a2);have fW:=Zh bE;clear cB al ah U bE;go_wp2_with fail;refine eZ.mono ?_;rintro e am ⟨dc,dd,ee,rfl,bC,cJ,bs⟩;have ef:Hid (Tg ai am s F P q most last G ai.heap.size aW t x (BO R t ⟨n.keys,n.Ab,n.kids,sz⟩ k).1 dc dd (BO R t ⟨n.keys,n.Ab,n.kids,sz⟩ k).2 ee k [n.kids.getD (k+1) 0] (λR x=>AP t f R x g) (AP t (f+1) R x g)):=Zh (by
           have bS:=J8 R t ⟨n.keys,n.Ab,n.kids,sz⟩ k;have hle:=a1.out;refine⟨bC,cJ,Ad.P6 ((Ad.below fW).trans bs) (λz cH=>aU.ge z cH),HO a8.out aH _ _,TI (R:=R) (t:=t) (n:=⟨n.keys,n.Ab,n.kids,sz⟩) cx a2,Nat.le_trans bS.1 (by show n.keys.length<=_;omega),Nat.le_trans bS.2.1 (by show n.Ab.length<=_;omega),Nat.le_trans bS.2.2 (by show n.kids.length<=_;omega), ?_⟩;rw [bX.out];unfold AP.tkGo;rw [if_neg bk,cond_true,if_neg (show¬Bk R t n k=true by rw [show Bk R t n k=false from r1];decide),if_neg (show¬Bk R t n (k+1)=true by rw [show Bk R t n (k+1)=false from r2];decide),bJ.1])
          clear bC cJ bs eZ;go_wp2;go_meet
          case rel=>exact⟨_,_,_,_,_,_,_,rfl,ef⟩
       |false=>
        as_aux_lemma=>
        obtain⟨c4,a0⟩:=A2 (bc.below ax);have e0:=Zh (Tu ((bD.below af).below ax) aH a8 aU bU.1 bU.2 (by have:=a1.out;show n.keys.length<=40;omega) cj.1 cx k bM);go_wp2_with fail;refine e0.mono ?_;rintro e am ⟨dc,dd,ee,rfl,bC,cJ,bs⟩;have ef:Hid (Tg ai am s F P q most last G ai.heap.size aW t x (By R t ⟨n.keys,n.Ab,n.kids,sz⟩ k).1 dc dd (By R t ⟨n.keys,n.Ab,n.kids,sz⟩ k).2.1 ee (By R t ⟨n.keys,n.Ab,n.kids,sz⟩ k).2.2.2 (By R t ⟨n.keys,n.Ab,n.kids,sz⟩ k).2.2.1 (λR x=>AP t f R x g) (AP t (f+1) R x g)):=Zh (by
         have bS:=V7 R t ⟨n.keys,n.Ab,n.kids,sz⟩ k;have hle:=a1.out;refine⟨bC,cJ,Ad.P6 ((Ad.below ax).trans bs) (λz cH=>aU.ge z cH),Rq a8 aH _ _,Vm (R:=R) (t:=t) (n:=⟨n.keys,n.Ab,n.kids,sz⟩) cx bM,Nat.le_trans bS.1 (by show n.keys.length<=_;omega),Nat.le_trans bS.2.1 (by show n.Ab.length<=_;omega),Nat.le_trans bS.2.2 (by show n.kids.length<=_;omega), ?_⟩;rw [bX.out];unfold AP.tkGo;rw [if_neg bk,cond_false,bJ.1])
        generalize (By R t ⟨n.keys,n.Ab,n.kids,sz⟩ k).2.2.2=k9 at*;clear bC cJ bs e0;go_wp2;go_meet
        case rel=>exact⟨_,_,_,_,_,_,_,rfl,ef⟩
      case rest=>
       obtain⟨R2,dI,eA,n2,v2,k2,dJ,rfl,aX⟩:=hcut
       as_aux_lemma=>
       obtain⟨u1,u2,u3⟩:=v2;obtain⟨fo,ci,e1,_,_⟩:=Bj aX.nb.own.r3 (λe=>by have:=aX.lt;rw [e] at this;simp at this);dsimp only at e1;subst e1;have bG:=Zh (Gb aX.st t a8 x hx (aX.nb.Mz aX.l1 aX.l2 aX.l3) aX.nb.ok);obtain⟨cc,bf⟩:=Yos;have cb:=bc.Ar aX.Ar cc;obtain⟨c4,a0⟩:=A2 cb;obtain⟨m0,m1,m2,m3⟩:=C5 aX.nb.box;dsimp only at m0 m1 m2 m3;have e2:=Zh (And.intro cb (aX.Ar.not bc.lt cc));have dj:=Zh (And.intro (bT.Ar aX.Ar bf) (aX.Ar.not bT.lt bf));obtain⟨bg,bO⟩:=Zx (n2.kids.getD k2 0);have b5:bg=n2.kids[k2]'aX.lt:=bO.trans (Cf aX.lt);have fX:Hid (bg<18446744073709551616):=Zh (by rw [b5];exact aX.nb.ok.kids _ (List.getElem_mem _));have eg:Hid (k2<n2.kids.length/\n2.kids.length<=1000):=Zh ⟨aX.lt,aX.l3⟩;have bK:Hid (AP t (f+1) R x g=((AP t f (Bq R2 t x n2) bg g).1,dJ++(AP t f (Bq R2 t x n2) bg g).2.1,(AP t f (Bq R2 t x n2) bg g).2.2)):=Zh (by rw [aX.mod,bO];rfl);have fY:=Zh b5;clear cb cc bf bO b5;go_wp2_with fail;refine bG.mono ?_;rintro e aa ⟨rfl,cw,bj⟩;have eh:=aX.nb.Ar bj;have cU:=Zh (((Ad.below (F:=F) af).trans aX.Ar).trans bj);have fZ:Hid (Ba (Bq R2 t x n2)):=Zh (Cr a8 aX.sh);have a4:=e2.1.Ar bj e2.2;have dk:=Zh (And.intro (dj.1.Ar bj dj.2) (bj.not dj.1.lt dj.2));have bH:=(λW (cV:Below aa.heap.size aa W)=>eq (cw.below cV) fZ (ek.Ar (cU.trans (Ad.below cV))) bg fX (d+1) (by omega));push_cast at bH;have cF:=Zh bH;generalize AP t f (Bq R2 t x n2) bg g=p9 at*;obtain⟨go,gp,a9,ei⟩:=p9;have aA:=eh.box.at' (i:=2) rfl;dsimp only at aA;have aD:=BZ eh.own.r3 eg.1;rw [<-fY.out] at aD;generalize n2.kids.length=dl at*;have gq:k2<dl:=eg.1;have gr:dl<=1000:=eg.2;have dQ:decide ((k2:Int)<0)=false:=decide_eq_false (by omega);have dR:decide ((dl:Int)<=(k2:Int))=false:=decide_eq_false (by omega);have dS:decide (dl<=k2)=false:=decide_eq_false (by omega);have fz:d<=40:=(by omega);have dT:=(λX:Au (λ_=>False) aa=>X.cell (a4.at' (i:=0) rfl) (λh=>h));have dU:=(λX:Au (λ_=>False) aa=>X.cell (a4.at' (i:=1) rfl) (λh=>h));obtain⟨dV,dW⟩:=X8;clear m0 m1 m2 m3 c4 a0 cw bj bG eh a4 aA aD bH;go_wp2;refine AD (λw' => ∃X:Au (λ_=>False) aa,w' =X.W) [9,10] (.r 0<| .r 1<| .r 2<| .r 3<| .r 4<| .r 5<| .r 6<| .r 7<| .r 8<| .a 9<| .a 10<| .nil) (Ay _ _) ?_
       iterate 9 (refine AB ?_;go_simp)
       clear dT dU dV dW;refine AA _ rfl (by decide) (λK aQ=> ?_);go_wp2_with fail;refine(cF _ (Ac aa)).mono ?_;rintro e gs ⟨gt,gu,rfl,b9,e3,e4,cd⟩;have cd:=(Ad.below (F:=dI) (Ac aa)).trans cd;have a6:=dk.1.Ar cd dk.2;have bf:=cd.not dk.1.lt dk.2;have f7:=Zh e3;have f8:=Zh (cU.trans cd);have dg:=Zh b9;have f9:=Zh e4;dsimp only;clear e3 cd b9 e4 cF;obtain⟨⟨d0,d1⟩,f0,f1⟩:=Dl a6;have bw:=Zh ((a6.set 0 (.int .u64 a9)).set 1 (.int .u64 (ei :Nat)));have ae:=Zh (C9 f7 f8 aw.2.1 a6 ⟨_,rfl,λp a7=>by cases a7⟩ bf aw.2.2 (.int .u64 a9) (.int .u64 (ei :Nat)));clear a6;go_wp2;refine aQ _ _ ?_;clear aQ K;refine AA _ rfl (by decide) (λK aQ=> ?_);go_wp2;refine aQ _ _ (AF ?_);clear d0 d1 f0 f1;go_wp2;obtain⟨bz,r1⟩:=A2 bw.out;exact bodyPost_ret (v:= .agg #[.int .u64 a9, .int .u64 (ei :Nat)]) (by simp [results,f71,go_sem,bz,r1]) rfl (by
        unfold PI;rw [bK.out];exact⟨_,_,rfl,dg,ae.1,f9,ae.2⟩)
end
namespace Bt
variable {i j sz t:Nat}{Aa:List It}{m:It}
theorem DO: ∀(c:Sb) (A B:List Lk) (k:Nat),k<=A.length->Ap c (A++B) k=Ap c A k
 |c,A,B,0,_=>by cases A<;>cases B<;>rfl
 |c,[],B,k+1,h=>absurd h (by simp)
 |c,p::A,B,k+1,h=>DO p.2 A B k (by simpa using h)
theorem IP: ∀(c:Sb) (A B:List Lk) (k:Nat),k<=A.length->pre c (A++B) k=pre c A k
 |c,A,B,0,_=>by cases A<;>cases B<;>rfl
 |c,[],B,k+1,h=>absurd h (by simp)
 |c,p::A,B,k+1,h=>by
  show c.Aa++p.1::pre p.2 (A++B) k=c.Aa++p.1::pre p.2 A k
  rw [IP p.2 A B k (by simpa using h)]
theorem DS: ∀(c:Sb) (A:List Lk) (p:Lk) (B:List Lk),Ap c (A++p::B) (A.length+1)=p.2
 |c,[],p,B=>by cases B<;>rfl
 |c,q::A,p,B=>DS q.2 A p B
theorem Mv(c:Sb)(A:List Lk):Ah c A=pre c A A.length++(Ap c A A.length).Aa:=by
 have:=Bw c A A.length (Nat.le_refl _);rw [List.drop_length] at this;rw [this];simp [rest]
theorem Lh(c:Sb)(A:List Lk)(p:Lk)(B:List Lk):pre c (A++p::B) (A.length+1)=pre c A A.length++((Ap c A A.length).Aa++ [p.1]):=by
 induction A generalizing c with
 |nil=>cases B<;>simp [pre,Ap]
 |cons q A ih=>
  show c.Aa++q.1::pre q.2 (A++p::B) (A.length+1)=c.Aa++q.1::pre q.2 A A.length++_
  rw [ih q.2];simp [Ap]
theorem Fz{l:List Lk}(h:i<l.length): ∃A m d B,l=A++(m,d)::B/\A.length=i:=
 ⟨l.take i,l[i].1,l[i].2,l.drop (i+1),by rw [show(l[i].1,l[i].2)=l[i] from rfl,<-List.drop_eq_getElem_cons h,List.take_append_drop],by rw [List.length_take];omega⟩
def rep(c:Sb)(A:List Lk)(L:Sb)(X:List Lk):Sb × List Lk:=((AM c A A.length L).1,(AM c A A.length L).2++X)
section
variable {c:Sb} {A:List Lk} {L:Sb} {X:List Lk}
theorem Hp:(rep c A L X).2.length=A.length+X.length:=by
 unfold rep;rw [List.length_append,CR c A A.length L (Nat.le_refl _)]
theorem Oc:Ah (rep c A L X).1 (rep c A L X).2=pre c A A.length++(L.Aa++rest X):=by
 have h:=Ew c A A.length L (Nat.le_refl _);rw [List.drop_length] at h;unfold rep Ah at*;rw [K4,<-List.append_assoc,h];simp [rest]
theorem Kh(he:L.h=(Ap c A A.length).h):(rep c A L X).1.h::(rep c A L X).2.map (·.2.h)=(c.h::A.map (·.2.h))++X.map (·.2.h):=by
 have h:=EX c A A.length L (Nat.le_refl _) he;unfold rep;rw [<-h];simp
theorem PJ:(rep c A L X).2.map (·.1)=A.map (·.1)++X.map (·.1):=by
 have h:=DY c A A.length L (Nat.le_refl _);unfold rep;rw [List.map_append,h]
theorem ML(x:Nat):(Ax (rep c A L X).1 (rep c A L X).2).count x+(Ap c A A.length).ns.count x=(Ax c A).count x+L.ns.count x+(X.flatMap λp=>p.2.ns).count x:=by
 have h:=Gf c A A.length L x (Nat.le_refl _);have e:Ax (rep c A L X).1 (rep c A L X).2=Ax (AM c A A.length L).1 (AM c A A.length L).2++X.flatMap λp=>p.2.ns:=by
  unfold rep Ax;dsimp only;rw [List.flatMap_append,<-List.append_assoc]
 rw [e,List.count_append];omega
theorem FG: ∀(c:Sb) (A:List Lk) (k:Nat) (L:Sb),k<=A.length->Ap (AM c A k L).1 (AM c A k L).2 k=L/\pre (AM c A k L).1 (AM c A k L).2 k=pre c A k
 |c,A,0,L,_=>by cases A<;>exact⟨rfl,rfl⟩
 |c,[],k+1,L,h=>absurd h (by simp)
 |c,p::A,k+1,L,h=>by
  obtain⟨h1,d⟩:=FG p.2 A k L (by simpa using h);exact⟨h1,by simp only [AM,pre,d]⟩
theorem Re:Ap (rep c A L X).1 (rep c A L X).2 A.length=L:=by
 unfold rep;rw [DO _ _ _ _ (by rw [CR c A A.length L (Nat.le_refl _)];exact Nat.le_refl _)];exact(FG c A A.length L (Nat.le_refl _)).1
theorem Ru:pre (rep c A L X).1 (rep c A L X).2 A.length=pre c A A.length:=by
 unfold rep;rw [IP _ _ _ _ (by rw [CR c A A.length L (Nat.le_refl _)];exact Nat.le_refl _)];exact(FG c A A.length L (Nat.le_refl _)).2
theorem V2{p:Lk}{B:List Lk}:Ap (rep c A L (p::B)).1 (rep c A L (p::B)).2 (A.length+1)=p.2:=by
 unfold rep;have h:=CR c A A.length L (Nat.le_refl _);have:=DS (AM c A A.length L).1 (AM c A A.length L).2 p B;rw [h] at this;exact this
theorem VE{p:Lk}{B:List Lk}:pre (rep c A L (p::B)).1 (rep c A L (p::B)).2 (A.length+1)=pre c A A.length++(L.Aa++ [p.1]):=by
 unfold rep;have h:=CR c A A.length L (Nat.le_refl _);have d:=Lh (AM c A A.length L).1 (AM c A A.length L).2 p B;rw [h] at d
 show pre (AM c A A.length L).1 ((AM c A A.length L).2++p::B) (A.length+1)=_
 rw [d,(FG c A A.length L (Nat.le_refl _)).1,(FG c A A.length L (Nat.le_refl _)).2]
end
theorem MG{R R1:Zr}{a lo:Nat}{c:Sb}{A:List Lk}{L:Sb}{X:List Lk}(d:(Ax c A).Nodup)(I:At R t a lo c)(J: ∀p∈A,At R t a lo p.2)(O: ∀z,z∈Ax c A->z∉(Ap c A A.length).ns->R1 z=R z)(U:At R1 t a lo L)(V: ∀p∈X,At R1 t a lo p.2):
 At R1 t a lo (rep c A L X).1/\ ∀p∈(rep c A L X).2,At R1 t a lo p.2:=by
 have h:=Gj (R1:=R1) (a:=a) (lo:=lo) (Nat.le_refl A.length) d I J O U;refine⟨h.1,λp hp=> ?_⟩;rcases List.mem_append.1 hp with hp|hp
 . exact h.2 p hp
 . exact V p hp
def AV(c:Sb)(l:List Lk)(sz:Nat):BN:=⟨l.map (·.1.kh),l.map (·.1.vh),c.h::l.map (·.2.h),sz⟩
theorem Ww{c d :Sb}{l l' :List Lk}(h1:l.map (·.1)=l'.map (·.1))(I:c.h::l.map (·.2.h)=d.h::l'.map (·.2.h)):AV c l sz=AV d l' sz:=by
 unfold AV;rw [Fp,Fq,h1,I,<-Fp,<-Fq]
theorem VR(c:Sb)(l:List Lk):AV c l (Ah c l).length=Aj c l:=rfl
theorem Xr{c:Sb}{l:List Lk}(h1:1<=(Ah c l).length)(d:(Ah c l).length<18446744073709551616):(Aj c l).less=AV c l ((Ah c l).length-1):=by
 unfold BN.less Aj AV;simp only [BN.mk.injEq,true_and];omega
theorem R6{c:Sb}{l:List Lk}(h:(Aj c l).Fits t):(AV c l sz).Fits t:=h
theorem MS{c:Sb}{A:List Lk}{L D D' :Sb}{m':It}{B:List Lk}(h1:L.h=(Ap c A A.length).h)(d:D'.h=D.h):(AV c (A++(m,D)::B) sz).Dg A.length m'.kh m'.vh=AV (rep c A L ((m',D')::B)).1 (rep c A L ((m',D')::B)).2 sz:=by
 have I:(rep c A L ((m',D')::B)).2.map (·.1)=A.map (·.1)++m' ::B.map (·.1):=by rw [PJ];rfl
 have J:=Kh (X:=(m',D')::B) h1;unfold AV BN.Dg;rw [J,Fp (rep c A L _).2,Fq (rep c A L _).2,I];simp only [List.map_append,List.map_cons,List.map_map,BN.mk.injEq];refine⟨?_, ?_, ?_,trivial⟩
 . rw [List.set_append_right _ _ (by simp)];simp [Function.comp_def]
 . rw [List.set_append_right _ _ (by simp)];simp [Function.comp_def]
 . simp [d]
def Ygf{P}(h:P:=by
 rw [List.eraseIdx_append_of_length_le (by simp)];simp [Function.comp_def]):=h
theorem Xu{c:Sb}{A:List Lk}{M D:Sb}{B:List Lk}(h1:M.h=(Ap c A A.length).h):((AV c (A++(m,D)::B) sz).HN A.length).Jd (A.length+1)=AV (rep c A M B).1 (rep c A M B).2 sz:=by
 have d:(rep c A M B).2.map (·.1)=A.map (·.1)++B.map (·.1):=PJ;have I:=Kh (X:=B) h1;unfold AV BN.HN BN.Jd;rw [I,Fp (rep c A M _).2,Fq (rep c A M _).2,d];simp only [List.map_append,List.map_cons,List.map_map,BN.mk.injEq];refine⟨?_, ?_, ?_,trivial⟩
 . exact Ygf
 . exact Ygf
 . rw [List.eraseIdx_cons_succ,List.eraseIdx_append_of_length_le (by simp)];simp
def loc(c:Sb):List Lk->Nat->Nat × Bool
 | [],_=>(0,false)
 |p::l,j=>if j<c.Aa.length then (0,false) else if j=c.Aa.length then (0,true) else ((loc p.2 l (j-c.Aa.length-1)).1+1,(loc p.2 l (j-c.Aa.length-1)).2)
theorem K0: ∀(c:Sb) (l:List Lk) (k j:Nat),k<=l.length->j<(Ap c l k).Aa.length->loc c l ((pre c l k).length+j)=(k,false)
 |c,[],k,j,hk,hj=>by
  obtain rfl:k=0:=by simpa using hk
  rfl
 |c,p::l,0,j,hk,hj=>by
  show(if 0+j<c.Aa.length then _ else _)=_
  rw [if_pos (by rw [Nat.zero_add];exact hj)]
 |c,p::l,k+1,j,hk,hj=>by
  have d:=K0 p.2 l k j (by simpa using hk) hj;have e:(pre c (p::l) (k+1)).length+j-c.Aa.length-1=(pre p.2 l k).length+j:=by simp only [pre,List.length_append,List.length_cons];omega
  unfold loc;rw [e,d,if_neg (by simp only [pre,List.length_append,List.length_cons];omega),if_neg (by simp only [pre,List.length_append,List.length_cons];omega)]
theorem RF: ∀(c:Sb) (l:List Lk) (k:Nat),k<l.length->loc c l ((pre c l k).length+(Ap c l k).Aa.length)=(k,true)
 |c,[],k,hk=>absurd hk (by simp)
 |c,p::l,0,hk=>by
  show(if 0+c.Aa.length<c.Aa.length then _ else if 0+c.Aa.length=c.Aa.length then _ else _)=_
  rw [if_neg (by omega),if_pos (by omega)]
 |c,p::l,k+1,hk=>by
  have d:=RF p.2 l k (by simpa using hk);have e:(pre c (p::l) (k+1)).length+(Ap c (p::l) (k+1)).Aa.length-c.Aa.length-1=(pre p.2 l k).length+(Ap p.2 l k).Aa.length:=by simp only [pre,Ap,List.length_append,List.length_cons];omega
  unfold loc;rw [e,d,if_neg (by simp only [pre,List.length_append,List.length_cons];omega),if_neg (by simp only [pre,List.length_append,List.length_cons];omega)]
theorem PC: ∀(c:Sb) (l:List Lk) (j:Nat),j<(Ah c l).length->(∃k d,k<=l.length/\d <(Ap c l k).Aa.length/\j=(pre c l k).length+d /\loc c l j=(k,false))\/(∃k,k<l.length/\j=(pre c l k).length+(Ap c l k).Aa.length/\loc c l j=(k,true))
 |c,[],j,h=> .inl ⟨0,j,Nat.le_refl _,by simpa [Ah,rest,Ap] using h,by simp [pre],rfl⟩
 |c,p::l,j,h=>by
  rw [BW,List.length_append,List.length_cons] at h;by_cases h1:j<c.Aa.length
  . exact .inl ⟨0,j,Nat.zero_le _,h1,by simp [pre],by unfold loc;rw [if_pos h1]⟩
  . by_cases I:j=c.Aa.length
    . exact .inr ⟨0,by simp,by simp [pre,Ap,I],by unfold loc;rw [if_neg h1,if_pos I]⟩
    . rcases PC p.2 l (j-c.Aa.length-1) (by omega) with ⟨k,d,g1,g2,g3,g4⟩|⟨k,g1,g3,g4⟩
      . refine .inl ⟨k+1,d,by simpa using g1,g2, ?_,by unfold loc;rw [if_neg h1,if_neg I,g4]⟩
        simp only [pre,List.length_append,List.length_cons];omega
      . refine .inr ⟨k+1,by simpa using g1, ?_,by unfold loc;rw [if_neg h1,if_neg I,g4]⟩
        simp only [pre,Ap,List.length_append,List.length_cons];omega
structure P1(g:Wh)(T:List It->Nat->Prop):Prop where
 sub: ∀(A B C:List It) (j:Nat),T (A++(B++C)) (A.length+j)->j<B.length->T B j
 leaf: ∀(R:Zr) (Aa:List It) (j:Nat),(∀i∈Aa,i.At R)->AY (AI Aa)->T Aa j->j<Aa.length->g R (Aq Aa)=(j,true)
 inner: ∀(R:Zr) (c:Sb) (l:List Lk) (j:Nat),(∀i∈Ah c l,i.At R)->AY (AI (Ah c l))->(∀s∈ET c l,s.Aa≠ [])->T (Ah c l) j->j<(Ah c l).length->g R (Aj c l)=loc c l j
theorem M9:P1 Cu (λ_ j=>j=0):=by
 refine⟨λA B C j h _=>by omega,λR Aa j _ _ h d=> ?_,λR c l j _ _ hs h d=> ?_⟩
 . subst h
   unfold Cu Aq;simp;omega
 . subst h
   have h0:c.Aa≠ []:=hs c (by simp [ET]);have I:0<c.Aa.length:=List.length_pos_iff.2 h0;have:=K0 c l 0 0 (Nat.zero_le _) (by cases l<;>exact I)
   rw [show(pre c l 0).length+0=0 by cases l<;>rfl] at this
   rw [this];simp [Cu,Aj]
theorem NL:P1 Ci (λAa j=>j+1=Aa.length):=by
 refine⟨λA B C j h d=>by simp only [List.length_append] at h;omega,λR Aa j _ _ h d=> ?_,λR c l j _ _ hs h d=> ?_⟩
 . unfold Ci Aq
   simp;omega
 . have J:Ap c l l.length∈ET c l:=by
    rcases U4 c l l.length with e|⟨p,hp,e⟩
    . rw [e];simp [ET]
    . rw [e];exact List.mem_cons_of_mem _ (List.mem_map.2 ⟨p,hp,rfl⟩)
   have U:0<(Ap c l l.length).Aa.length:=List.length_pos_iff.2 (hs _ J);have I:=K0 c l l.length ((Ap c l l.length).Aa.length-1) (Nat.le_refl _) (by omega);have O:=congrArg List.length (Mv c l);rw [List.length_append] at O;rw [show(pre c l l.length).length+((Ap c l l.length).Aa.length-1)=j by omega] at I;rw [I];simp [Ci,Aj]
theorem I1(I:AY (AI Aa))(J:j<Aa.length){key:ByteArray}(d:Aa[j].k=key):AH (AI Aa) key=j/\Bb Aa key=some Aa[j]:=by
 have e:Aa=Aa.take j++Aa[j]::Aa.drop (j+1):=by rw [<-List.drop_eq_getElem_cons J,List.take_append_drop]
 generalize hx:Aa[j]=x at*;have U:(Aa.take j).length=j:=by rw [List.length_take];omega
 generalize Aa.take j=A at*;generalize Aa.drop (j+1)=B at*;subst e;have O:=UU I;rw [Br,CQ] at I ⊢;constructor
 . rw [C3,HX (IV I (by rw [show x.pr.1=key from d,(Cp.2 rfl:Tx.cmp key key=0)];omega)),Eu (l:=x.pr::AI B),Bn]
   . omega
   . intro p hp
     rcases List.mem_cons.1 hp with rfl|hp
     . rw [show x.pr.1=key from d,(Cp.2 rfl:Tx.cmp key key=0)];omega
     . exact Ki I (by rw [show x.pr.1=key from d,(Cp.2 rfl:Tx.cmp key key=0)];omega) p hp
 . rw [D7,Es (λi hi=>by rw [<-d];exact O.1 i hi),Option.none_or]
   simp [Bb,d]
theorem L5(d:AY (AI Aa))(hi:i<Aa.length)(I:j<Aa.length)(h:Aa[i].k=Aa[j].k):i=j:=by
 have h1:=(I1 d hi (key:=Aa[j].k) h).1;have J:=(I1 d I (key:=Aa[j].k) rfl).1;omega
def YL{P}(h:P:=by
 rw [List.getElem?_eq_getElem O] at ai;exact Option.some.inj ai):=h
theorem XP(key:ByteArray):P1 (He key) (λAa j=> ∃h:j<Aa.length,Aa[j].k=key):=by
 refine⟨λA B C j ⟨h1,U⟩ Z=>⟨Z, ?_⟩,λR Aa j J d ⟨h1,U⟩ Z=> ?_,λR c l j J d hs ⟨h1,U⟩ Z=> ?_⟩
 . rw [List.getElem_append_right (by omega)] at U
   rw [List.getElem_append_left (by omega)] at U
   simpa using U
 . obtain⟨aj,al⟩:=I1 d Z U
   unfold He
   show(DJ R (Aa.map (·.kh)) key,Gx R (Aa.map (·.kh)) key)=_
   rw [B4 J d,Ev J d,aj,al];rfl
 . obtain⟨af,am,ab,ac⟩:=Y3
   have ag:=Ev (key:=key) am af;rw [List.map_map] at ac ag;have ah:=(λi=>(Df (key:=key) af).2 i);generalize AH (AI (l.map (·.1))) key=k at ab ac ah;have ae:=ab.le;unfold He
   show(DJ R (l.map (·.1.kh)) key,Gx R (l.map (·.1.kh)) key)=_
   rw [show l.map (·.1.kh)=List.map ((·.kh) ∘ (·.1)) l from rfl,ac,ag];have hp:=Bw c l k ae
   cases V:Bb (l.map (·.1)) key with
   |some i=>
    obtain⟨g1,g2⟩:=ah i V;rw [List.getElem?_map] at g1;by_cases I:k<l.length
    . rw [List.getElem?_eq_getElem I] at g1
      simp only [Option.map_some,Option.some.injEq] at g1;have O:(pre c l k).length+(Ap c l k).Aa.length<(Ah c l).length:=by
       rw [hp,List.drop_eq_getElem_cons I,BU];simp
      have DF:(Ah c l)[(pre c l k).length+(Ap c l k).Aa.length]=l[k].1:=by
       have ai:(Ah c l)[(pre c l k).length+(Ap c l k).Aa.length]? =some l[k].1:=by
        rw [hp,List.getElem?_append_right (by omega),List.getElem?_append_right (by omega),List.drop_eq_getElem_cons I,BU];simp
       exact YL
      have:j=(pre c l k).length+(Ap c l k).Aa.length:=L5 d h1 O (by rw [U,DF,g1,g2]);rw [this,RF c l k I];rfl
    . exact Ydz
   |none=>
    have an:=Yra;have hg:=ab.gone d an;rw [(I1 d h1 U).2] at hg;have ao:=DH ae d;obtain⟨q1,ar⟩:=(Df ao).2 _ hg.symm;obtain⟨aq,au⟩:=List.getElem?_eq_some_iff.1 q1;have O:(pre c l k).length+AH (AI (Ap c l k).Aa) key<(Ah c l).length:=(by rw [hp];simp;omega);have DF:(Ah c l)[(pre c l k).length+AH (AI (Ap c l k).Aa) key]=(Ah c l)[j]:=by
     have ai:(Ah c l)[(pre c l k).length+AH (AI (Ap c l k).Aa) key]? =some (Ah c l)[j]:=by
      rw [<-q1]
      conv=>lhs;rw [hp]
      rw [List.getElem?_append_right (by omega),List.getElem?_append_left (by omega)];simp
     exact YL
    have:(pre c l k).length+AH (AI (Ap c l k).Aa) key=j:=L5 d O h1 (by rw [DF]);rw [<-this,K0 c l k _ ae aq];rfl
end Bt
namespace Bt
variable {h j k sz:Nat}{il:List It}{m:It}{nl:List Nat}
structure HR(R R' :Zr)(t a lo:Nat)(s:Sb)(j:Nat)(D:List Nat):Prop where
 tree: ∃ns',At R' t a lo ⟨s.h,s.Aa.eraseIdx j,ns'⟩/\ ∀x,ns'.count x+D.count x=s.ns.count x
 frame: ∀z,z∉s.ns->R' z=R z
 gone: ∀z∈D,R' z=none
section
variable {R R1 R2:Zr} {t a lo:Nat}
theorem T2{A B C:List It}(d:j<B.length):(A++(B++C)).eraseIdx (A.length+j)=A++(B.eraseIdx j++C):=by
 rw [List.eraseIdx_append_of_length_le (by omega),show A.length+j-A.length=j by omega,List.eraseIdx_append_of_lt_length d]
theorem descend(aw:BN.A1 t){d:Nat}{c:Sb}{l:List Lk}{D:List Nat}(J:k<=l.length)(ag:R2 h=some ((AV c l sz).wd t))(ah:(AV c l sz).Fits t)(ai:h∉Ax c l)(aj:(Ax c l).Nodup)
 (al:At R2 t a (t-1) c) (am: ∀p∈l,At R2 t a (t-1) p.2) (ae:j=(pre c l k).length+d) (an :d <(Ap c l k).Aa.length) (ax:sz+1=(Ah c l).length) (ao:HR R2 R1 t a (t-1) (Ap c l k) d D) (aq:lo<=l.length):
 ∃I,At R1 t (a+1) lo ⟨h,(Ah c l).eraseIdx j,I⟩/\ ∀x,I.count x+D.count x=(h::Ax c l).count x:=by
 obtain⟨⟨I,g1,g2⟩,g3,g4⟩:=ao;have O:=Gj (a:=a) (lo:=t-1) J aj al am (λz _ ar=>g3 z ar) g1;have hlen:=CR c l k ⟨(Ap c l k).h,(Ap c l k).Aa.eraseIdx d,I⟩ J;have Z:=EX c l k ⟨(Ap c l k).h,(Ap c l k).Aa.eraseIdx d,I⟩ J rfl;have aa:=Ew c l k ⟨(Ap c l k).h,(Ap c l k).Aa.eraseIdx d,I⟩ J;have ab:=DY c l k ⟨(Ap c l k).h,(Ap c l k).Aa.eraseIdx d,I⟩ J;have U:=λx=>Gf c l k ⟨(Ap c l k).h,(Ap c l k).Aa.eraseIdx d,I⟩ x J
 have V:Ah (AM c l k ⟨(Ap c l k).h,(Ap c l k).Aa.eraseIdx d,I⟩).1 (AM c l k ⟨(Ap c l k).h,(Ap c l k).Aa.eraseIdx d,I⟩).2=(Ah c l).eraseIdx j:=by
  rw [aa,ae]
  conv=>rhs;rw [Bw c l k J]
  rw [T2 an]
 have hle:((Ah c l).eraseIdx j).length=sz:=by
  have au:j<(Ah c l).length:=by rw [ae,Bw c l k J];simp;omega
  rw [List.length_eraseIdx,if_pos au];omega
 dsimp only at U;generalize AM c l k ⟨(Ap c l k).h,(Ap c l k).Aa.eraseIdx d,I⟩=cl at O hlen Z aa ab U V;obtain⟨ac,l'⟩:=cl;dsimp only at O hlen Z aa ab U V;have af:Aj ac l' =AV c l sz:=by
  rw [<-VR,V,hle];exact Ww ab Z
 refine⟨h::Ax ac l',⟨ac,l',V.symm,rfl,by rw [hlen];exact aq,⟨?_,by rw [af];exact ah⟩,O.1,O.2⟩,λx=> ?_⟩
 . rw [af,<-ag]
   exact g3 h λhm=>ai (D0 J hm)
 . have h1:=U x
   have ay:=g2 x;simp only [List.count_cons];omega
theorem FV(I:BN.A1 t)(J:1<=t-1){s:Sb}(h:At R t a (t-1) s):s.Aa≠ []:=by
 obtain⟨n,_,O,_,_,d⟩:=h.nd;intro e;rw [e,List.length_nil] at d;omega
structure Kf(R R1:Zr)(t a h:Nat)(c:Sb)(l:List Lk)(c2:Sb)(l2:List Lk)(k2 j2 j:Nat)(D1:List Nat)(lo:Nat):Prop where
 Aa:Ah c2 l2=Ah c l
 kle:k2<=l2.length
 pos:j=(pre c2 l2 k2).length+j2
 lt:j2<(Ap c2 l2 k2).Aa.length
 cnt: ∀x,(Ax c2 l2).count x+D1.count x=(Ax c l).count x
 c0:At R1 t a (t-1) c2
 l0: ∀p∈l2,At R1 t a (t-1) p.2
 Ap:At R1 t a t (Ap c2 l2 k2)
 frame: ∀z,z∉Ax c l->R1 z=R z
 gone: ∀z∈D1,R1 z=none
 fits:(Aj c2 l2).Fits t
 len:lo-1<=l2.length
def Ydb{P}(h:P:=by
 have h1:=aj z;have d:=List.count_pos_iff.2 I;exact List.count_pos_iff.1 (by omega)):=h
theorem Pd(au:BN.A1 t){g:Wh}{T:List It->Nat->Prop}(hw:P1 g T){f k2 d:Nat}{c c2:Sb}{l l2:List Lk}{D1:List Nat}(aw:Kf R R1 t a h c l c2 l2 k2 d j D1 lo)(ax:Rec R t h)(hh:h∉Ax c l)(am:(Ax c l).Nodup)(ay: ∀i∈Ah c l,i.At R)(an: ∀i∈Ah c l,∀z∈i.hs,z∉h::Ax c l)(az:AY (AI (Ah c l)))(aA:T (Ah c l) j)(aT:(Ah c l).length<18446744073709551616)(aB:R 0=none)(ao:0∉h::Ax c l)
 (aC: ∀(s:Sb) (j:Nat) (R:Zr),At R t a t s->R 0=none->s.ns.Nodup->(∀i∈s.Aa,i.At R)->(∀i∈s.Aa,∀z∈i.hs,z∉s.ns)->AY (AI s.Aa)->T s.Aa j->(O:j<s.Aa.length)->s.Aa.length<18446744073709551616-> ∃R' D,AP t f R s.h g=(R',D,(s.Aa[j].kh,s.Aa[j].vh))/\HR R R' t a (t-1) s j D)
 (O:j<(Ah c l).length):
 ∃R' D,AP.tkOn t h R1 (AV c2 l2 ((Ah c l).length-1)) D1 k2 (λR x=>AP t f R x g)=(R',D,((Ah c l)[j].kh,(Ah c l)[j].vh))/\HR R R' t (a+1) (lo-1) ⟨h,Ah c l,h::Ax c l⟩ j D:=by
 obtain⟨q1,J,af,V,aj,aD,aE,aF,Z,aG,aH,aI⟩:=aw;have ag: ∀z,z∈Ax c2 l2->z∈Ax c l:=λz I=>by
  exact Ydb
 have aa:h∉Ax c2 l2:=λhm=>hh (ag h hm)
 have aq:(Ax c2 l2).Nodup:=by
  rw [List.nodup_iff_count];intro x;have h1:=aj x;have ab:=List.nodup_iff_count.1 am x;omega
 have aJ: ∀z∈D1,z∉Ax c2 l2/\z∈Ax c l:=λz I=>by
  have h1:=aj z;have ab:=List.nodup_iff_count.1 am z;have aU:=List.count_pos_iff.2 I;exact⟨λhm=>by have:=List.count_pos_iff.2 hm;omega,List.count_pos_iff.1 (by omega)⟩
 obtain⟨ws,w1,w2⟩:=ax;have aK:R1 h=some ws:=(Z h hh).trans w1;have ar:(AV c2 l2 ((Ah c l).length-1)).Fits t:=aH;have aL:Bq R1 t h (AV c2 l2 ((Ah c l).length-1))=AT R1 h (some ((AV c2 l2 ((Ah c l).length-1)).wd t)):=B9 ar aK w2;obtain⟨R2,ah⟩:=Zx (AT R1 h (some ((AV c2 l2 ((Ah c l).length-1)).wd t)));have U: ∀z,z≠h->R2 z=R1 z:=λz I=>by rw [ah];exact As I
 have ac: ∀z,z∈(Ap c2 l2 k2).ns->z∈Ax c2 l2:=λz I=>D0 J I
 have al: ∀i,i∈(Ap c2 l2 k2).Aa->i∈Ah c l:=λi hi=>by rw [<-q1];exact Hj J hi
 have aM: ∀i∈Ah c l,∀z∈i.hs,R2 z=R z:=λi hi z I=>by
  have h1:=an i hi z I;simp only [List.mem_cons,not_or] at h1;rw [U z h1.1,Z z h1.2]
 have aN:At R2 t a t (Ap c2 l2 k2):=aF.congr λz I=>U z λe=>aa (by rw [<-e];exact ac z I)
 have ae:=Bw c2 l2 k2 J;rw [q1] at ae;have aO:T (Ap c2 l2 k2).Aa d:=by
  refine hw.sub (pre c2 l2 k2) _ (rest (l2.drop k2)) d ?_ V;rw [<-af,<-ae];exact aA
 obtain⟨R3,D,g1,g2⟩:=aC (Ap c2 l2 k2) d R2 aN (by rw [U 0 (λe=>ao (by rw [<-e];simp)),Z 0 (λhm=>ao (List.mem_cons_of_mem _ hm))];exact aB) (Ig J aq) (λi hi=>(ay i (al i hi)).congr λz I=>aM i (al i hi) z I)
  (λi hi z I hm=>an i (al i hi) z I (List.mem_cons_of_mem _ (ag z (ac z hm)))) (DH J (by rw [q1];exact az)) aO V (by
   have ai:=congrArg List.length ae;rw [List.length_append,List.length_append] at ai;omega)
 have aP:=EN c2 l2 k2 J;have aQ:(AV c2 l2 ((Ah c l).length-1)).kids.getD k2 0=(Ap c2 l2 k2).h:=by
  show(c2.h::l2.map (·.2.h)).getD k2 0=_
  rw [List.getD_eq_getElem?_getD,aP];rfl
 obtain⟨aR,g3,g4⟩:=descend (lo:=lo-1) au (h:=h) (sz:=(Ah c l).length-1) J (by rw [ah];exact AR _ _ _) ar aa aq (aD.congr λz I=>U z λe=>aa (by rw [<-e];exact List.mem_append.2 (.inl I))) (λp hp=>(aE p hp).congr λz I=>U z λe=>aa (by rw [<-e];exact C2 hp I)) af V (by rw [q1];omega) g2 aI;have aS:(Ah c l)[j]=(Ap c2 l2 k2).Aa[d]:=by
  have ai:(Ah c l)[j]? =some (Ap c2 l2 k2).Aa[d]:=by
   rw [ae,af,List.getElem?_append_right (by omega),show(pre c2 l2 k2).length+d-(pre c2 l2 k2).length=d by omega,List.getElem?_append_left V,List.getElem?_eq_getElem V]
  exact YL
 refine⟨R3,D1++D, ?_,⟨aR, ?_,λx=> ?_⟩,λz I=> ?_,λz I=> ?_⟩
 . unfold AP.tkOn
   rw [aL,<-ah,aQ];dsimp only;rw [g1,aS]
 . rw [q1] at g3;exact g3
 . have h1:=g4 x
   have ab:=aj x;simp only [List.count_cons,List.count_append] at h1 ⊢;omega
 . simp only [List.mem_cons,not_or] at I
   rw [g2.frame z λhm=>I.2 (ag z (ac z hm)),U z I.1,Z z I.2]
 . rcases List.mem_append.1 I with I|I
   . have h1:=aJ z I
     have ab:z≠h:=(λe=>hh (by rw [<-e];exact h1.2));rw [g2.frame z λhm=>h1.1 (ac z hm),U z ab];exact aG z I
   . exact g2.gone z I
theorem NR(c:Sb)(l:List Lk)(k x:Nat)(d:k<=l.length):(Ap c l k).ns.count x<=(Ax c l).count x:=by
 have:=Gf c l k ⟨0,[],[]⟩ x d;simp at this;omega
theorem Cm{c:Sb}{l:List Lk}(d:k<=l.length):Bk R t (AV c l sz) k=decide (t<=(Ag R t (Ap c l k).h).keys.length):=by
 unfold Bk;have I:=EN c l k d;have J:(AV c l sz).kids.getD k 0=(Ap c l k).h:=by
  show(c.h::l.map (·.2.h)).getD k 0=_
  rw [List.getD_eq_getElem?_getD,I];rfl
 rw [J,decide_eq_true (by show k<(c.h::l.map (·.2.h)).length;simp;omega),Bool.true_and]
theorem SV{c:Sb}{l:List Lk}(d:l.length<k):Bk R t (AV c l sz) k=false:=by
 unfold Bk;rw [decide_eq_false (by show¬k<(c.h::l.map (·.2.h)).length;simp;omega),Bool.false_and]
theorem Q4{c d :Sb}{l l' :List Lk}(I:(Aj c l).Fits t)(h1:l'.length=l.length)(J: ∀x,x∈d.h::l'.map (·.2.h)->x∈c.h::l.map (·.2.h)):(Aj d l').Fits t:=CB (by
 have:=I.1;rw [(DN c l).1] at this;omega) (λhm=>by
 rcases I.2.2 with h|h
 . exact absurd h (by simp [Aj])
 . exact h.2 (J 0 hm))
theorem Wv {c d :Sb}{l l' :List Lk}(I:(Aj c l).Fits t)(h1:l'.length<=l.length)(J: ∀x,x∈d.h::l'.map (·.2.h)->x∈c.h::l.map (·.2.h)):(Aj d l').Fits t:=CB (by
 have:=I.1;rw [(DN c l).1] at this;omega) (λhm=>by
 rcases I.2.2 with h|h
 . exact absurd h (by simp [Aj])
 . exact h.2 (J 0 hm))
def Yds{P}(h:P:=by
 simp only [List.flatMap_cons,List.count_append,Ax] at g1 ⊢;omega):=h
def Yi{P}(h:P:=by
 have I:Ax c (A++(m,d)::B)=Ax c A++Ax d B:=El c A m d B;exact I):=h
def Yns{P}(h:P:=by
 have d: ∀z,z∈(Ap c A A.length).ns->z∈Ax c A:=λz I=>D0 (Nat.le_refl _) I
 exact d):=h
theorem NU{c d:Sb}{A B:List Lk}{m':It}{id:List It}{nd:List Nat}(O:(Ax c (A++(m,d)::B)).Nodup)(ab:At R t a (t-1) c)(U: ∀p∈A++(m,d)::B,At R t a (t-1) p.2)(ac:(Aj c (A++(m,d)::B)).Fits t)
 (ae: ∀x,nl.count x+nd.count x=(Ap c A A.length).ns.count x+d.ns.count x) (J: ∀z,z∉(Ap c A A.length).ns->z∉d.ns->R1 z=R z)
 (h1:At R1 t a (t-1) ⟨(Ap c A A.length).h,il,nl⟩) (af:At R1 t a (t-1) ⟨d.h,id,nd⟩) (c2:Sb) (l2:List Lk) (V:(c2,l2)=rep c A ⟨(Ap c A A.length).h,il,nl⟩ ((m',⟨d.h,id,nd⟩)::B)):
 (∀x,(Ax c2 l2).count x=(Ax c (A++(m,d)::B)).count x)/\At R1 t a (t-1) c2/\(∀p∈l2,At R1 t a (t-1) p.2)/\(∀z,z∉Ax c (A++(m,d)::B)->R1 z=R z)/\(Aj c2 l2).Fits t/\l2.length=(A++(m,d)::B).length/\
 Ah c2 l2=pre c A A.length++(il++m' ::(id++rest B))/\Ap c2 l2 A.length=⟨(Ap c A A.length).h,il,nl⟩/\Ap c2 l2 (A.length+1)=⟨d.h,id,nd⟩/\pre c2 l2 A.length=pre c A A.length/\pre c2 l2 (A.length+1)=pre c A A.length++(il++ [m']):=by
 have ag:c2=(rep c A ⟨(Ap c A A.length).h,il,nl⟩ ((m',⟨d.h,id,nd⟩)::B)).1:=congrArg Prod.fst V;have ah:l2=(rep c A ⟨(Ap c A A.length).h,il,nl⟩ ((m',⟨d.h,id,nd⟩)::B)).2:=congrArg Prod.snd V;subst ag ah;have ai:=Yi;rw [ai] at O ⊢;obtain⟨n1,n2,n3⟩:=List.nodup_append.1 O;have aj:(d.ns++B.flatMap λp=>p.2.ns).Nodup:=n2;obtain⟨n5,n6,n7⟩:=List.nodup_append.1 aj;have Z:=Yns;have aa:=MG (R:=R) (R1:=R1) (a:=a) (lo:=t-1) (L:=⟨(Ap c A A.length).h,il,nl⟩) (X:=(m',⟨d.h,id,nd⟩)::B) n1 ab (λp hp=>U p (List.mem_append.2 (.inl hp))) (λz I al=>J z al λhm=>n3 z I z (List.mem_append.2 (.inl hm)) rfl) h1 (λp hp=>by
  rcases List.mem_cons.1 hp with rfl|hp
  . exact af
  . exact(U p (by simp [hp])).congr λz I=>J z (λhm=>n3 z (Z z hm) z (List.mem_append.2 (.inr (List.mem_flatMap.2 ⟨p,hp,I⟩))) rfl) (λhm=>n7 z hm z (List.mem_flatMap.2 ⟨p,hp,I⟩) rfl))
 refine⟨λx=> ?_,aa.1,aa.2,λz I=>J z (λhm=>I (List.mem_append.2 (.inl (Z z hm)))) (λhm=>I (List.mem_append.2 (.inr (List.mem_append.2 (.inl hm))))), ?_, ?_, ?_,Re,V2,Ru,VE⟩
 . have g1:=ML (c:=c) (A:=A) (L:=⟨(Ap c A A.length).h,il,nl⟩) (X:=(m',⟨d.h,id,nd⟩)::B) x
   have g2:=ae x;rw [List.count_append];exact Yds
 . refine Q4 ac (by rw [Hp];simp) λx hx=> ?_
   rw [Kh (by rfl)] at hx
   simpa using hx
 . rw [Hp];simp
 . rw [Oc];rfl
theorem TK{c d:Sb}{A B:List Lk}(O:(Ax c (A++(m,d)::B)).Nodup)(ab:At R t a (t-1) c)(U: ∀p∈A++(m,d)::B,At R t a (t-1) p.2)(ac:(Aj c (A++(m,d)::B)).Fits t)
 (ae: ∀x,nl.count x+ [d.h].count x=(Ap c A A.length).ns.count x+d.ns.count x) (J: ∀z,z∉(Ap c A A.length).ns->z∉d.ns->R1 z=R z)
 (h1:At R1 t a (t-1) ⟨(Ap c A A.length).h,il,nl⟩) (c2:Sb) (l2:List Lk) (V:(c2,l2)=rep c A ⟨(Ap c A A.length).h,il,nl⟩ B):
 (∀x,(Ax c2 l2).count x+ [d.h].count x=(Ax c (A++(m,d)::B)).count x)/\At R1 t a (t-1) c2/\(∀p∈l2,At R1 t a (t-1) p.2)/\(∀z,z∉Ax c (A++(m,d)::B)->R1 z=R z)/\(Aj c2 l2).Fits t/\l2.length+1=(A++(m,d)::B).length/\
 Ah c2 l2=pre c A A.length++(il++rest B)/\Ap c2 l2 A.length=⟨(Ap c A A.length).h,il,nl⟩/\pre c2 l2 A.length=pre c A A.length:=by
 have af:c2=(rep c A ⟨(Ap c A A.length).h,il,nl⟩ B).1:=congrArg Prod.fst V;have ag:l2=(rep c A ⟨(Ap c A A.length).h,il,nl⟩ B).2:=congrArg Prod.snd V;subst af ag;have ah:=Yi;rw [ah] at O ⊢;obtain⟨n1,n2,n3⟩:=List.nodup_append.1 O;have ai:(d.ns++B.flatMap λp=>p.2.ns).Nodup:=n2;obtain⟨n5,n6,n7⟩:=List.nodup_append.1 ai;have Z:=Yns
 have aa:=MG (R:=R) (R1:=R1) (a:=a) (lo:=t-1) (L:=⟨(Ap c A A.length).h,il,nl⟩) (X:=B) n1 ab (λp hp=>U p (List.mem_append.2 (.inl hp))) (λz I aj=>J z aj λhm=>n3 z I z (List.mem_append.2 (.inl hm)) rfl) h1 (λp hp=>
  (U p (by simp [hp])).congr λz I=>J z (λhm=>n3 z (Z z hm) z (List.mem_append.2 (.inr (List.mem_flatMap.2 ⟨p,hp,I⟩))) rfl) (λhm=>n7 z hm z (List.mem_flatMap.2 ⟨p,hp,I⟩) rfl))
 refine⟨λx=> ?_,aa.1,aa.2,λz I=>J z (λhm=>I (List.mem_append.2 (.inl (Z z hm)))) (λhm=>I (List.mem_append.2 (.inr (List.mem_append.2 (.inl hm))))), ?_, ?_,Oc,Re,Ru⟩
 . have g1:=ML (c:=c) (A:=A) (L:=⟨(Ap c A A.length).h,il,nl⟩) (X:=B) x
   have g2:=ae x;rw [List.count_append];simp only [List.count_append,Ax] at g1 ⊢;omega
 . refine Wv ac (by rw [Hp];simp) λx hx=> ?_
   rw [Kh (by rfl)] at hx;simp only [List.mem_append,List.mem_cons,List.map_append,List.map_cons] at hx ⊢;rcases hx with (h|h)|h
   . exact .inl h
   . exact .inr (.inl h)
   . exact .inr (.inr (.inr h))
 . rw [Hp];simp;omega
theorem MF(c:Sb)(A:List Lk)(m:It)(d:Sb)(B:List Lk):Ah c (A++(m,d)::B)=pre c A A.length++((Ap c A A.length).Aa++m::(d.Aa++rest B)):=by
 rw [CS,Mv];simp [Ah]
end
end Bt
