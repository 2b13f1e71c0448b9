/- A part. -/
import Derived.Test.YtiopopoohglepaaGreatDoorPMxlc
import Derived.Deep.CutBlock
set_option linter.all false
set_option maxRecDepth 100000
set_option maxHeartbeats 8000000
namespace Go.Proofs.YtiopopoohglepaaGreatDoor
open Go.Proofs.Tryz
open Go.RowKit Go.Shelf
variable {R:Zr}
def PQ(w:World)(s:Nat)(F:Nat->Prop)(P q most last G:Nat)(p:(Zr) × List Nat × (Nat × Nat))(e:Ending)(w' :World):Prop:=
 ∃(F' :Nat->Prop) (H' :List Nat),e= .returned (.agg #[.int .u64 p.2.2.1, .int .u64 p.2.2.2])/\(p.2.2.1<18446744073709551616/\p.2.2.2<18446744073709551616)/\Ah w' s F' p.1 H' P q most last G/\A6 p.1/\Ad w F w' F'
theorem Gz{t:Nat}{g:Wh}{f x k:Nat}{n:BN}{b:Bool}(I:Af R t x=n)(hg:g R n=(k,b)):AR t (f+1) R x g=AR.tkGo t R x n k b (λR x=>AR t f R x g) (λR x=>AR t f R x Ci) (λR x=>AR t f R x Cv):=by
 subst I
 conv=>lhs;unfold AR
 rw [hg]
structure TC(w wc:World)(s:Nat)(F:Nat->Prop)(P q most last G M bn t x:Nat)(R2:Zr)(F2:Nat->Prop)(H2:List Nat)(n2:BN)(v2:V3)(k2:Nat)(D2:List Nat)(rec:(Zr)->Nat->(Zr) × List Nat × (Nat × Nat))(p:(Zr) × List Nat × (Nat × Nat)):Prop where
 st:Ah wc s F2 R2 H2 P q most last G
 nb:Dz wc F2 M bn n2 v2
 Aq:Ad w F wc F2
 sh:A6 R2
 lt:k2<n2.kids.length
 l1:n2.keys.length<=1000
 l2:n2.Ab.length<=1000
 l3:n2.kids.length<=1000
 mod:p=AR.tkOn t x R2 n2 D2 k2 rec
theorem Ka(R:Zr)(t:Nat)(n:BN)(k:Nat):(BO R t n k).2.keys.length<=n.keys.length/\(BO R t n k).2.Ab.length<=n.Ab.length/\(BO R t n k).2.kids.length<=n.kids.length:=
 ⟨List.length_eraseIdx_le _ _,List.length_eraseIdx_le _ _,List.length_eraseIdx_le _ _⟩
theorem Wv(R:Zr)(t:Nat)(n:BN)(k:Nat):(Bw R t n k).2.1.keys.length<=n.keys.length/\(Bw R t n k).2.1.Ab.length<=n.Ab.length/\(Bw R t n k).2.1.kids.length<=n.kids.length:=by
 unfold Bw;have hs: ∀(a b c:Nat),(n.Dm a b c).keys.length<=n.keys.length/\(n.Dm a b c).Ab.length<=n.Ab.length/\(n.Dm a b c).kids.length<=n.kids.length:=λa b c=>by simp [BN.Dm]
 split
 . exact⟨Nat.le_refl _,Nat.le_refl _,Nat.le_refl _⟩
 split
 . exact hs _ _ _
 split
 . exact hs _ _ _
 split
 . exact Ka R t n _
 split
 . exact Ka R t n _
 . exact⟨Nat.le_refl _,Nat.le_refl _,Nat.le_refl _⟩
section
variable {s:Nat} {P q most last G t:Nat}
theorem Yw{w:World}{F:Nat->Prop}{N nn:Nat}{v:Value}{g:Wh}(h:Rd N w s R nn)(Z:A6 R)(aa:JF w s F v g):
 ∃f O,v= .func (.func f) #[] O/\(∀args W,(callFunc f args).run prog W= .ok (.enter f args) W)/\ ∀W,Below w.heap.size w W-> ∀(FF:Nat->Prop) (V:Value) (n:BN),C3 W FF V n->(∀x∈n.keys,x<18446744073709551616)->Calls prog f (#[V]++O) W λe w' =>e= .returned (.tuple #[.int .i64 ((g R n).1:Nat), .bool (g R n).2])/\Below W.heap.size W w' :=by
 rcases aa with ⟨rfl,rfl⟩|⟨rfl,rfl⟩|⟨ab,bt,key,rfl,rfl,h1,U,ac,ae⟩
 . exact⟨_,_,rfl,(λ_ _=>by go_simp),λW I FF V n J _=>S2 R J⟩
 . exact⟨_,_,rfl,(λ_ _=>by go_simp),λW I FF V n J _=>Rz R J⟩
 . exact⟨_,_,rfl,(λ_ _=>by go_simp),λW I FF V n J hx=>WK (t:=0) (h.below I) Z J hx key ((I.cell (p:=⟨ab,0,none⟩) (Am h1)).trans h1) ((I.cell (p:=⟨bt,0,none⟩) (Am U)).trans U)⟩
def Yby{P}(h:P:=by
 rw [aC,aN];have:=An.new (w.alloc (Obj.cells #[.pointer (some ⟨s,0,none⟩), .int .i64 t] 77)) 31 [.int .u64 0, .int .u64 0]
 rwa [show(w.alloc (Obj.cells #[.pointer (some ⟨s,0,none⟩), .int .i64 t] 77)).heap.size=w.heap.size+1 by simp] at this):=h
def Ydz{P}(h:P:=by
 exact⟨_,_,rfl,⟨(by decide:(0:Nat)<18446744073709551616),(by decide:(0:Nat)<18446744073709551616)⟩,U.1,aG,U.2⟩):=h
def Yme{P}(h:P:=by
 have V:An aq ai 77 [.pointer (some ⟨s,0,none⟩), .int .i64 t]:=by rw [aC,aB];exact(An.new w 77 [.pointer (some ⟨s,0,none⟩), .int .i64 t]).alloc _
 exact V):=h
def Yml{P}(h:P:=by
 have U:=Zh (Df aO (Ad.below (F:=F) aM) O.2.1 ay ⟨_,rfl,λp I=>by cases I⟩ (aL _ O.2.1) O.2.2 (.int .u64 0) (.int .u64 0));exact U):=h
def Ypi{P}(h:P:=by
 have I:=aL.out _ O.1;have J:=aL.out _ O.2.1;exact And.intro I J):=h
theorem Uh(a5:BN.A0 t): ∀(f:Nat) {w:World} {F:Nat->Prop} {R:Zr} {H:List Nat} (J:Ah w s F R H P q most last G) (aG:A6 R) {v:Value} {g:Wh} (ar:JF w s F v g) (x:Nat) (hx:x<18446744073709551616) (d:Nat) (hd:d+f=40),
 Calls prog 71 #[.agg #[.pointer (some ⟨s,0,none⟩), .int .i64 t], .int .u64 (x:Nat),v, .int .i64 d] w (PQ w s F P q most last G (AR t f R x g)):=by
 intro f
 induction f using Nat.strongRecOn with
 |ind f ih=>
  intro w F R H J aG v g ar x hx d hd;have eY:=J.FP;obtain⟨fW,nn,cc⟩: ∃N nn,Rd N w s R nn:=by
   obtain⟨nn,a3,-⟩:=J.rd;exact⟨_,nn,a3⟩
  obtain⟨fX,fY,rfl,a0,aK⟩:=Yw cc aG ar;obtain⟨aq,aC⟩:=Zx ((w.alloc (Obj.cells #[.pointer (some ⟨s,0,none⟩), .int .i64 t] 77)).alloc (Obj.cells #[.int .u64 0, .int .u64 0] 31));obtain⟨ai,aB⟩:=Zx w.heap.size;obtain⟨aI,aN⟩:=Zx (w.heap.size+1);have ab:=Xa;have V:=Yme;have au:An aq aI 31 [.int .u64 0, .int .u64 0]:=by
   exact Yby
  have ef:=Zh (F9 (cc.below ab) t a5 x hx);obtain⟨n,aF⟩:=Zx (Af R t x);have cd:=QG;obtain⟨bC,af,a7⟩:=EA;obtain⟨bS,eg,eh⟩:=OT;obtain⟨ei,ce,a6⟩:=Xq;have aL:Hid (∀z,w.heap.size<=z-> ¬F z):=Zh (λz fZ dj=>by have:=J.lt dj;omega);have eZ:=J.Da;have O:=Ykp;have bT:=Zh (show s<aq.heap.size/\1<aq.heap.size from⟨Nat.lt_of_lt_of_le eY ab.size,Nat.lt_of_lt_of_le eZ ab.size⟩);clear aC aB aN J ab au ar aK aF a0;obtain⟨c4,aX⟩:=AX V;rw [cd.1,cd.2.1] at c4 aX;clear V;go_enter func71,ntmps71;go_wp2_with fail;rw [<-cd.1,<-cd.2.2,<-cd.2.1];refine ef.mono ?_;rintro e w1 ⟨v1,v2,v3,rfl,bs,cH⟩;rw [<-ce.out] at bs ⊢;obtain⟨bU,k1,rfl⟩:=Ae bs.r1;obtain⟨bV,k2,rfl⟩:=Ae bs.r2;obtain⟨bk,bm,rfl⟩:=Ae bs.r3;have dk:n.Ok:=by rw [ce.out];exact(MR cc a6 x).1
  obtain⟨dl,cI⟩:=Zx (w1.alloc (Obj.cells #[.slice bU n.keys.length k1, .slice bV n.Ab.length k2, .slice bk n.kids.length bm, .int .u64 n.size] 100));obtain⟨aT,dm⟩:=Zx w1.heap.size;have dn:Dz dl F aq.heap.size aT n (.slice bU n.keys.length k1, .slice bV n.Ab.length k2, .slice bk n.kids.length bm):=by
   rw [cI,dm];exact Dz.new (bC.below af) bs cH.size dk
  have dp:Below aq.heap.size aq dl:=by rw [cI];exact cH.trans ((Below.refl _ w1).alloc (Nat.le_refl _) _ |>.mono cH.size)
  clear c4 aX;have hlen:=(MR cc a6 x).2;rw [<-ce.out] at hlen;have hA:=Zh (eh dl (af.trans (dp.mono af.size)) F _ n (dn.MD (by omega) (by omega) (by omega)) dk.keys);have ej:=Zh dn;have ae:=Zh dp;have aY:=Zh hlen;have ek:=Zh (And.intro cI dm);clear dn dp eh bs cH dk hlen cI dm cc;go_wp2_with fail;rw [ei.out,Oper.upon_enter,<-ek.1];refine hA.mono ?_;rintro e w3 ⟨rfl,I⟩;have aa:=Dt;have aM:=K8;have bf:=Zh (ej.below I);have aO:=Zh ((bC.below af).below aa);have ay:=Zh (bS.below aa);have bu:=X3 eg.out R n;have cf:Hid (n.Ab.length=n.keys.length/\(n.kids= []\/n.kids.length=n.keys.length+1)):=Zh (by rw [ce.out];exact JT a6.out x);obtain⟨⟨k,here⟩,bH⟩: ∃p,p=g R n:=⟨_,rfl⟩;rw [<-bH] at bu ⊢;dsimp only at bu ⊢;have bH:=Zh bH;have bu:=Zh bu;rw [<-ek.2];clear hA I ej ae ei ef;rcases f with _|f
  . have e0:((d:Int)==40)=true:=by simp;omega
    obtain⟨⟨d0,d1⟩,f0,f1⟩:=CV ay.out;have bv:=Se;have U:=Yml;go_wp2;obtain⟨bw,r1⟩:=AX bv.out;exact bodyPost_ret (v:= .agg #[.int .u64 0, .int .u64 0]) (by simp [results,f71,go_sem,bw,r1]) rfl (by
     unfold PQ;rw [show AR t 0 R x g=(R,[],(0,0)) from rfl];exact Ydz)
  . have e0:((d:Int)==40)=false:=by simp;omega
    have bW:=Zh (Gz (t:=t) (f:=f) ce.symm bH.symm);have el := @ih f (by omega);clear ih;obtain⟨sz,cJ⟩:=Zx n.less.size;have bI:Hid (n.less=⟨n.keys,n.Ab,n.kids,sz⟩/\sz<18446744073709551616):=Zh ⟨by rw [cJ];rfl,by rw [cJ];exact Nat.mod_lt _ (by omega)⟩;have f7:IntKind.u64.wrap ((n.size:Int)-1)=(sz:Int):=(by rw [IntKind.wrap_u64,cJ];unfold BN.less;have:=bf.ok.size;dsimp only;omega);obtain⟨w4,cK⟩:=Zx (w3.setCell ⟨aT,3,none⟩ (.int .u64 sz));have aS:Hid (Dz w4 F aq.heap.size aT ⟨n.keys,n.Ab,n.kids,sz⟩ (.slice bU n.keys.length k1, .slice bV n.Ab.length k2, .slice bk n.kids.length bm)):=Zh (by rw [cK];exact bf.sz bI.2);have al:Hid (Below aq.heap.size aq w4):=Zh (by rw [cK];exact aa.trans (bf.Zb 3 _));have em:=Zh cK;obtain⟨dq,dr,ds,dt⟩:=C5 bf.box;have g3:=bf.box.free 3;dsimp only at dq dr ds dt;clear cJ cK;by_cases bi:n.kids= []
    . have e1:((n.kids.length:Int)==0)=true:=by rw [bi];rfl
      cases here with
      |false=>
       as_aux_lemma=>
       have bJ:Hid (AR t (f+1) R x g=(R,[],(0,0))):=Zh (by
        rw [bW.out];unfold AR.tkGo;rw [if_pos bi];rfl)
       clear dq dr dt g3;obtain⟨⟨d0,d1⟩,f0,f1⟩:=CV ay.out;have bv:=Se;have U:=Yml;go_wp2;obtain⟨bw,r1⟩:=AX bv.out;exact bodyPost_ret (v:= .agg #[.int .u64 0, .int .u64 0]) (by simp [results,f71,go_sem,bw,r1]) rfl (by
        unfold PQ;rw [bJ.out];exact Ydz)
      |true=>
       as_aux_lemma=>
       have a1:=bu.1 rfl;have a8:k<n.Ab.length:=(by have:=cf.1;omega);have e2:k<=40:=(by have:=aY.out;omega);obtain⟨kh,bo⟩:=Zx (n.keys[k]);obtain⟨vh,bp⟩:=Zx (n.Ab[k]);have u64:kh<18446744073709551616/\vh<18446744073709551616:=⟨bo▸bf.ok.keys _ (List.getElem_mem a1),bp▸bf.ok.Ab _ (List.getElem_mem a8)⟩;obtain⟨KE,cg⟩:=Zx (n.keys.eraseIdx k);obtain⟨bq,cj⟩:=Zx (n.Ab.eraseIdx k);have bJ:Hid (AR t (f+1) R x g=(Bp R t x ⟨KE,bq,n.kids,sz⟩,[],(kh,vh))):=Zh (by
        rw [bW.out];unfold AR.tkGo;rw [if_pos bi,cond_true,bo,bp,cg,cj,bI.1];simp [a1,a8];rfl)
       have du:Hid ((⟨KE,bq,n.kids,sz⟩:BN).Ok/\KE.length<=1000/\bq.length<=1000):=Zh ⟨⟨cg▸HD bf.ok.keys k,cj▸HD bf.ok.Ab k,bf.ok.kids,bI.2⟩,by rw [cg];have:=List.length_eraseIdx_le n.keys k;have:=aY.out;omega,by rw [cj];have:=List.length_eraseIdx_le n.Ab k;have:=aY.out;omega⟩;have bK:=Ol (aS.MD (by have:=aY.out;show n.keys.length<=_;omega) (by have:=aY.out;show n.Ab.length<=_;omega) (by have:=aY.out;show n.kids.length<=_;omega)) k a1 a8;simp only [<-bo,<-bp] at bK;have ck:=Zh bK;have e3:=Zh cg;have e4:=Zh cj;clear bK bo bp cg cj bi;go_wp2_with fail;rw [<-em.out];refine ck.mono ?_;rintro e aV ⟨rfl,ah⟩;obtain⟨bz,cL⟩:=Zx (aV.alloc (Obj.cells #[.int .u64 kh, .int .u64 vh] 31));obtain⟨b12,cM⟩:=Zx aV.heap.size;have Z:Below w4.heap.size w4 bz:=(by rw [cL];exact ah.trans (((Below.refl _ aV).alloc (Nat.le_refl _) _).mono ah.size));have DY:An bz b12 31 [.int .u64 kh, .int .u64 vh]:=(by rw [cL,cM];exact An.new aV _ _);have en:w4.heap.size<=b12:=(by rw [cM];exact ah.size);have cN:=aS.below Z;obtain⟨bj,q1⟩:=AX cN.box;dsimp only at bj q1;have dv:=cN.ob;have e5:=(λX:Au (By (.slice bU n.keys.length k1, .slice bV n.Ab.length k2, .slice bk n.kids.length bm)) bz=>X.cell bj dv);have e6:=(λX:Au (By (.slice bU n.keys.length k1, .slice bV n.Ab.length k2, .slice bk n.kids.length bm)) bz=>X.cell q1 dv);have bb:=Zh cN;have bD:=OZ;have cl:=Zh (And.intro DY en);have e7:=Zh cL;have e8:=Zh cM;clear ck ah Z cL cM cN bj q1 DY en;go_wp2;rw [<-e7.out,<-e8.out];refine AB (λw' => ∃X:Au (By (.slice bU n.keys.length k1, .slice bV n.Ab.length k2, .slice bk n.kids.length bm)) bz,w' =X.W) [11,12,13,14,15] (.r 0<| .r 1<| .r 2<| .r 3<| .r 4<| .r 6<| .r 7<| .r 8<| .r 9<| .r 10<| .a 5<| .a 11<| .a 12<| .a 13<| .a 14<| .a 15<| .nil) (Ay _ _) ?_
       iterate 10 (refine AD ?_;go_simp)
       clear e5 e6 dv;obtain⟨az,ao⟩:=Zx bz.drew;rw [<-ao];have dw:=(Iu.start bb.own).below (show Below bz.heap.size bz az by rw [ao];exact Ac bz);clear ao;have dx:=He dw.own.r1 k a1;rw [<-e3.out] at dx;have eo:=Zh dx;clear dx;refine Ao _ rfl (λK aP=> ?_);go_wp2_with fail;refine eo.mono ?_;rintro e f8 ⟨v',rfl,aQ,hw⟩;obtain⟨cn,g1,rfl⟩:=Ae aQ;have cO:=dw.Aah aQ hw;clear aQ hw dw eo;go_wp2;refine aP _ _ cO.G2 ?_;clear aP K;have dy:=He cO.own.r2 k a8;rw [<-e4.out] at dy;have ep:=Zh dy;clear dy;refine AA _ rfl (by decide) (λK aP=> ?_);go_wp2_with fail;refine ep.mono ?_;rintro e eq ⟨v',rfl,aQ,hw⟩;obtain⟨co,g2,rfl⟩:=Ae aQ;have dz:=cO.Aaa aQ hw;clear aQ hw cO ep;go_wp2;refine aP _ _ ?_;clear aP K;have bX:=Zh dz;obtain⟨⟨z0,es,z2,z3⟩,u0,u1,u2,u3⟩:=Cc (bb.box.block (dz.T.keep aT bb.box.lt bb.ob));dsimp only at z0 es z2 z3;clear dz
       iterate 4 (refine AA _ rfl (by decide) (λK aP=> ?_);go_wp2;refine aP _ _ ?_;clear aP K)
       refine AG ?_;obtain⟨bY,cp⟩:=Zx ((eq.setCell ⟨aT,0,none⟩ (.slice cn KE.length g1)).setCell ⟨aT,1,none⟩ (.slice co bq.length g2));rw [<-cp];clear z0 es z2 z3 u0 u1 u2 u3;have dA:aq.heap.size<=aT:=bb.ge aT (.inl rfl);have dB: ∀k',By (.slice cn KE.length g1, .slice co bq.length g2, .slice bk n.kids.length bm) k' ->aq.heap.size<=k' /\k' ≠aT:=λk' a3=>by
        rcases bX.T.grow k' a3 with dC|dC
        . exact⟨bb.ge k' (.inr dC),λe=>bb.ob (e▸dC)⟩
        . have:=bb.box.lt;have:=bD.size;omega
       have cr:Below aq.heap.size aq bY:=by
        rw [cp];exact((bD.trans (bX.T.Hf bD.size (λk' bE =>bb.ge k' (.inr bE)))).setCell (p:=⟨aT,0,none⟩) dA _).setCell (p:=⟨aT,1,none⟩) dA _
       have dD: ∀k',k' ≠aT->bY.heap[k']? =eq.heap[k']? :=λk' bE =>by
        rw [cp,Below.heap_setCell _ ⟨aT,1,none⟩ _ k' bE,Below.heap_setCell _ ⟨aT,0,none⟩ _ k' bE]
       have bs:AS bY 0 (.slice cn KE.length g1) KE (.slice co bq.length g2) bq (.slice bk n.kids.length bm) n.kids:=(bX.own.blocks λk' bE =>dD k' (dB k' bE).2);have et:C3 bY F (.agg #[.slice cn KE.length g1, .slice co bq.length g2, .slice bk n.kids.length bm, .int .u64 sz]) ⟨KE,bq,n.kids,sz⟩:=bs.Kw (λk' bE dj=>by have:=bC.lt dj;have:=(dB k' bE).1;have:=af.size;omega) sz du.2.1 du.2.2 (by have:=aY.out;omega);have bF:=Zh (Ge ((bC.below af).below cr) t a6 x hx et du.1);have bg:An bY aT 100 [.slice cn KE.length g1, .slice co bq.length g2, .slice bk n.kids.length bm, .int .u64 sz]:=by
        rw [cp];exact((bb.box.block (bX.T.keep aT bb.box.lt bb.ob)).set 0 _).set 1 _
       obtain⟨m0,m1,m2,m3⟩:=C5 bg;obtain⟨c4,aX⟩:=AX (a7.below cr);have a2:=Zh (bS.below cr);have e9:Hid (An bY b12 31 [.int .u64 kh, .int .u64 vh]):=Zh (cl.1.block ((dD b12 (λe=>by have:=aS.box.lt;have:=cl.2;omega)).trans (bX.T.keep b12 cl.1.lt (λa3=>by have:=(aS.own.Iv a3).2;have:=cl.2;omega))));have fa:=Zh (Ad.below (F:=F) (af.trans (cr.mono af.size)));have fc: ¬F b12:=aL.out _ (by have:=cl.2;have:=al.size;have:=af.size;omega);clear dB dD bs et bg cp bX bb cr dA;go_wp2_with fail;refine bF.mono ?_;rintro e ac ⟨rfl,cs,bh⟩;have cP :=a2.Aq bh (aL _ O.2.1);have eu :=e9.Aq bh fc;obtain⟨fd,bZ⟩:=AX eu;have fe:=Zh cs;have cQ:=Zh (fa.trans bh);have bd:=bh.not a2.lt (aL _ O.2.1);clear m0 m1 m2 m3 c4 aX eu cs bh bF;obtain⟨⟨d0,d1⟩,f0,f1⟩:=CV cP;have bv:=Zh ((cP.set 0 (.int .u64 kh)).set 1 (.int .u64 vh));have U:=Zh (Df fe cQ O.2.1 cP ⟨_,rfl,λp a3=>by cases a3⟩ bd O.2.2 (.int .u64 kh) (.int .u64 vh));clear cP;go_wp2;obtain⟨bw,r1⟩:=AX bv.out;exact bodyPost_ret (v:= .agg #[.int .u64 kh, .int .u64 vh]) (by simp [results,f71,go_sem,bw,r1]) rfl (by
        unfold PQ;rw [bJ.out];exact⟨_,_,rfl,u64,U.1,Ct a6 aG,U.2⟩)
    . have e1:((n.kids.length:Int)==0)=false:=by
       have a3:n.kids.length≠0:=(λe=>bi (List.eq_nil_of_length_eq_zero e));simp;omega
      as_aux_lemma=>
      have cu:Hid (n.kids.length=n.keys.length+1):=Zh (cf.2.resolve_left bi);have e2:k<=40:=(by have:=aY.out;have:=bu.2;omega);have bL:k<n.kids.length:=(by have:=bu.2;have:=cu.out;omega);have cv:Hid (∀(X:World),Below w4.heap.size w4 X-> ∀j:Int,Calls prog 127 #[.agg #[.pointer (some ⟨s,0,none⟩), .int .i64 t], .pointer (some ⟨aT,0,none⟩), .int .i64 j] X λe w' =>e= .returned (.bool (CB R t n.kids j))/\Below X.heap.size X w'):=Zh (λX dE j=>by
       obtain⟨nn,a3,-⟩:=((bC.below af).below (al.trans (dE.mono al.size))).rd;exact Oj a3 a6 (aS.below dE).box (Fj (aS.below dE).own.r3) aS.ok.kids (by have:=aY.out;show n.kids.length<=100;omega) j)
      go_upto_block 0 with (fail);rw [<-em.out];clear dq dr dt g3;have ds:=aS.box.at' (i:=2) rfl;dsimp only at ds;go_cut [10] from 43 to 131 (λff wc=> ∃(R2:Zr) (F2:Nat->Prop) (H2:List Nat) (n2:BN) (v2:V3) (k2:Nat) (dF:List Nat),ff= .int .i64 k2/\Hid (TC aq wc s F P q most last G aq.heap.size aT t x R2 F2 H2 n2 v2 k2 dF (λR x=>AR t f R x g) (AR t (f+1) R x g)))
      case first=>
       cases here with
       |true=>
        by_cases bM:(Bl R t ⟨n.keys,n.Ab,n.kids,sz⟩ k||Bl R t ⟨n.keys,n.Ab,n.kids,sz⟩ (k+1))=true
        . skip
          have a1:=bu.1 rfl
          as_aux_lemma=>
          have a8:k<n.Ab.length:=(by have:=cf.1;omega);obtain⟨kh,bo⟩:=Zx (n.keys[k]);obtain⟨vh,bp⟩:=Zx (n.Ab[k]);have u64:Hid (kh<18446744073709551616/\vh<18446744073709551616):=Zh ⟨bo▸bf.ok.keys _ (List.getElem_mem a1),bp▸bf.ok.Ab _ (List.getElem_mem a8)⟩;have bK:=(λW (cR:Below w4.heap.size w4 W)=>Ol ((aS.below cR).MD (by have:=aY.out;show n.keys.length<=_;omega) (by have:=aY.out;show n.Ab.length<=_;omega) (by have:=aY.out;show n.kids.length<=_;omega)) k a1 a8);simp only [<-bo,<-bp] at bK;obtain⟨aj,f9,ev,_,_⟩:=Bg aS.own.r1 (λe=>by rw [show n.keys= [] from e] at a1;simp at a1);obtain⟨an,ga,ew,_,_⟩:=Bg aS.own.r2 (λe=>by rw [show n.Ab= [] from e] at a8;simp at a8);obtain⟨fg,ci,ex,_,_⟩:=Bg aS.own.r3 (λe=>by rw [show n.kids= [] from e] at bL;simp at bL);simp only [Value.slice.injEq] at ev ew ex;obtain⟨rfl,-,rfl⟩:=ev;obtain⟨rfl,-,rfl⟩:=ew;obtain⟨rfl,-,rfl⟩:=ex;obtain⟨be,bN⟩:=Zx (n.kids.getD k 0);obtain⟨cT,dG⟩:=Zx (n.kids.getD (k+1) 0);have b3:Hid (be=n.kids[k]/\be<18446744073709551616):=Zh (by
           rw [bN,Cf bL];exact⟨rfl,aS.ok.kids _ (List.getElem_mem bL)⟩)
          have ey:Hid (∀h:k+1<n.kids.length,cT=n.kids[k+1]/\cT<18446744073709551616):=Zh (λh=>by
           rw [dG,Cf h];exact⟨rfl,aS.ok.kids _ (List.getElem_mem h)⟩)
          obtain⟨r1,cw⟩:=Zx (Bl R t ⟨n.keys,n.Ab,n.kids,sz⟩ k);have dH:Hid (r1=false->Bl R t ⟨n.keys,n.Ab,n.kids,sz⟩ (k+1)=true):=Zh (λe=>by rw [cw] at e;rw [e] at bM;simpa using bM);have bZ:Hid (CB R t n.kids (k:Int)=r1):=Zh (by rw [cw];exact DG R t ⟨n.keys,n.Ab,n.kids,sz⟩ k);have dI:Hid (CB R t n.kids ((k:Int)+1)=Bl R t ⟨n.keys,n.Ab,n.kids,sz⟩ (k+1)):=Zh (by rw [<-DG];push_cast;rfl);have fh:Hid (r1=true->AR t (f+1) R x g=AR.tkIn t x ⟨n.keys,n.Ab,n.kids,sz⟩ k (kh,vh) (AR t f R be Ci)):=Zh (λe=>by
           rw [bW.out];unfold AR.tkGo;rw [if_neg bi,cond_true,if_pos (show Bl R t n k=true from cw▸e),bI.1,bN,bo,bp,Cf a1,Cf a8])
          have fi:Hid (r1=false->AR t (f+1) R x g=AR.tkIn t x ⟨n.keys,n.Ab,n.kids,sz⟩ k (kh,vh) (AR t f R cT Cv)):=Zh (λe=>by
           rw [bW.out];unfold AR.tkGo;rw [if_neg bi,cond_true,if_neg (show¬Bl R t n k=true from λh=>by rw [show Bl R t n k=false from cw▸e] at h;cases h),if_pos (show Bl R t n (k+1)=true from dH.out e),bI.1,dG,bo,bp,Cf a1,Cf a8])
          have fj:Hid (r1=false->k+1<n.kids.length):=Zh (λe=>by
           have:=dH.out e;unfold Bl at this;simp only [Bool.and_eq_true,decide_eq_true_eq] at this;exact this.1)
          have ck:=Zh bK;clear bM bo bp bK bN dG cw bi;go_upto_region 12 with (fail);go_cut [73] from 74 to 85 (λfk wx=>fk= .bool true/\Hid (Below w4.heap.size w4 wx))
          case first=>
           obtain⟨c4,aX⟩:=AX (a7.below al);have aQ:=cv.out w4 (Below.refl _ _) (k:Int);rw [bZ.out] at aQ;have bA:=Zh aQ;clear aQ
           cases r1 with
           |true=>
            go_wp2_with fail;refine bA.mono ?_;rintro e aV ⟨rfl,ah⟩;have aA:=Zh ah;clear ah;go_wp2;go_meet
            case rel=>exact⟨rfl,aA⟩
           |false=>
            have fm:Hid (CB R t n.kids ((k:Int)+1)=true):=Zh (dI.trans (dH rfl));go_wp2_with fail;refine bA.mono ?_;rintro e aV ⟨rfl,ah⟩;obtain⟨c4,aX⟩:=AX (a7.below (al.trans (ah.mono al.size)));have aQ:=cv.out aV ah ((k:Int)+1);rw [fm.out] at aQ;have cx:=Zh aQ;have aA:=Zh ah;clear aQ bA ah;go_wp2_with fail;refine cx.mono ?_;rintro e w6 ⟨rfl,aw⟩;have Z:=ZA;clear aw cx;go_wp2;go_meet
            case rel=>exact⟨rfl,Z⟩
          case rest=>
           obtain⟨wx,ez⟩:=Zx wc;rw [<-ez] at hcut ⊢;clear ez;obtain⟨rfl,bg⟩:=hcut;go_upto_region 13 with (fail);go_cut [13,14,15] from 86 to 93 (λfn dJ dK cU=> ∃b13,fn= .pointer (some ⟨b13,0,none⟩)/\dJ= .int .u64 be/\dK= .func (.func 36) #[] #[]/\Hid (An cU b13 31 [.int .u64 kh, .int .u64 vh]/\Below wx.heap.size wx cU/\wx.heap.size<=b13))
           case first=>
            have dL:=aS.below bg.out;obtain⟨bj,q1,aD,aE⟩:=C5 dL.box;dsimp only at bj q1 aD aE;have cy:=BQ dL.own.r3 bL;rw [<-b3.1] at cy;have dM:decide ((k:Int)<0)=false:=decide_eq_false (by omega);have dN:decide ((n.kids.length:Int)<=(k:Int))=false:=decide_eq_false (by omega);have dO:decide (n.kids.length<=k)=false:=decide_eq_false (by omega);have fo:=(λX:Au (λ_=>False) wx=>X.cell bj (λh=>h));have dP:=(λX:Au (λ_=>False) wx=>X.cell q1 (λh=>h));have dQ:=(λX:Au (λ_=>False) wx=>X.cell aD (λh=>h));have dR:=(λX:Au (λ_=>False) wx=>X.cell aE (λh=>h));have dS:=(λX:Au (λ_=>False) wx=>X.cell cy (λh=>h));clear dL bj q1 aD aE cy;refine AB (λw' => ∃X:Au (λ_=>False) wx,w' =X.W) [10,11] (.r 0<| .r 1<| .r 3<| .r 4<| .r 5<| .r 6<| .r 7<| .two 2 (.a 8<| .a 9<| .a 10<| .a 11<| .nil) 8 (.a 2<| .a 9<| .a 10<| .a 11<| .nil)) (Ay _ _) ?_
            iterate 7 (refine AD ?_;go_simp)
            clear fo dP dQ dR dS;refine Bf _ _ rfl rfl (λK aP=> ?_) (λK aP=> ?_)
            focus
             go_wp2_with fail;refine(ck _ (bg.trans ((Ac wx).mono bg.size))).mono ?_;rintro e aV ⟨rfl,ah⟩;have aA:=Zh ((Ac wx).trans ah);clear ah;go_wp2;refine aP _ _ (Ag aA) ?_;clear aP K;refine Ao _ rfl (λK aP=> ?_);go_wp2;refine aP _ _ (Ag (aA.trans (((Below.refl _ aV).alloc (Nat.le_refl _) _).mono aA.size))) ?_;clear aP K;have bO:=Zh (And.intro (An.new aV 31 [.int .u64 kh, .int .u64 vh]) (And.intro (aA.trans (((Below.refl _ aV).alloc (Nat.le_refl _) (Obj.cells #[.int .u64 kh, .int .u64 vh] 31)).mono aA.size)) aA.size));refine Ao _ rfl (λK aP=> ?_);go_wp2;refine aP _ _ (Ag bO.2.1) ?_;clear aP K
            rotate_left
            focus
             go_wp2;obtain⟨aV,cV⟩:=Zx ((wx.alloc (Obj.cells #[.int .u64 0, .int .u64 0] 31)).drew);obtain⟨b13,dT⟩:=Zx wx.heap.size;have ah:Below wx.heap.size wx aV:=(by rw [cV];exact((Below.refl _ wx).alloc (Nat.le_refl _) _).drew);have EJ:An aV b13 31 [.int .u64 0, .int .u64 0]:=(by rw [cV,dT];exact BE (An.new wx _ _));rw [<-cV,<-dT];refine aP _ _ (Ag ah) ?_;clear aP K;have aA:=Zh (And.intro ah (show wx.heap.size<=b13 by omega));have fp:=Zh EJ;clear cV dT ah EJ;refine Ao _ rfl (λK aP=> ?_);go_wp2_with fail;refine(ck _ (bg.trans (aA.1.mono bg.size))).mono ?_;rintro e w6 ⟨rfl,aw⟩;have b4:=fp.below aw;have eA:=Zh (aA.1.trans (aw.mono aA.1.size));obtain⟨⟨d0,d1⟩,f0,f1⟩:=CV b4;have bO:=Zh (And.intro ((b4.set 0 (.int .u64 kh)).set 1 (.int .u64 vh)) (And.intro ((eA.setCell (p:=⟨b13,0,none⟩) aA.2 (.int .u64 kh)).setCell (p:=⟨b13,1,none⟩) aA.2 (.int .u64 vh)) aA.2));clear aw b4;go_wp2;refine aP _ _ (Ag eA) ?_;clear aP K;refine Ao _ rfl (λK aP=> ?_);go_wp2;refine aP _ _ (Ag bO.2.1) ?_;clear aP K d0 d1 f0 f1
            all_goals
             iterate 2 (refine AA _ rfl (by decide) (λK aP=> ?_);go_wp2;refine aP _ _ ?_;clear aP K)
             refine AG ?_;go_wp2_with fail;go_meet
             case rel=>exact⟨_,rfl,rfl,rfl,bO⟩
           case rest=>
            obtain⟨cU,eB⟩:=Zx wc;rw [<-eB] at hcut ⊢;clear eB;obtain⟨b13,rfl,rfl,rfl,cW⟩:=hcut;have aZ:=Zh (bg.trans (cW.2.1.mono bg.size));have aQ:=cv.out cU aZ (k:Int);rw [bZ.out] at aQ;have bA:=Zh aQ;obtain⟨c4,aX⟩:=AX (a7.below (al.trans (aZ.mono al.size)));clear aQ;go_wp2_with fail;refine bA.mono ?_;rintro e aV ⟨rfl,ah⟩;have cX:=Ygt;have b4:=Zh (cW.1.below ah);clear ah bA c4 aX;go_upto_if 97 with (fail);go_cut [14,15] from 97 to 103 (λdJ dK fq=> ∃(Ap:Nat) (vv:Value) (cY:Wh),dJ= .int .u64 Ap/\dK=vv/\aV=fq/\Hid ((∀W FF,JF W s FF vv cY)/\Ap<18446744073709551616/\AR t (f+1) R x g=AR.tkIn t x ⟨n.keys,n.Ab,n.kids,sz⟩ k (kh,vh) (AR t f R Ap cY)))
            case first=>
             cases r1 with
             |true=>
              go_wp2;go_meet
              case rel=>exact⟨be, .func (.func 36) #[] #[],Ci,rfl,rfl,rfl,Zh ⟨λ_ _=> .inr (.inl ⟨rfl,rfl⟩),b3.2,fh (by first|rfl|trivial)⟩⟩
             |false=>
              have dU:=fj.out (by first|rfl|trivial)
              have dV:=aS.below cX.out;have aD:=dV.box.at' (i:=2) rfl;have cy:=BQ dV.own.r3 dU;dsimp only at aD;rw [<-(ey.out dU).1] at cy;have eC:=(ey dU).2;have dM:decide ((k:Int)+1<0)=false:=decide_eq_false (by omega);have dN:decide ((n.kids.length:Int)<=(k:Int)+1)=false:=decide_eq_false (by omega);have dO:decide (n.kids.length<=k+1)=false:=decide_eq_false (by omega);have bO:=Zh (And.intro eC (fi.out (by first|rfl|trivial)))
              clear dV eC;go_wp2;go_meet
              case rel=>exact⟨cT, .func (.func 35) #[] #[],Cv,rfl,rfl,rfl,Zh ⟨λ_ _=> .inl ⟨rfl,rfl⟩,bO.1,bO.2⟩⟩
            case rest=>
             obtain⟨Ap,vv,cY,rfl,rfl,rfl,cZ⟩:=hcut;have cz:=Zh (al.trans (cX.mono al.size));have bG:=el ((bC.below af).below cz) aG (cZ.1 aV F) Ap cZ.2.1 (d+1) (by omega);push_cast at bG;obtain⟨eD,dW⟩:=Zx (AR t f R Ap cY);have bJ:Hid (AR t (f+1) R x g=AR.tkIn t x ⟨n.keys,n.Ab,n.kids,sz⟩ k (kh,vh) eD):=Zh (by rw [dW];exact cZ.2.2);rw [<-dW] at bG;obtain⟨gb,gc,c8,b7⟩:=eD;have cB:=Zh bG;obtain⟨c4,aX⟩:=AX (a7.below cz);have fs:d<=40:=(by omega);clear dW bG cZ;go_wp2_with fail;refine cB.mono ?_;rintro e ag ⟨c9,da,rfl,b5,bB,aJ,br⟩;dsimp only at b5 bB aJ ⊢;obtain⟨am,ax⟩:=Zx (ag.alloc (Obj.cells #[.int .u64 c8, .int .u64 b7] 31));obtain⟨dX,aH⟩:=Zx ag.heap.size;have db:=Yih;have dY:An am dX 31 [.int .u64 c8, .int .u64 b7]:=(by rw [ax,aH];exact An.new ag _ _);have aW:=Zh (((aS.below cX).Aq br).below db);have bP:=br.trans (Ad.below db);have eE:=aS.own.Iv (k:=aj) (.inl rfl);have eF:=aS.own.Iv (k:=an) (.inr (.inl rfl));have bH:aq.heap.size<=aj/\aq.heap.size<=an:=⟨aS.ge aj (.inr (.inl rfl)),aS.ge an (.inr (.inr (.inl rfl)))⟩;have eG:=cX.size;have eH:=br.size;have dZ: ¬(dX=aj\/dX=an):=(by omega);have d2: ¬(aT=aj\/aT=an):=λe=>by
              exact Ycg
             have dc:=Ynu;obtain⟨bj,q1⟩:=AX aW.box;dsimp only at bj q1;have ft:=BQ aW.own.r1 a1;have fu:=BQ aW.own.r2 a8;have fv:=aW.own.r1.frozenAt k;have fw:=aW.own.r2.frozenAt k;have fx:=(λX:Au (λz=>z=aj\/z=an) am=>X.cell bj d2);have fy:=(λX:Au (λz=>z=aj\/z=an) am=>X.cell q1 d2);have fz:=(λX:Au (λz=>z=aj\/z=an) am=>X.cell (dY.at' (i:=0) rfl) dZ);have V:=(λX:Au (λz=>z=aj\/z=an) am=>X.cell (dY.at' (i:=1) rfl) dZ);have dM:decide ((k:Int)<0)=false:=decide_eq_false (by omega);have dN:decide ((n.keys.length:Int)<=(k:Int))=false:=decide_eq_false (by omega);have dO:decide (n.keys.length<=k)=false:=decide_eq_false (by omega);have gd:decide ((n.Ab.length:Int)<=(k:Int))=false:=decide_eq_false (by omega);have gf:decide (n.Ab.length<=k)=false:=decide_eq_false (by omega);have fA:=Zh (bB.below db);have fB:=Zh (And.intro (And.intro eE.2 eF.2) (And.intro bH (And.intro eG eH)));have b8:=a7.below cz.out;have a2:=bS.below cz.out;obtain⟨b9,bd⟩:=Ypi;have d3: ¬F b13:=aL.out _ (by have:=cW.2.2;have:=bg.size;have:=al.size;have:=af.size;omega);have v4:=Zh (b8.Aq bP b9);have d4:=Zh (And.intro (a2.Aq bP bd) (bP.not a2.lt bd));have eI:=Zh (And.intro (b4.Aq bP d3) (bP.not b4.lt d3));have fC:=Zh ((Ad.below (F:=F) (af.trans (cz.mono af.size))).trans bP);have dd:=Zh b5;obtain⟨fD,eJ⟩:=SA;have fF:=Zh dc;clear ax aH db bP eE eF bH eG eH dZ d2 dc bj q1 dY bB br b5 aJ b8 a2 b9 bd d3 cB c4 aX;go_wp2;rw [<-eJ.1,<-eJ.2];refine As (λw' => ∃X:Au (λz=>z=aj\/z=an) am,w' =X.W) [.r 0, .r 1, .r 2, .r 3, .r 4, .r 5, .r 6, .r 7, .r 8, .r 9, .r 10, .a 11, .r 12, .a 13] (Ay _ _) ?_
             iterate 11 (refine AH ?_;go_simp)
             clear fx fy fz V;have dc:=fF.out;refine AI _ rfl (λd5 cC=> ?_);go_wp2;refine cC _ _ (Ck (Bj (B:=λz=>z=aj\/z=an) (p:=⟨aj,k,none⟩) (Ag (Below.refl _ _)) (.inl rfl) _) (Ac _)) ?_;clear cC d5;refine AH ?_;go_simp;refine AI _ rfl (λd5 cC=> ?_);go_wp2;refine cC _ _ (Ck (Bj (B:=λz=>z=aj\/z=an) (p:=⟨an,k,none⟩) (Bj (B:=λz=>z=aj\/z=an) (p:=⟨aj,k,none⟩) (Ag (Below.refl _ _)) (.inl rfl) _) (.inr rfl) _) (Ac _)) (AP ?_);clear cC d5 fv fw ft fu dc;obtain⟨d6,d7,eK⟩:=Dz.put fA aW bT.1 bT.2 (k:=k) (x:=c8) (y:=b7) a1 a8 dd.1 dd.2;have d8:=((fC.or _).trans eK).Qe (λz cD=>Nat.le_trans af.size (aW.ge z cD));obtain⟨aR,d9⟩:=Zx ((am.setCell ⟨aj,k,none⟩ (.int .u64 c8)).setCell ⟨an,k,none⟩ (.int .u64 b7));have de: ∀{b:Nat} {T:TypeId} {vs:List Value},An am b T vs->b≠aj->b≠an->An aR b T vs:=(λh h1 fG=>by rw [d9];exact(h.other (p:=⟨aj,k,none⟩) h1 _).other (p:=⟨an,k,none⟩) fG _);rw [<-d9] at d6 d7 d8 ⊢;obtain⟨az,ao⟩:=Zx aR.drew;have bQ:=Ykl;rw [<-ao];have hh:=fB.out;have fH:=a7.lt;have fI:=bS.lt;have fJ:=cW.2.2;have fK:=bg.size;have eL:=(de v4 (by omega) (by omega)).below bQ;have u8:=(de d4.1 (by omega) (by omega)).below bQ;have eM:=(de eI.1 (by omega) (by omega)).below bQ;have eN :=d6.below bQ;have df :=d7.below bQ;have eO :=d8.trans (Ad.below bQ);have hle:=aY.out;have bF:=Zh (Ge eN t a6 x hx (df.MD (by simp [BN.Dm];omega) (by simp [BN.Dm];omega) (by show n.kids.length<=_;omega)) df.ok);obtain⟨m0,m1,m2,m3⟩:=C5 df.box;dsimp only at m0 m1 m2 m3;obtain⟨c4,aX⟩:=AX eL;have eP:=Zh u8;have fL:=Zh eM;have fM:=Zh eO;clear d9 ao bQ d6 d7 eK d8 de hh fH fI fJ fK eL u8 eM eN df eO hle;go_wp2_with fail;refine bF.mono ?_;rintro e gg ⟨rfl,eQ,cF⟩;have a2:=eP.Aq cF d4.2;have bd:=cF.not eP.lt d4.2;have eR :=fL.Aq cF eI.2;obtain⟨fd,bZ⟩:=AX eR;have fN:=Zh eQ;have fO:=Zh (fM.trans cF);clear m0 m1 m2 m3 c4 aX eQ cF eR bF;obtain⟨⟨d0,d1⟩,f0,f1⟩:=CV a2;have bv:=Zh ((a2.set 0 (.int .u64 kh)).set 1 (.int .u64 vh));have U:=Zh (Df fN fO O.2.1 a2 ⟨_,rfl,λp a3=>by cases a3⟩ bd O.2.2 (.int .u64 kh) (.int .u64 vh));clear a2;go_wp2;obtain⟨bw,r1⟩:=AX bv.out;exact bodyPost_ret (v:= .agg #[.int .u64 kh, .int .u64 vh]) (by simp [results,f71,go_sem,bw,r1]) rfl (by
              unfold PQ;rw [bJ.out];exact⟨_,_,rfl,u64,U.1,Ct a6 fD,U.2⟩)
        . have r1:Bl R t ⟨n.keys,n.Ab,n.kids,sz⟩ k=false:=by simp at bM;exact bM.1
          have r2:Bl R t ⟨n.keys,n.Ab,n.kids,sz⟩ (k+1)=false:=(by simp at bM;exact bM.2);have a1:=bu.1 rfl
          as_aux_lemma=>
          have bZ:CB R t n.kids (k:Int)=false:=(DG R t ⟨n.keys,n.Ab,n.kids,sz⟩ k).trans r1;have dI:CB R t n.kids ((k:Int)+1)=false:=(by rw [<-r2,<-DG];push_cast;rfl);obtain⟨c4,aX⟩:=AX (a7.below al);have aQ:=cv.out w4 (Below.refl _ _) (k:Int);rw [bZ] at aQ;have bA:=Zh aQ;clear aQ;go_wp2_with fail;refine bA.mono ?_;rintro e aV ⟨rfl,ah⟩;obtain⟨c4,aX⟩:=AX (a7.below (al.trans (ah.mono al.size)));have aQ:=cv.out aV ah ((k:Int)+1);rw [dI] at aQ;have cx:=Zh aQ;have aA:=Zh ah;clear aQ bA ah;go_wp2_with fail;refine cx.mono ?_;rintro e w6 ⟨rfl,aw⟩;have Z:=aA.trans (aw.mono aA.size);have bD:=al.trans (Z.mono al.size);obtain⟨c4,aX⟩:=AX (a7.below bD);have eS:=Zh (I2 ((bC.below af).below bD) aG a6 (aS.below Z) bT.1 bT.2 (by have:=aY.out;show n.keys.length<=40;omega) cf.1 cu k a1);have fP:=Zh bD;clear cx aA aw Z bD;go_wp2_with fail;refine eS.mono ?_;rintro e ag ⟨c9,da,ea,rfl,bB,cG,br⟩;have eb:Hid (TC aq ag s F P q most last G aq.heap.size aT t x (BO R t ⟨n.keys,n.Ab,n.kids,sz⟩ k).1 c9 da (BO R t ⟨n.keys,n.Ab,n.kids,sz⟩ k).2 ea k [n.kids.getD (k+1) 0] (λR x=>AR t f R x g) (AR t (f+1) R x g)):=Zh (by
           have bR:=Ka R t ⟨n.keys,n.Ab,n.kids,sz⟩ k;have hle:=aY.out;refine⟨bB,cG,Ad.Qe ((Ad.below fP).trans br) (λz cD=>aS.ge z cD),HM a6.out aG _ _,T0 (R:=R) (t:=t) (n:=⟨n.keys,n.Ab,n.kids,sz⟩) cu a1,Nat.le_trans bR.1 (by show n.keys.length<=_;omega),Nat.le_trans bR.2.1 (by show n.Ab.length<=_;omega),Nat.le_trans bR.2.2 (by show n.kids.length<=_;omega), ?_⟩;rw [bW.out];unfold AR.tkGo;rw [if_neg bi,cond_true,if_neg (show¬Bl R t n k=true by rw [show Bl R t n k=false from r1];decide),if_neg (show¬Bl R t n (k+1)=true by rw [show Bl R t n (k+1)=false from r2];decide),bI.1])
          clear bB cG br eS;go_wp2;go_meet
          case rel=>exact⟨_,_,_,_,_,_,_,rfl,eb⟩
       |false=>
        as_aux_lemma=>
        obtain⟨c4,aX⟩:=AX (a7.below al);have eT:=Zh (TO ((bC.below af).below al) aG a6 aS bT.1 bT.2 (by have:=aY.out;show n.keys.length<=40;omega) cf.1 cu k bL);go_wp2_with fail;refine eT.mono ?_;rintro e ag ⟨c9,da,ea,rfl,bB,cG,br⟩;have eb:Hid (TC aq ag s F P q most last G aq.heap.size aT t x (Bw R t ⟨n.keys,n.Ab,n.kids,sz⟩ k).1 c9 da (Bw R t ⟨n.keys,n.Ab,n.kids,sz⟩ k).2.1 ea (Bw R t ⟨n.keys,n.Ab,n.kids,sz⟩ k).2.2.2 (Bw R t ⟨n.keys,n.Ab,n.kids,sz⟩ k).2.2.1 (λR x=>AR t f R x g) (AR t (f+1) R x g)):=Zh (by
         have bR:=Wv R t ⟨n.keys,n.Ab,n.kids,sz⟩ k;have hle:=aY.out;refine⟨bB,cG,Ad.Qe ((Ad.below al).trans br) (λz cD=>aS.ge z cD),RE a6 aG _ _,VI (R:=R) (t:=t) (n:=⟨n.keys,n.Ab,n.kids,sz⟩) cu bL,Nat.le_trans bR.1 (by show n.keys.length<=_;omega),Nat.le_trans bR.2.1 (by show n.Ab.length<=_;omega),Nat.le_trans bR.2.2 (by show n.kids.length<=_;omega), ?_⟩;rw [bW.out];unfold AR.tkGo;rw [if_neg bi,cond_false,bI.1])
        generalize (Bw R t ⟨n.keys,n.Ab,n.kids,sz⟩ k).2.2.2=k9 at*;clear bB cG br eT;go_wp2;go_meet
        case rel=>exact⟨_,_,_,_,_,_,_,rfl,eb⟩
      case rest=>
       obtain⟨R2,F2,H2,n2,v2,k2,dF,rfl,aU⟩:=hcut
       as_aux_lemma=>
       obtain⟨u1,u2,u3⟩:=v2;obtain⟨fg,ci,eU,_,_⟩:=Bg aU.nb.own.r3 (λe=>by have:=aU.lt;rw [e] at this;simp at this);dsimp only at eU;subst eU;have bF:=Zh (Ge aU.st t a6 x hx (aU.nb.MD aU.l1 aU.l2 aU.l3) aU.nb.ok);obtain⟨b9,bd⟩:=Ypi;have b8:=a7.Aq aU.Aq b9;obtain⟨c4,aX⟩:=AX b8;obtain⟨m0,m1,m2,m3⟩:=C5 aU.nb.box;dsimp only at m0 m1 m2 m3;have eV:=Zh (And.intro b8 (aU.Aq.not a7.lt b9));have dg:=Zh (And.intro (bS.Aq aU.Aq bd) (aU.Aq.not bS.lt bd));obtain⟨be,bN⟩:=Zx (n2.kids.getD k2 0);have b3:be=n2.kids[k2]'aU.lt:=bN.trans (Cf aU.lt);have fQ:Hid (be<18446744073709551616):=Zh (by rw [b3];exact aU.nb.ok.kids _ (List.getElem_mem _));have ec:Hid (k2<n2.kids.length/\n2.kids.length<=1000):=Zh ⟨aU.lt,aU.l3⟩;have bJ:Hid (AR t (f+1) R x g=((AR t f (Bp R2 t x n2) be g).1,dF++(AR t f (Bp R2 t x n2) be g).2.1,(AR t f (Bp R2 t x n2) be g).2.2)):=Zh (by rw [aU.mod,bN];rfl);have fR:=Zh b3;clear b8 b9 bd bN b3;go_wp2_with fail;refine bF.mono ?_;rintro e ac ⟨rfl,cs,bh⟩;have ed:=aU.nb.Aq bh;have cQ:=Zh (((Ad.below (F:=F) af).trans aU.Aq).trans bh);have fS:Hid (A6 (Bp R2 t x n2)):=Zh (Ct a6 aU.sh);have a4:=eV.1.Aq bh eV.2;have dh:=Zh (And.intro (dg.1.Aq bh dg.2) (bh.not dg.1.lt dg.2));have bG:=(λW (cR:Below ac.heap.size ac W)=>el (cs.below cR) fS (eg.Aq (cQ.trans (Ad.below cR))) be fQ (d+1) (by omega));push_cast at bG;have cB:=Zh bG;generalize AR t f (Bp R2 t x n2) be g=p9 at*;obtain⟨gh,gi,a9,ee⟩:=p9;have aD:=ed.box.at' (i:=2) rfl;dsimp only at aD;have aE:=BQ ed.own.r3 ec.1;rw [<-fR.out] at aE;generalize n2.kids.length=di at*;have gj:k2<di:=ec.1;have gk:di<=1000:=ec.2;have dM:decide ((k2:Int)<0)=false:=decide_eq_false (by omega);have dN:decide ((di:Int)<=(k2:Int))=false:=decide_eq_false (by omega);have dO:decide (di<=k2)=false:=decide_eq_false (by omega);have fs:d<=40:=(by omega);have dP:=(λX:Au (λ_=>False) ac=>X.cell (a4.at' (i:=0) rfl) (λh=>h));have dQ:=(λX:Au (λ_=>False) ac=>X.cell (a4.at' (i:=1) rfl) (λh=>h));obtain⟨dR,dS⟩:=Y6;clear m0 m1 m2 m3 c4 aX cs bh bF ed a4 aD aE bG;go_wp2;refine AB (λw' => ∃X:Au (λ_=>False) ac,w' =X.W) [9,10] (.r 0<| .r 1<| .r 2<| .r 3<| .r 4<| .r 5<| .r 6<| .r 7<| .r 8<| .a 9<| .a 10<| .nil) (Ay _ _) ?_
       iterate 9 (refine AD ?_;go_simp)
       clear dP dQ dR dS;refine AA _ rfl (by decide) (λK aP=> ?_);go_wp2_with fail;refine(cB _ (Ac ac)).mono ?_;rintro e gl ⟨gm,gn,rfl,b5,eW,eX,cb⟩;have cb:=(Ad.below (F:=F2) (Ac ac)).trans cb;have a2:=dh.1.Aq cb dh.2;have bd:=cb.not dh.1.lt dh.2;have fT:=Zh eW;have fU:=Zh (cQ.trans cb);have dd:=Zh b5;have fV:=Zh eX;dsimp only;clear eW cb b5 eX cB;obtain⟨⟨d0,d1⟩,f0,f1⟩:=CV a2;have bv:=Zh ((a2.set 0 (.int .u64 a9)).set 1 (.int .u64 (ee :Nat)));have U:=Zh (Df fT fU O.2.1 a2 ⟨_,rfl,λp a3=>by cases a3⟩ bd O.2.2 (.int .u64 a9) (.int .u64 (ee :Nat)));clear a2;go_wp2;refine aP _ _ ?_;clear aP K;refine AA _ rfl (by decide) (λK aP=> ?_);go_wp2;refine aP _ _ (AG ?_);clear d0 d1 f0 f1;go_wp2;obtain⟨bw,r1⟩:=AX bv.out;exact bodyPost_ret (v:= .agg #[.int .u64 a9, .int .u64 (ee :Nat)]) (by simp [results,f71,go_sem,bw,r1]) rfl (by
        unfold PQ;rw [bJ.out];exact⟨_,_,rfl,dd,U.1,fV,U.2⟩)
end
namespace Bt
variable {i j sz t:Nat}{Aa:List It}{m:It}
theorem DQ: ∀(c:Sb) (A B:List Lk) (k:Nat),k<=A.length->Ap c (A++B) k=Ap c A k
 |c,A,B,0,_=>by cases A<;>cases B<;>rfl
 |c,[],B,k+1,h=>absurd h (by simp)
 |c,p::A,B,k+1,h=>DQ p.2 A B k (by simpa using h)
theorem IM: ∀(c:Sb) (A B:List Lk) (k:Nat),k<=A.length->pre c (A++B) k=pre c A k
 |c,A,B,0,_=>by cases A<;>cases B<;>rfl
 |c,[],B,k+1,h=>absurd h (by simp)
 |c,p::A,B,k+1,h=>by
  show c.Aa++p.1::pre p.2 (A++B) k=c.Aa++p.1::pre p.2 A k
  rw [IM p.2 A B k (by simpa using h)]
theorem DT: ∀(c:Sb) (A:List Lk) (p:Lk) (B:List Lk),Ap c (A++p::B) (A.length+1)=p.2
 |c,[],p,B=>by cases B<;>rfl
 |c,q::A,p,B=>DT q.2 A p B
theorem Mz(c:Sb)(A:List Lk):Aj c A=pre c A A.length++(Ap c A A.length).Aa:=by
 have:=Bu c A A.length (Nat.le_refl _);rw [List.drop_length] at this;rw [this];simp [rest]
theorem Lt(c:Sb)(A:List Lk)(p:Lk)(B:List Lk):pre c (A++p::B) (A.length+1)=pre c A A.length++((Ap c A A.length).Aa++ [p.1]):=by
 induction A generalizing c with
 |nil=>cases B<;>simp [pre,Ap]
 |cons q A ih=>
  show c.Aa++q.1::pre q.2 (A++p::B) (A.length+1)=c.Aa++q.1::pre q.2 A A.length++_
  rw [ih q.2];simp [Ap]
theorem FD{l:List Lk}(h:i<l.length): ∃A m d B,l=A++(m,d)::B/\A.length=i:=
 ⟨l.take i,l[i].1,l[i].2,l.drop (i+1),by rw [show(l[i].1,l[i].2)=l[i] from rfl,<-List.drop_eq_getElem_cons h,List.take_append_drop],by rw [List.length_take];omega⟩
def rep(c:Sb)(A:List Lk)(L:Sb)(X:List Lk):Sb × List Lk:=((AM c A A.length L).1,(AM c A A.length L).2++X)
section
variable {c:Sb} {A:List Lk} {L:Sb} {X:List Lk}
theorem Hn:(rep c A L X).2.length=A.length+X.length:=by
 unfold rep;rw [List.length_append,CU c A A.length L (Nat.le_refl _)]
theorem Of:Aj (rep c A L X).1 (rep c A L X).2=pre c A A.length++(L.Aa++rest X):=by
 have h:=Ex c A A.length L (Nat.le_refl _);rw [List.drop_length] at h;unfold rep Aj at*;rw [K6,<-List.append_assoc,h];simp [rest]
theorem Ki(he:L.h=(Ap c A A.length).h):(rep c A L X).1.h::(rep c A L X).2.map (·.2.h)=(c.h::A.map (·.2.h))++X.map (·.2.h):=by
 have h:=EZ c A A.length L (Nat.le_refl _) he;unfold rep;rw [<-h];simp
theorem PR:(rep c A L X).2.map (·.1)=A.map (·.1)++X.map (·.1):=by
 have h:=DZ c A A.length L (Nat.le_refl _);unfold rep;rw [List.map_append,h]
theorem MO(x:Nat):(Ax (rep c A L X).1 (rep c A L X).2).count x+(Ap c A A.length).ns.count x=(Ax c A).count x+L.ns.count x+(X.flatMap λp=>p.2.ns).count x:=by
 have h:=Gi c A A.length L x (Nat.le_refl _);have e:Ax (rep c A L X).1 (rep c A L X).2=Ax (AM c A A.length L).1 (AM c A A.length L).2++X.flatMap λp=>p.2.ns:=by
  unfold rep Ax;dsimp only;rw [List.flatMap_append,<-List.append_assoc]
 rw [e,List.count_append];omega
theorem FJ: ∀(c:Sb) (A:List Lk) (k:Nat) (L:Sb),k<=A.length->Ap (AM c A k L).1 (AM c A k L).2 k=L/\pre (AM c A k L).1 (AM c A k L).2 k=pre c A k
 |c,A,0,L,_=>by cases A<;>exact⟨rfl,rfl⟩
 |c,[],k+1,L,h=>absurd h (by simp)
 |c,p::A,k+1,L,h=>by
  obtain⟨h1,I⟩:=FJ p.2 A k L (by simpa using h);exact⟨h1,by simp only [AM,pre,I]⟩
theorem Rr:Ap (rep c A L X).1 (rep c A L X).2 A.length=L:=by
 unfold rep;rw [DQ _ _ _ _ (by rw [CU c A A.length L (Nat.le_refl _)];exact Nat.le_refl _)];exact(FJ c A A.length L (Nat.le_refl _)).1
theorem RI:pre (rep c A L X).1 (rep c A L X).2 A.length=pre c A A.length:=by
 unfold rep;rw [IM _ _ _ _ (by rw [CU c A A.length L (Nat.le_refl _)];exact Nat.le_refl _)];exact(FJ c A A.length L (Nat.le_refl _)).2
theorem Wq{p:Lk}{B:List Lk}:Ap (rep c A L (p::B)).1 (rep c A L (p::B)).2 (A.length+1)=p.2:=by
 unfold rep;have h:=CU c A A.length L (Nat.le_refl _);have:=DT (AM c A A.length L).1 (AM c A A.length L).2 p B;rw [h] at this;exact this
theorem VZ{p:Lk}{B:List Lk}:pre (rep c A L (p::B)).1 (rep c A L (p::B)).2 (A.length+1)=pre c A A.length++(L.Aa++ [p.1]):=by
 unfold rep;have h:=CU c A A.length L (Nat.le_refl _);have I:=Lt (AM c A A.length L).1 (AM c A A.length L).2 p B;rw [h] at I
 show pre (AM c A A.length L).1 ((AM c A A.length L).2++p::B) (A.length+1)=_
 rw [I,(FJ c A A.length L (Nat.le_refl _)).1,(FJ c A A.length L (Nat.le_refl _)).2]
end
theorem ML{R R1:Zr}{a lo:Nat}{c:Sb}{A:List Lk}{L:Sb}{X:List Lk}(I:(Ax c A).Nodup)(J:At R t a lo c)(hA: ∀p∈A,At R t a lo p.2)(O: ∀z,z∈Ax c A->z∉(Ap c A A.length).ns->R1 z=R z)(U:At R1 t a lo L)(V: ∀p∈X,At R1 t a lo p.2):
 At R1 t a lo (rep c A L X).1/\ ∀p∈(rep c A L X).2,At R1 t a lo p.2:=by
 have h:=Gl (R1:=R1) (a:=a) (lo:=lo) (Nat.le_refl A.length) I J hA O U;refine⟨h.1,λp hp=> ?_⟩;rcases List.mem_append.1 hp with hp|hp
 . exact h.2 p hp
 . exact V p hp
def AV(c:Sb)(l:List Lk)(sz:Nat):BN:=⟨l.map (·.1.kh),l.map (·.1.vh),c.h::l.map (·.2.h),sz⟩
theorem WT{c I :Sb}{l l' :List Lk}(h1:l.map (·.1)=l'.map (·.1))(J:c.h::l.map (·.2.h)=I.h::l'.map (·.2.h)):AV c l sz=AV I l' sz:=by
 unfold AV;rw [Fs,Ft,h1,J,<-Fs,<-Ft]
theorem We(c:Sb)(l:List Lk):AV c l (Aj c l).length=Al c l:=rfl
theorem XS{c:Sb}{l:List Lk}(h1:1<=(Aj c l).length)(I:(Aj c l).length<18446744073709551616):(Al c l).less=AV c l ((Aj c l).length-1):=by
 unfold BN.less Al AV;simp only [BN.mk.injEq,true_and];omega
theorem Sv{c:Sb}{l:List Lk}(h:(Al c l).Fits t):(AV c l sz).Fits t:=h
theorem MV{c:Sb}{A:List Lk}{L D D' :Sb}{m':It}{B:List Lk}(h1:L.h=(Ap c A A.length).h)(I:D'.h=D.h):(AV c (A++(m,D)::B) sz).Dm A.length m'.kh m'.vh=AV (rep c A L ((m',D')::B)).1 (rep c A L ((m',D')::B)).2 sz:=by
 have J:(rep c A L ((m',D')::B)).2.map (·.1)=A.map (·.1)++m' ::B.map (·.1):=by rw [PR];rfl
 have O:=Ki (X:=(m',D')::B) h1;unfold AV BN.Dm;rw [O,Fs (rep c A L _).2,Ft (rep c A L _).2,J];simp only [List.map_append,List.map_cons,List.map_map,BN.mk.injEq];refine⟨?_, ?_, ?_,trivial⟩
 . rw [List.set_append_right _ _ (by simp)];simp [Function.comp_def]
 . rw [List.set_append_right _ _ (by simp)];simp [Function.comp_def]
 . simp [I]
def Ygh{P}(h:P:=by
 rw [List.eraseIdx_append_of_length_le (by simp)];simp [Function.comp_def]):=h
theorem XV{c:Sb}{A:List Lk}{M D:Sb}{B:List Lk}(h1:M.h=(Ap c A A.length).h):((AV c (A++(m,D)::B) sz).HI A.length).Jc (A.length+1)=AV (rep c A M B).1 (rep c A M B).2 sz:=by
 have I:(rep c A M B).2.map (·.1)=A.map (·.1)++B.map (·.1):=PR;have J:=Ki (X:=B) h1;unfold AV BN.HI BN.Jc;rw [J,Fs (rep c A M _).2,Ft (rep c A M _).2,I];simp only [List.map_append,List.map_cons,List.map_map,BN.mk.injEq];refine⟨?_, ?_, ?_,trivial⟩
 . exact Ygh
 . exact Ygh
 . rw [List.eraseIdx_cons_succ,List.eraseIdx_append_of_length_le (by simp)];simp
def loc(c:Sb):List Lk->Nat->Nat × Bool
 | [],_=>(0,false)
 |p::l,j=>if j<c.Aa.length then (0,false) else if j=c.Aa.length then (0,true) else ((loc p.2 l (j-c.Aa.length-1)).1+1,(loc p.2 l (j-c.Aa.length-1)).2)
theorem K2: ∀(c:Sb) (l:List Lk) (k j:Nat),k<=l.length->j<(Ap c l k).Aa.length->loc c l ((pre c l k).length+j)=(k,false)
 |c,[],k,j,hk,hj=>by
  obtain rfl:k=0:=by simpa using hk
  rfl
 |c,p::l,0,j,hk,hj=>by
  show(if 0+j<c.Aa.length then _ else _)=_
  rw [if_pos (by rw [Nat.zero_add];exact hj)]
 |c,p::l,k+1,j,hk,hj=>by
  have I:=K2 p.2 l k j (by simpa using hk) hj;have e:(pre c (p::l) (k+1)).length+j-c.Aa.length-1=(pre p.2 l k).length+j:=by simp only [pre,List.length_append,List.length_cons];omega
  unfold loc;rw [e,I,if_neg (by simp only [pre,List.length_append,List.length_cons];omega),if_neg (by simp only [pre,List.length_append,List.length_cons];omega)]
theorem RS: ∀(c:Sb) (l:List Lk) (k:Nat),k<l.length->loc c l ((pre c l k).length+(Ap c l k).Aa.length)=(k,true)
 |c,[],k,hk=>absurd hk (by simp)
 |c,p::l,0,hk=>by
  show(if 0+c.Aa.length<c.Aa.length then _ else if 0+c.Aa.length=c.Aa.length then _ else _)=_
  rw [if_neg (by omega),if_pos (by omega)]
 |c,p::l,k+1,hk=>by
  have I:=RS p.2 l k (by simpa using hk);have e:(pre c (p::l) (k+1)).length+(Ap c (p::l) (k+1)).Aa.length-c.Aa.length-1=(pre p.2 l k).length+(Ap p.2 l k).Aa.length:=by simp only [pre,Ap,List.length_append,List.length_cons];omega
  unfold loc;rw [e,I,if_neg (by simp only [pre,List.length_append,List.length_cons];omega),if_neg (by simp only [pre,List.length_append,List.length_cons];omega)]
theorem PI: ∀(c:Sb) (l:List Lk) (j:Nat),j<(Aj c l).length->(∃k I,k<=l.length/\I <(Ap c l k).Aa.length/\j=(pre c l k).length+I /\loc c l j=(k,false))\/(∃k,k<l.length/\j=(pre c l k).length+(Ap c l k).Aa.length/\loc c l j=(k,true))
 |c,[],j,h=> .inl ⟨0,j,Nat.le_refl _,by simpa [Aj,rest,Ap] using h,by simp [pre],rfl⟩
 |c,p::l,j,h=>by
  rw [BW,List.length_append,List.length_cons] at h;by_cases h1:j<c.Aa.length
  . exact .inl ⟨0,j,Nat.zero_le _,h1,by simp [pre],by unfold loc;rw [if_pos h1]⟩
  . by_cases J:j=c.Aa.length
    . exact .inr ⟨0,by simp,by simp [pre,Ap,J],by unfold loc;rw [if_neg h1,if_pos J]⟩
    . rcases PI p.2 l (j-c.Aa.length-1) (by omega) with ⟨k,I,g1,g2,g3,g4⟩|⟨k,g1,g3,g4⟩
      . refine .inl ⟨k+1,I,by simpa using g1,g2, ?_,by unfold loc;rw [if_neg h1,if_neg J,g4]⟩
        simp only [pre,List.length_append,List.length_cons];omega
      . refine .inr ⟨k+1,by simpa using g1, ?_,by unfold loc;rw [if_neg h1,if_neg J,g4]⟩
        simp only [pre,Ap,List.length_append,List.length_cons];omega
structure P9(g:Wh)(T:List It->Nat->Prop):Prop where
 sub: ∀(A B C:List It) (j:Nat),T (A++(B++C)) (A.length+j)->j<B.length->T B j
 leaf: ∀(R:Zr) (Aa:List It) (j:Nat),(∀i∈Aa,i.At R)->AZ (AJ Aa)->T Aa j->j<Aa.length->g R (Ar Aa)=(j,true)
 inner: ∀(R:Zr) (c:Sb) (l:List Lk) (j:Nat),(∀i∈Aj c l,i.At R)->AZ (AJ (Aj c l))->(∀s∈EV c l,s.Aa≠ [])->T (Aj c l) j->j<(Aj c l).length->g R (Al c l)=loc c l j
theorem Nb:P9 Cv (λ_ j=>j=0):=by
 refine⟨λA B C j h _=>by omega,λR Aa j _ _ h I=> ?_,λR c l j _ _ hs h I=> ?_⟩
 . subst h
   unfold Cv Ar;simp;omega
 . subst h
   have h0:c.Aa≠ []:=hs c (by simp [EV]);have J:0<c.Aa.length:=List.length_pos_iff.2 h0;have:=K2 c l 0 0 (Nat.zero_le _) (by cases l<;>exact J)
   rw [show(pre c l 0).length+0=0 by cases l<;>rfl] at this
   rw [this];simp [Cv,Al]
theorem NO:P9 Ci (λAa j=>j+1=Aa.length):=by
 refine⟨λA B C j h I=>by simp only [List.length_append] at h;omega,λR Aa j _ _ h I=> ?_,λR c l j _ _ hs h I=> ?_⟩
 . unfold Ci Ar
   simp;omega
 . have O:Ap c l l.length∈EV c l:=by
    rcases Vr c l l.length with e|⟨p,hp,e⟩
    . rw [e];simp [EV]
    . rw [e];exact List.mem_cons_of_mem _ (List.mem_map.2 ⟨p,hp,rfl⟩)
   have V:0<(Ap c l l.length).Aa.length:=List.length_pos_iff.2 (hs _ O);have J:=K2 c l l.length ((Ap c l l.length).Aa.length-1) (Nat.le_refl _) (by omega);have U:=congrArg List.length (Mz c l);rw [List.length_append] at U;rw [show(pre c l l.length).length+((Ap c l l.length).Aa.length-1)=j by omega] at J;rw [J];simp [Ci,Al]
theorem IX(J:AZ (AJ Aa))(O:j<Aa.length){key:ByteArray}(I:Aa[j].k=key):AE (AJ Aa) key=j/\Bb Aa key=some Aa[j]:=by
 have e:Aa=Aa.take j++Aa[j]::Aa.drop (j+1):=by rw [<-List.drop_eq_getElem_cons O,List.take_append_drop]
 generalize hx:Aa[j]=x at*;have V:(Aa.take j).length=j:=by rw [List.length_take];omega
 generalize Aa.take j=A at*;generalize Aa.drop (j+1)=B at*;subst e;have U:=Vi J;rw [Bq,CT] at J ⊢;constructor
 . rw [C8,HU (IQ J (by rw [show x.pr.1=key from I,(Cp.2 rfl:Tx.cmp key key=0)];omega)),Ev (l:=x.pr::AJ B),Bz]
   . omega
   . intro p hp
     rcases List.mem_cons.1 hp with rfl|hp
     . rw [show x.pr.1=key from I,(Cp.2 rfl:Tx.cmp key key=0)];omega
     . exact Kj J (by rw [show x.pr.1=key from I,(Cp.2 rfl:Tx.cmp key key=0)];omega) p hp
 . rw [D9,Et (λi hi=>by rw [<-I];exact U.1 i hi),Option.none_or]
   simp [Bb,I]
theorem L9(I:AZ (AJ Aa))(hi:i<Aa.length)(J:j<Aa.length)(h:Aa[i].k=Aa[j].k):i=j:=by
 have h1:=(IX I hi (key:=Aa[j].k) h).1;have O:=(IX I J (key:=Aa[j].k) rfl).1;omega
def ZB{P}(h:P:=by
 rw [List.getElem?_eq_getElem O] at ai;exact Option.some.inj ai):=h
theorem Yk(key:ByteArray):P9 (Ha key) (λAa j=> ∃h:j<Aa.length,Aa[j].k=key):=by
 refine⟨λA B C j ⟨h1,V⟩ Z=>⟨Z, ?_⟩,λR Aa j hA I ⟨h1,V⟩ Z=> ?_,λR c l j hA I hs ⟨h1,V⟩ Z=> ?_⟩
 . rw [List.getElem_append_right (by omega)] at V
   rw [List.getElem_append_left (by omega)] at V
   simpa using V
 . obtain⟨aj,al⟩:=IX I Z V
   unfold Ha
   show(DL R (Aa.map (·.kh)) key,Gw R (Aa.map (·.kh)) key)=_
   rw [BZ hA I,Ew hA I,aj,al];rfl
 . obtain⟨af,am,ab,ac⟩:=Zw
   have ag:=Ew (key:=key) am af;rw [List.map_map] at ac ag;have ah:=(λi=>(CO (key:=key) af).2 i);generalize AE (AJ (l.map (·.1))) key=k at ab ac ah;have ae:=ab.le;unfold Ha
   show(DL R (l.map (·.1.kh)) key,Gw R (l.map (·.1.kh)) key)=_
   rw [show l.map (·.1.kh)=List.map ((·.kh) ∘ (·.1)) l from rfl,ac,ag];have hp:=Bu c l k ae
   cases U:Bb (l.map (·.1)) key with
   |some i=>
    obtain⟨g1,g2⟩:=ah i U;rw [List.getElem?_map] at g1;by_cases J:k<l.length
    . rw [List.getElem?_eq_getElem J] at g1
      simp only [Option.map_some,Option.some.injEq] at g1;have O:(pre c l k).length+(Ap c l k).Aa.length<(Aj c l).length:=by
       rw [hp,List.drop_eq_getElem_cons J,BU];simp
      have Gk:(Aj c l)[(pre c l k).length+(Ap c l k).Aa.length]=l[k].1:=by
       have ai:(Aj c l)[(pre c l k).length+(Ap c l k).Aa.length]? =some l[k].1:=by
        rw [hp,List.getElem?_append_right (by omega),List.getElem?_append_right (by omega),List.drop_eq_getElem_cons J,BU];simp
       exact ZB
      have:j=(pre c l k).length+(Ap c l k).Aa.length:=L9 I h1 O (by rw [V,Gk,g1,g2]);rw [this,RS c l k J];rfl
    . exact Yee
   |none=>
    have an:=Yrv;have hg:=ab.gone I an;rw [(IX I h1 V).2] at hg;have ao:=DJ ae I;obtain⟨q1,ar⟩:=(CO ao).2 _ hg.symm;obtain⟨aq,au⟩:=List.getElem?_eq_some_iff.1 q1;have O:(pre c l k).length+AE (AJ (Ap c l k).Aa) key<(Aj c l).length:=(by rw [hp];simp;omega);have Gk:(Aj c l)[(pre c l k).length+AE (AJ (Ap c l k).Aa) key]=(Aj c l)[j]:=by
     have ai:(Aj c l)[(pre c l k).length+AE (AJ (Ap c l k).Aa) key]? =some (Aj c l)[j]:=by
      rw [<-q1]
      conv=>lhs;rw [hp]
      rw [List.getElem?_append_right (by omega),List.getElem?_append_left (by omega)];simp
     exact ZB
    have:(pre c l k).length+AE (AJ (Ap c l k).Aa) key=j:=L9 I O h1 (by rw [Gk]);rw [<-this,K2 c l k _ ae aq];rfl
end Bt
namespace Bt
variable {h j k sz:Nat}{il:List It}{m:It}{nl:List Nat}
structure HP(R R' :Zr)(t a lo:Nat)(s:Sb)(j:Nat)(D:List Nat):Prop where
 tree: ∃ns',At R' t a lo ⟨s.h,s.Aa.eraseIdx j,ns'⟩/\ ∀x,ns'.count x+D.count x=s.ns.count x
 frame: ∀z,z∉s.ns->R' z=R z
 gone: ∀z∈D,R' z=none
section
variable {R R1 R2:Zr} {t a lo:Nat}
theorem Ul{A B C:List It}(I:j<B.length):(A++(B++C)).eraseIdx (A.length+j)=A++(B.eraseIdx j++C):=by
 rw [List.eraseIdx_append_of_length_le (by omega),show A.length+j-A.length=j by omega,List.eraseIdx_append_of_lt_length I]
theorem descend(ax:BN.A0 t){I:Nat}{c:Sb}{l:List Lk}{D:List Nat}(O:k<=l.length)(ah:R2 h=some ((AV c l sz).wd t))(ai:(AV c l sz).Fits t)(aj:h∉Ax c l)(al:(Ax c l).Nodup)
 (am:At R2 t a (t-1) c) (an: ∀p∈l,At R2 t a (t-1) p.2) (af:j=(pre c l k).length+I) (ao :I <(Ap c l k).Aa.length) (ay:sz+1=(Aj c l).length) (aq:HP R2 R1 t a (t-1) (Ap c l k) I D) (ar:lo<=l.length):
 ∃J,At R1 t (a+1) lo ⟨h,(Aj c l).eraseIdx j,J⟩/\ ∀x,J.count x+D.count x=(h::Ax c l).count x:=by
 obtain⟨⟨J,g1,g2⟩,g3,g4⟩:=aq;have U:=Gl (a:=a) (lo:=t-1) O al am an (λz _ au=>g3 z au) g1;have hlen:=CU c l k ⟨(Ap c l k).h,(Ap c l k).Aa.eraseIdx I,J⟩ O;have aa:=EZ c l k ⟨(Ap c l k).h,(Ap c l k).Aa.eraseIdx I,J⟩ O rfl;have ab:=Ex c l k ⟨(Ap c l k).h,(Ap c l k).Aa.eraseIdx I,J⟩ O;have ac:=DZ c l k ⟨(Ap c l k).h,(Ap c l k).Aa.eraseIdx I,J⟩ O;have V:=λx=>Gi c l k ⟨(Ap c l k).h,(Ap c l k).Aa.eraseIdx I,J⟩ x O
 have Z:Aj (AM c l k ⟨(Ap c l k).h,(Ap c l k).Aa.eraseIdx I,J⟩).1 (AM c l k ⟨(Ap c l k).h,(Ap c l k).Aa.eraseIdx I,J⟩).2=(Aj c l).eraseIdx j:=by
  rw [ab,af]
  conv=>rhs;rw [Bu c l k O]
  rw [Ul ao]
 have hle:((Aj c l).eraseIdx j).length=sz:=by
  have aw:j<(Aj c l).length:=by rw [af,Bu c l k O];simp;omega
  rw [List.length_eraseIdx,if_pos aw];omega
 dsimp only at V;generalize AM c l k ⟨(Ap c l k).h,(Ap c l k).Aa.eraseIdx I,J⟩=cl at U hlen aa ab ac V Z;obtain⟨ae,l'⟩:=cl;dsimp only at U hlen aa ab ac V Z;have ag:Al ae l' =AV c l sz:=by
  rw [<-We,Z,hle];exact WT ac aa
 refine⟨h::Ax ae l',⟨ae,l',Z.symm,rfl,by rw [hlen];exact ar,⟨?_,by rw [ag];exact ai⟩,U.1,U.2⟩,λx=> ?_⟩
 . rw [ag,<-ah]
   exact g3 h λhm=>aj (D4 O hm)
 . have h1:=V x
   have az:=g2 x;simp only [List.count_cons];omega
theorem FX(J:BN.A0 t)(O:1<=t-1){s:Sb}(h:At R t a (t-1) s):s.Aa≠ []:=by
 obtain⟨n,_,U,_,_,I⟩:=h.nd;intro e;rw [e,List.length_nil] at I;omega
structure Kg(R R1:Zr)(t a h:Nat)(c:Sb)(l:List Lk)(c2:Sb)(l2:List Lk)(k2 j2 j:Nat)(D1:List Nat)(lo:Nat):Prop where
 Aa:Aj c2 l2=Aj c l
 kle:k2<=l2.length
 pos:j=(pre c2 l2 k2).length+j2
 lt:j2<(Ap c2 l2 k2).Aa.length
 cnt: ∀x,(Ax c2 l2).count x+D1.count x=(Ax c l).count x
 c0:At R1 t a (t-1) c2
 l0: ∀p∈l2,At R1 t a (t-1) p.2
 Ap:At R1 t a t (Ap c2 l2 k2)
 frame: ∀z,z∉Ax c l->R1 z=R z
 gone: ∀z∈D1,R1 z=none
 fits:(Al c2 l2).Fits t
 len:lo-1<=l2.length
def Yde{P}(h:P:=by
 have h1:=aj z;have J:=List.count_pos_iff.2 I;exact List.count_pos_iff.1 (by omega)):=h
theorem Pf(aw:BN.A0 t){g:Wh}{T:List It->Nat->Prop}(hw:P9 g T){f k2 J:Nat}{c c2:Sb}{l l2:List Lk}{D1:List Nat}(ax:Kg R R1 t a h c l c2 l2 k2 J j D1 lo)(ay:Rec R t h)(hh:h∉Ax c l)(an:(Ax c l).Nodup)(hA: ∀i∈Aj c l,i.At R)(ao: ∀i∈Aj c l,∀z∈i.hs,z∉h::Ax c l)(az:AZ (AJ (Aj c l)))(aA:T (Aj c l) j)(aT:(Aj c l).length<18446744073709551616)(aB:R 0=none)(aq:0∉h::Ax c l)
 (aC: ∀(s:Sb) (j:Nat) (R:Zr),At R t a t s->R 0=none->s.ns.Nodup->(∀i∈s.Aa,i.At R)->(∀i∈s.Aa,∀z∈i.hs,z∉s.ns)->AZ (AJ s.Aa)->T s.Aa j->(O:j<s.Aa.length)->s.Aa.length<18446744073709551616-> ∃R' D,AR t f R s.h g=(R',D,(s.Aa[j].kh,s.Aa[j].vh))/\HP R R' t a (t-1) s j D)
 (O:j<(Aj c l).length):
 ∃R' D,AR.tkOn t h R1 (AV c2 l2 ((Aj c l).length-1)) D1 k2 (λR x=>AR t f R x g)=(R',D,((Aj c l)[j].kh,(Aj c l)[j].vh))/\HP R R' t (a+1) (lo-1) ⟨h,Aj c l,h::Ax c l⟩ j D:=by
 obtain⟨q1,U,ag,Z,aj,aD,aE,aF,aa,aG,aH,aI⟩:=ax;have ah: ∀z,z∈Ax c2 l2->z∈Ax c l:=λz I=>by
  exact Yde
 have ab:h∉Ax c2 l2:=λhm=>hh (ah h hm)
 have ar:(Ax c2 l2).Nodup:=by
  rw [List.nodup_iff_count];intro x;have h1:=aj x;have ac:=List.nodup_iff_count.1 an x;omega
 have aJ: ∀z∈D1,z∉Ax c2 l2/\z∈Ax c l:=λz I=>by
  have h1:=aj z;have ac:=List.nodup_iff_count.1 an z;have aU:=List.count_pos_iff.2 I;exact⟨λhm=>by have:=List.count_pos_iff.2 hm;omega,List.count_pos_iff.1 (by omega)⟩
 obtain⟨ws,w1,w2⟩:=ay;have aK:R1 h=some ws:=(aa h hh).trans w1;have au:(AV c2 l2 ((Aj c l).length-1)).Fits t:=aH;have aL:Bp R1 t h (AV c2 l2 ((Aj c l).length-1))=AQ R1 h (some ((AV c2 l2 ((Aj c l).length-1)).wd t)):=B8 au aK w2;obtain⟨R2,al⟩:=Zx (AQ R1 h (some ((AV c2 l2 ((Aj c l).length-1)).wd t)));have V: ∀z,z≠h->R2 z=R1 z:=λz I=>by rw [al];exact Aw I
 have ae: ∀z,z∈(Ap c2 l2 k2).ns->z∈Ax c2 l2:=λz I=>D4 U I
 have am: ∀i,i∈(Ap c2 l2 k2).Aa->i∈Aj c l:=λi hi=>by rw [<-q1];exact Hg U hi
 have aM: ∀i∈Aj c l,∀z∈i.hs,R2 z=R z:=λi hi z I=>by
  have h1:=ao i hi z I;simp only [List.mem_cons,not_or] at h1;rw [V z h1.1,aa z h1.2]
 have aN:At R2 t a t (Ap c2 l2 k2):=aF.congr λz I=>V z λe=>ab (by rw [<-e];exact ae z I)
 have af:=Bu c2 l2 k2 U;rw [q1] at af;have aO:T (Ap c2 l2 k2).Aa J:=by
  refine hw.sub (pre c2 l2 k2) _ (rest (l2.drop k2)) J ?_ Z;rw [<-ag,<-af];exact aA
 obtain⟨R3,D,g1,g2⟩:=aC (Ap c2 l2 k2) J R2 aN (by rw [V 0 (λe=>aq (by rw [<-e];simp)),aa 0 (λhm=>aq (List.mem_cons_of_mem _ hm))];exact aB) (Ib U ar) (λi hi=>(hA i (am i hi)).congr λz I=>aM i (am i hi) z I)
  (λi hi z I hm=>ao i (am i hi) z I (List.mem_cons_of_mem _ (ah z (ae z hm)))) (DJ U (by rw [q1];exact az)) aO Z (by
   have ai:=congrArg List.length af;rw [List.length_append,List.length_append] at ai;omega)
 have aP:=ER c2 l2 k2 U;have aQ:(AV c2 l2 ((Aj c l).length-1)).kids.getD k2 0=(Ap c2 l2 k2).h:=by
  show(c2.h::l2.map (·.2.h)).getD k2 0=_
  rw [List.getD_eq_getElem?_getD,aP];rfl
 obtain⟨aR,g3,g4⟩:=descend (lo:=lo-1) aw (h:=h) (sz:=(Aj c l).length-1) U (by rw [al];exact AT _ _ _) au ab ar (aD.congr λz I=>V z λe=>ab (by rw [<-e];exact List.mem_append.2 (.inl I))) (λp hp=>(aE p hp).congr λz I=>V z λe=>ab (by rw [<-e];exact C7 hp I)) ag Z (by rw [q1];omega) g2 aI;have aS:(Aj c l)[j]=(Ap c2 l2 k2).Aa[J]:=by
  have ai:(Aj c l)[j]? =some (Ap c2 l2 k2).Aa[J]:=by
   rw [af,ag,List.getElem?_append_right (by omega),show(pre c2 l2 k2).length+J-(pre c2 l2 k2).length=J by omega,List.getElem?_append_left Z,List.getElem?_eq_getElem Z]
  exact ZB
 refine⟨R3,D1++D, ?_,⟨aR, ?_,λx=> ?_⟩,λz I=> ?_,λz I=> ?_⟩
 . unfold AR.tkOn
   rw [aL,<-al,aQ];dsimp only;rw [g1,aS]
 . rw [q1] at g3;exact g3
 . have h1:=g4 x
   have ac:=aj x;simp only [List.count_cons,List.count_append] at h1 ⊢;omega
 . simp only [List.mem_cons,not_or] at I
   rw [g2.frame z λhm=>I.2 (ah z (ae z hm)),V z I.1,aa z I.2]
 . rcases List.mem_append.1 I with I|I
   . have h1:=aJ z I
     have ac:z≠h:=(λe=>hh (by rw [<-e];exact h1.2));rw [g2.frame z λhm=>h1.1 (ae z hm),V z ac];exact aG z I
   . exact g2.gone z I
theorem NV(c:Sb)(l:List Lk)(k x:Nat)(I:k<=l.length):(Ap c l k).ns.count x<=(Ax c l).count x:=by
 have:=Gi c l k ⟨0,[],[]⟩ x I;simp at this;omega
theorem Cm{c:Sb}{l:List Lk}(I:k<=l.length):Bl R t (AV c l sz) k=decide (t<=(Af R t (Ap c l k).h).keys.length):=by
 unfold Bl;have J:=ER c l k I;have O:(AV c l sz).kids.getD k 0=(Ap c l k).h:=by
  show(c.h::l.map (·.2.h)).getD k 0=_
  rw [List.getD_eq_getElem?_getD,J];rfl
 rw [O,decide_eq_true (by show k<(c.h::l.map (·.2.h)).length;simp;omega),Bool.true_and]
theorem Td{c:Sb}{l:List Lk}(I:l.length<k):Bl R t (AV c l sz) k=false:=by
 unfold Bl;rw [decide_eq_false (by show¬k<(c.h::l.map (·.2.h)).length;simp;omega),Bool.false_and]
theorem Rg{c I :Sb}{l l' :List Lk}(J:(Al c l).Fits t)(h1:l'.length=l.length)(O: ∀x,x∈I.h::l'.map (·.2.h)->x∈c.h::l.map (·.2.h)):(Al I l').Fits t:=CC (by
 have:=J.1;rw [(DP c l).1] at this;omega) (λhm=>by
 rcases J.2.2 with h|h
 . exact absurd h (by simp [Al])
 . exact h.2 (O 0 hm))
theorem WS {c I :Sb}{l l' :List Lk}(J:(Al c l).Fits t)(h1:l'.length<=l.length)(O: ∀x,x∈I.h::l'.map (·.2.h)->x∈c.h::l.map (·.2.h)):(Al I l').Fits t:=CC (by
 have:=J.1;rw [(DP c l).1] at this;omega) (λhm=>by
 rcases J.2.2 with h|h
 . exact absurd h (by simp [Al])
 . exact h.2 (O 0 hm))
def Ydx{P}(h:P:=by
 simp only [List.flatMap_cons,List.count_append,Ax] at g1 ⊢;omega):=h
def Yh{P}(h:P:=by
 have I:Ax c (A++(m,d)::B)=Ax c A++Ax d B:=Em c A m d B;exact I):=h
def Yog{P}(h:P:=by
 have I: ∀z,z∈(Ap c A A.length).ns->z∈Ax c A:=λz J=>D4 (Nat.le_refl _) J
 exact I):=h
theorem NZ{c d:Sb}{A B:List Lk}{m':It}{id:List It}{nd:List Nat}(O:(Ax c (A++(m,d)::B)).Nodup)(ab:At R t a (t-1) c)(U: ∀p∈A++(m,d)::B,At R t a (t-1) p.2)(ac:(Al c (A++(m,d)::B)).Fits t)
 (ae: ∀x,nl.count x+nd.count x=(Ap c A A.length).ns.count x+d.ns.count x) (J: ∀z,z∉(Ap c A A.length).ns->z∉d.ns->R1 z=R z)
 (h1:At R1 t a (t-1) ⟨(Ap c A A.length).h,il,nl⟩) (af:At R1 t a (t-1) ⟨d.h,id,nd⟩) (c2:Sb) (l2:List Lk) (V:(c2,l2)=rep c A ⟨(Ap c A A.length).h,il,nl⟩ ((m',⟨d.h,id,nd⟩)::B)):
 (∀x,(Ax c2 l2).count x=(Ax c (A++(m,d)::B)).count x)/\At R1 t a (t-1) c2/\(∀p∈l2,At R1 t a (t-1) p.2)/\(∀z,z∉Ax c (A++(m,d)::B)->R1 z=R z)/\(Al c2 l2).Fits t/\l2.length=(A++(m,d)::B).length/\
 Aj c2 l2=pre c A A.length++(il++m' ::(id++rest B))/\Ap c2 l2 A.length=⟨(Ap c A A.length).h,il,nl⟩/\Ap c2 l2 (A.length+1)=⟨d.h,id,nd⟩/\pre c2 l2 A.length=pre c A A.length/\pre c2 l2 (A.length+1)=pre c A A.length++(il++ [m']):=by
 have ag:c2=(rep c A ⟨(Ap c A A.length).h,il,nl⟩ ((m',⟨d.h,id,nd⟩)::B)).1:=congrArg Prod.fst V;have ah:l2=(rep c A ⟨(Ap c A A.length).h,il,nl⟩ ((m',⟨d.h,id,nd⟩)::B)).2:=congrArg Prod.snd V;subst ag ah;have ai:=Yh;rw [ai] at O ⊢;obtain⟨n1,n2,n3⟩:=List.nodup_append.1 O;have aj:(d.ns++B.flatMap λp=>p.2.ns).Nodup:=n2;obtain⟨n5,n6,n7⟩:=List.nodup_append.1 aj;have Z:=Yog;have aa:=ML (R:=R) (R1:=R1) (a:=a) (lo:=t-1) (L:=⟨(Ap c A A.length).h,il,nl⟩) (X:=(m',⟨d.h,id,nd⟩)::B) n1 ab (λp hp=>U p (List.mem_append.2 (.inl hp))) (λz I al=>J z al λhm=>n3 z I z (List.mem_append.2 (.inl hm)) rfl) h1 (λp hp=>by
  rcases List.mem_cons.1 hp with rfl|hp
  . exact af
  . exact(U p (by simp [hp])).congr λz I=>J z (λhm=>n3 z (Z z hm) z (List.mem_append.2 (.inr (List.mem_flatMap.2 ⟨p,hp,I⟩))) rfl) (λhm=>n7 z hm z (List.mem_flatMap.2 ⟨p,hp,I⟩) rfl))
 refine⟨λx=> ?_,aa.1,aa.2,λz I=>J z (λhm=>I (List.mem_append.2 (.inl (Z z hm)))) (λhm=>I (List.mem_append.2 (.inr (List.mem_append.2 (.inl hm))))), ?_, ?_, ?_,Rr,Wq,RI,VZ⟩
 . have g1:=MO (c:=c) (A:=A) (L:=⟨(Ap c A A.length).h,il,nl⟩) (X:=(m',⟨d.h,id,nd⟩)::B) x
   have g2:=ae x;rw [List.count_append];exact Ydx
 . refine Rg ac (by rw [Hn];simp) λx hx=> ?_
   rw [Ki (by rfl)] at hx
   simpa using hx
 . rw [Hn];simp
 . rw [Of];rfl
theorem T2{c d:Sb}{A B:List Lk}(O:(Ax c (A++(m,d)::B)).Nodup)(ab:At R t a (t-1) c)(U: ∀p∈A++(m,d)::B,At R t a (t-1) p.2)(ac:(Al c (A++(m,d)::B)).Fits t)
 (ae: ∀x,nl.count x+ [d.h].count x=(Ap c A A.length).ns.count x+d.ns.count x) (J: ∀z,z∉(Ap c A A.length).ns->z∉d.ns->R1 z=R z)
 (h1:At R1 t a (t-1) ⟨(Ap c A A.length).h,il,nl⟩) (c2:Sb) (l2:List Lk) (V:(c2,l2)=rep c A ⟨(Ap c A A.length).h,il,nl⟩ B):
 (∀x,(Ax c2 l2).count x+ [d.h].count x=(Ax c (A++(m,d)::B)).count x)/\At R1 t a (t-1) c2/\(∀p∈l2,At R1 t a (t-1) p.2)/\(∀z,z∉Ax c (A++(m,d)::B)->R1 z=R z)/\(Al c2 l2).Fits t/\l2.length+1=(A++(m,d)::B).length/\
 Aj c2 l2=pre c A A.length++(il++rest B)/\Ap c2 l2 A.length=⟨(Ap c A A.length).h,il,nl⟩/\pre c2 l2 A.length=pre c A A.length:=by
 have af:c2=(rep c A ⟨(Ap c A A.length).h,il,nl⟩ B).1:=congrArg Prod.fst V;have ag:l2=(rep c A ⟨(Ap c A A.length).h,il,nl⟩ B).2:=congrArg Prod.snd V;subst af ag;have ah:=Yh;rw [ah] at O ⊢;obtain⟨n1,n2,n3⟩:=List.nodup_append.1 O;have ai:(d.ns++B.flatMap λp=>p.2.ns).Nodup:=n2;obtain⟨n5,n6,n7⟩:=List.nodup_append.1 ai;have Z:=Yog
 have aa:=ML (R:=R) (R1:=R1) (a:=a) (lo:=t-1) (L:=⟨(Ap c A A.length).h,il,nl⟩) (X:=B) n1 ab (λp hp=>U p (List.mem_append.2 (.inl hp))) (λz I aj=>J z aj λhm=>n3 z I z (List.mem_append.2 (.inl hm)) rfl) h1 (λp hp=>
  (U p (by simp [hp])).congr λz I=>J z (λhm=>n3 z (Z z hm) z (List.mem_append.2 (.inr (List.mem_flatMap.2 ⟨p,hp,I⟩))) rfl) (λhm=>n7 z hm z (List.mem_flatMap.2 ⟨p,hp,I⟩) rfl))
 refine⟨λx=> ?_,aa.1,aa.2,λz I=>J z (λhm=>I (List.mem_append.2 (.inl (Z z hm)))) (λhm=>I (List.mem_append.2 (.inr (List.mem_append.2 (.inl hm))))), ?_, ?_,Of,Rr,RI⟩
 . have g1:=MO (c:=c) (A:=A) (L:=⟨(Ap c A A.length).h,il,nl⟩) (X:=B) x
   have g2:=ae x;rw [List.count_append];simp only [List.count_append,Ax] at g1 ⊢;omega
 . refine WS ac (by rw [Hn];simp) λx hx=> ?_
   rw [Ki (by rfl)] at hx;simp only [List.mem_append,List.mem_cons,List.map_append,List.map_cons] at hx ⊢;rcases hx with (h|h)|h
   . exact .inl h
   . exact .inr (.inl h)
   . exact .inr (.inr (.inr h))
 . rw [Hn];simp;omega
theorem HF(c:Sb)(A:List Lk)(m:It)(d:Sb)(B:List Lk):Aj c (A++(m,d)::B)=pre c A A.length++((Ap c A A.length).Aa++m::(d.Aa++rest B)):=by
 rw [CW,Mz];simp [Aj]
end
end Bt
