/- A part. -/
import Derived.Test.YtiopopoohglepaaGreatDoorPMt
set_option linter.all false
set_option maxRecDepth 100000
set_option maxHeartbeats 8000000
namespace Go.Proofs.YtiopopoohglepaaGreatDoor
open Go.Proofs.Tryz
open Go Go.RowKit
variable {B:Nat->Prop}{W w:World}{i id:Nat}{p:Addr}{v:Value}
inductive St where
 |r (i:Nat)
 |a (k:Nat)
section
variable {P:Program} {ops:Array Oper} {md:Region.Mode} {Q:Exit->Act->World->Prop} {C:World->Prop}
def GY(md:Region.Mode)(ops:Array Oper):List St->Array Bool->Bool
 | [],listed=>(Region.ready md ops listed).isEmpty
 | .r i::s,listed=>(Region.ready md ops listed).contains i&&Region.free md ops listed i&&GY md ops s (listed.setIfInBounds i true)
 | .a k::s,listed=>decide (Region.ready md ops listed= [k])&&GY md ops s (listed.setIfInBounds k true)
def CX(P:Program)(ops:Array Oper)(Q:Exit->Act->World->Prop):List St->(World->Prop)->Act->World->Prop
 | [],_,a,w=>Q .normal a w
 | .r i::s,C,a,w=> ∃o v,ops[i]? =some o/\BX P ops C o v a/\CX P ops Q s C (a.put o.dst v) w
 | .a k::s,C,a,w=> ∃o,ops[k]? =some o/\wpList P ops (Qr (λa' w' => ∃C' :World->Prop,C' w' /\(∀x,C' x->C x)/\CX P ops Q s C' a' w') Q) [o] a w
theorem AP{a:Act}(h:Q .normal a w):CX P ops Q [] C a w:=h
theorem CM{s:List St}{a:Act}(o:Oper)(v:Value)(hi:ops[i]? =some o)(h1:Region.wanted o (yielded ops a.tmps)=true)(I: ∀w,C w->(execOp a.eval o).run P w= .ok (.value v) w)(h:CX P ops Q s C (a.put o.dst v) w):CX P ops Q (.r i::s) C a w:=
 ⟨o,v,hi, .inl ⟨h1,I⟩,h⟩
theorem AH{s:List St}{a:Act}{o:Oper}(h:CX P ops Q s C (a.put o.dst v) w)(hi:ops[i]? =some o:=by exact rfl)(h1:Region.wanted o (yielded ops a.tmps)=true:=by exact rfl)(I: ∀w,C w->(execOp a.eval o).run P w= .ok (.value v) w:=by rintro _ ⟨X,rfl⟩;go_simp;exact rfl):CX P ops Q (.r i::s) C a w:=
 CM o v hi h1 I h
theorem El{s:List St}{a:Act}(o:Oper)(hi:ops[i]? =some o)(h1:Region.wanted o (yielded ops a.tmps)=false)(h:CX P ops Q s C (a.put o.dst undef) w):CX P ops Q (.r i::s) C a w:=
 ⟨o,undef,hi, .inr ⟨h1,rfl⟩,h⟩
theorem AI{k:Nat}{s:List St}{a:Act}(o:Oper)(I:ops[k]? =some o)(h: ∀K:Act->World->Prop,(∀a' w',C w' ->CX P ops Q s C a' w' ->K a' w')->wpList P ops (Qr K Q) [o] a w):CX P ops Q (.a k::s) C a w:=
 ⟨o,I,h _ (λ_ _ h1 J=>⟨C,h1,λ_ h=>h,J⟩)⟩
theorem Db.mono{I :World->Prop}(J: ∀x,I x->C x): ∀(f:Nat) (listed:Array Bool) (a:Act) (w:World),Db P md ops Q I f listed a w->Db P md ops Q C f listed a w
 |0,_,_,_,h=>h
 |f+1,_,_,_,h=>⟨h.1,λi hi=>wpOp_mono (λa' w' O =>⟨J _ O.1,Db.mono J f _ a' w' O.2⟩) (h.2 i hi)⟩
theorem E7(I:Region.noSelect ops=true)(J: ∀c a d v w,Q (.panic c) (Act.put a d v) w->Q (.panic c) a w):
 ∀(s:List St) (C:World->Prop) (listed:Array Bool) (a:Act) (w:World),C w->GY md ops s listed=true->CX P ops Q s C a w->Db P md ops Q C s.length listed a w
 | [],C,listed,a,w,hC,hB,h=>⟨by simpa [GY] using hB,h⟩
 | .r i::s,C,listed,a,w,hC,hB,h=>by
   obtain⟨o,v,h0,U,V⟩:=h;simp only [GY,Bool.and_eq_true] at hB;obtain⟨⟨Z,aa⟩,ab⟩:=hB
   exact JC h0 (Region.noSelect_spec I) (λc a w h=>J c a _ _ w h) s.length listed a w (Region.free_spec h0 aa) (by simpa using Z) U hC
    (E7 I J s C _ _ w hC ab V)
 | .a k::s,C,listed,a,w,hC,hB,h=>by
   obtain⟨o,h0,h⟩:=h;simp only [GY,Bool.and_eq_true,decide_eq_true_eq] at hB;refine⟨λh1=>(by rw [hB.1] at h1;cases h1),λi hi=> ?_⟩;rw [hB.1] at hi;obtain rfl:i=k:=by simpa using hi
   exact wpOp_mono (λa' w' ⟨ac,h1,O,ae⟩=>⟨O _ h1,Db.mono O _ _ _ _ (E7 I J s ac _ a' w' h1 hB.2 ae)⟩) (Dl h0 h)
theorem LK{a:Act}{l:List Oper}(C:World->Prop)(s:List St)(hm:P.follows .mixedOrders=true)(I:Region.noSelect l.toArray=true)(hlen:s.length=l.length)
 (J:GY .any l.toArray s (Array.replicate l.toArray.size false)=true) (O:C { w with drawn:=w.drawn+1 }) (U: ∀c a d v w,Q (.panic c) (Act.put a d v) w->Q (.panic c) a w)
 (h:CX P l.toArray Q s C a { w with drawn:=w.drawn+1 }):(Code.region id l.toArray true).wp P Q a w:=by
 refine wp_region_any hm (Db.any (C:=C) _ _ _ _ ?_);have:=E7 (md:= .any) I U s C (Array.replicate l.toArray.size false) a _ O J h;rw [hlen] at this
 simpa using this
theorem As{a:Act}{l:List Oper}(C:World->Prop)(s:List St)(I:C { w with drawn:=w.drawn+1 })(h:CX P l.toArray Q s C a { w with drawn:=w.drawn+1 })(hm:P.follows .mixedOrders=true:=by kernel_rfl)(J:Region.noSelect l.toArray=true:=by kernel_rfl)(hlen:s.length=l.length:=by rfl)(O:GY .any l.toArray s (Array.replicate l.toArray.size false)=true:=by kernel_rfl)(U: ∀c a d v w,Q (.panic c) (Act.put a d v) w->Q (.panic c) a w:=by intro _ _ d _ _ h;cases d<;>exact h):(Code.region id l.toArray true).wp P Q a w:=
 LK C s hm J hlen O I U h
end
structure Au(B:Nat->Prop)(w:World) where
 W:World
 size:w.heap.size<=W.heap.size
 same: ∀k,k<w.heap.size-> ¬B k->W.heap[k]? =w.heap[k]?
theorem Au.cell(I:w.cell? p=some v)(J: ¬B p.block)(X:Au B w):X.W.cell? p=some v:=by
 have O:p.block<w.heap.size:=by
  exact Ydw
 have:=X.same p.block O J;unfold World.cell? at I ⊢;rw [this];exact I
theorem Ay(B:Nat->Prop)(w:World): ∃X:Au B w,{ w with drawn:=w.drawn+1 }=X.W:=⟨⟨{ w with drawn:=w.drawn+1 },Nat.le_refl _,λ_ _ _=>rfl⟩,rfl⟩
theorem Ag(h:Below w.heap.size w W): ∃X:Au B w,W=X.W:=⟨⟨W,h.size,λk I _=>h.block k I⟩,rfl⟩
theorem Ck{W':World}(h: ∃X:Au B w,W=X.W)(I:Below W.heap.size W W'): ∃X:Au B w,W' =X.W:=by
 obtain⟨X,rfl⟩:=h;exact⟨⟨W',Nat.le_trans X.size I.size,λk J O=>(I.block k (Nat.lt_of_lt_of_le J X.size)).trans (X.same k J O)⟩,rfl⟩
theorem Bj(h: ∃X:Au B w,W=X.W)(hp:B p.block)(v:Value): ∃X:Au B w,W.setCell p v=X.W:=by
 obtain⟨X,rfl⟩:=h;refine⟨⟨X.W.setCell p v,by simpa [World.setCell] using X.size,λk J I=> ?_⟩,rfl⟩;rw [<-X.same k J I];exact Below.heap_setCell _ _ _ _ λe=>I (by rw [e];exact hp)
section
variable {F:Fence} {n:Nat} {P:Program} {ops:Array Oper} {md:Region.Mode} {Q:Exit->Act->World->Prop} {C:World->Prop}
end
end Go.Proofs.YtiopopoohglepaaGreatDoor
namespace Go.Proofs.YtiopopoohglepaaGreatDoor
open Go.Proofs.Tryz
open Go.RowKit Go.Shelf
def S7:Option (Nat × Nat)->Value
 |some (k,v)=> .agg #[.int .u64 k, .int .u64 v]
 |none=> .agg #[.int .u64 0, .int .u64 0]
theorem AK.Ny{w:World}{F:Nat->Prop}{A:Option Addr}{l:List Nat}(h:AK w F A (AF l)){k:Nat}(J:k<l.length): ∃b o,A=some ⟨b,o,none⟩/\b<w.heap.size/\ ¬F b/\ ∀W,Below w.heap.size w W->W.cell? ⟨b,o+k,none⟩=some (.int .u64 (l[k]:Nat)):=by
 rcases h with h|⟨b,o,h1,I,O,U⟩
 . exact Yfz
 . exact⟨b,o,h1,I,O,λW V=>(V.cell (p:=⟨b,o+k,none⟩) I).trans (U k _ (EM J))⟩
theorem BE{W:World}{b:Nat}{T:TypeId}{vs:List Value}(h:An W b T vs):An W.drew b T vs:=h.block rfl
section
variable {w w' :World} {s N:Nat} {R:Zr} {nn:Nat}
def Xh{P}(h:P:=by
 rcases bh.out with ac|ac
 . exact absurd ac ag
 . omega):=h
def Ygq{P}(h:P:=by
 have I:=Zh (a9.trans (aa.mono a9.size));exact I):=h
def OZ{P}(h:P:=by
 have I:=Zh (al.trans (Z.mono al.size));exact I):=h
def Xa{P}(h:P:=by
 have I:Below w.heap.size w aq:=by rw [aC];exact((Below.refl _ w).alloc (Nat.le_refl _) _).alloc (by simp) _
 exact I):=h
def Yhp{P}(h:P:=by
 have l1:n.keys.length<=31:=by omega
 have l3:n.kids.length<=32:=by
  rcases aU with ac|ac
  . rw [ac];simp
  . omega
 have I:C3 ai (λ_=>False) (.agg #[.slice aA n.keys.length q1, .slice aD n.Ab.length aw, .slice ax n.kids.length au, .int .u64 n.size]) n:=aP.MD (F:=λ_=>False) (λ_ h=>h.elim) n.size (by omega) (by omega) (by omega);exact And.intro l1 (And.intro l3 I)):=h
def Oo{P}(h:P:=by
 have I:=Zh (And.intro an ar);have J:=Zh aj;exact And.intro I J):=h
def QG{P}(h:P:=by
 have I:=Zh (And.intro aC (And.intro aB aN));exact I):=h
def Se{P}(h:P:=by
 have I:=Zh ((ay.set 0 (.int .u64 0)).set 1 (.int .u64 0));exact I):=h
def Zm{P}(h:P:=by
 have aE:=Zh aQ;have aP:=Zh (am.below aJ);exact And.intro aE aP):=h
def Ykc{P}(h:P:=by
 have I:=Zh aS;have bh:Hid (n.kids= []\/n.kids.length=n.keys.length+1):=Zh (aU.imp id And.left);exact And.intro I bh):=h
def VT{P}(h:P:=by
 have I:0<n.kids.length:=List.length_pos_iff.2 ag;exact I):=h
def YV{P}(h:P:=by
 have I:k<=n.keys.length:=by rw [az];exact(MN _ _ 0 _ (Nat.zero_le _)).2
 exact I):=h
def Yln{P}(h:P:=by
 have I:Below wr.heap.size wr ai:=aT.trans (aJ.mono aT.size);exact I):=h
def Yna{P}(h:P:=by
 have I:=Zh (DS (aK.below aI) t aH y aX);exact I):=h
def Yoq{P}(h:P:=by
 have I:ah=true->k<n.keys.length:=by rw [az,aR];unfold Gw;simp;intro h1 _;exact h1
 exact I):=h
def Ypz{P}(h:P:=by
 have d1:decide ((n.kids.length:Int)>0)=true:=decide_eq_true (by omega);exact d1):=h
theorem U3(h:Rd N w s R nn)(cM:A6 R){t:Nat}(b9:BN.A0 t)(x:Nat)(hx:x<18446744073709551616)(key:ByteArray):
 Calls prog 70 #[.agg #[.pointer (some ⟨s,0,none⟩), .int .i64 t], .int .u64 x, .string key] w λe w' =>e= .returned (.tuple #[S7 (Bv R t key 40 x 0).1, .bool (Bv R t key 40 x 0).1.isSome, .int .i64 (Bv R t key 40 x 0).2])/\Below w.heap.size w w' :=by
 have cN:=OO;have aK:=Zh h;have aH:=Zh b9;obtain⟨aq,aC⟩:=Zx ((w.alloc (Obj.cells #[.pointer (some ⟨s,0,none⟩), .int .i64 t] 96)).alloc (Obj.cells #[.int .u64 0, .int .u64 0] 31));have cb:=Xa;obtain⟨cc,aB⟩:=Zx w.heap.size;obtain⟨b6,aN⟩:=Zx (w.heap.size+1);have a4:An aq cc 96 [.pointer (some ⟨s,0,none⟩), .int .i64 t]:=by rw [aC,aB];exact(An.new w 96 [.pointer (some ⟨s,0,none⟩), .int .i64 t]).alloc _
 have x6:An aq b6 31 [.int .u64 0, .int .u64 0]:=by
  rw [aC,aN];have:=An.new (w.alloc (Obj.cells #[.pointer (some ⟨s,0,none⟩), .int .i64 t] 96)) 31 [.int .u64 0, .int .u64 0];exact Ycd
 have g6:w.heap.size<=b6:=by omega
 have cd:cc≠b6:=by omega
 have bI:=QG;have ce:=Zh cb;have bd:=Zh a4;have bc:=Zh x6;have bp:Hid (∀o b W,Bv R t key 40 x 0=(o,b)->Below w.heap.size w W->(Ending.returned (.tuple #[S7 o, .bool o.isSome, .int .i64 b])=Ending.returned (.tuple #[S7 (Bv R t key 40 x 0).1, .bool (Bv R t key 40 x 0).1.isSome, .int .i64 (Bv R t key 40 x 0).2])/\Below w.heap.size w W)):=Zh (λo b W h1 cO=>⟨by rw [h1],cO⟩);obtain⟨D,cf⟩:=Zx (Bv R t key 40 x 0);have bf:=Zh cf;clear h b9 aC aB aN a4 x6 cb cf;go_enter func70,ntmps70;go_wp2;rw [<-bI.1,<-bI.2.2,<-bI.2.1]
 go_loopw [1,8,14] (λcP bv bJ wr=> ∃(i bK :Nat) (b:Int),i<=40/\bK <18446744073709551616/\cP= .int .u64 bK /\bv= .int .i64 b/\bJ= .int .i64 i/\Hid (D=Bv R t key (40-i) bK b)/\Hid (Below aq.heap.size aq wr)) (λ_ _ bJ _=>40-(intOf bJ).toNat)
 case atStart=>exact⟨0,x,0,by omega,hx,rfl,rfl,rfl,bf,Zh (Below.refl _ _)⟩
 case round=>
  obtain⟨i,y,b,hi,aX,rfl,rfl,rfl,hd,ah⟩:=hrel;have aI:=ce.trans (ah.mono ce.size);have ae:=Zh aI;obtain⟨ay,bL⟩:=Yhj;obtain⟨⟨bg,bi⟩,bj,bk⟩:=CV ay.out;obtain⟨bC,bD⟩:=AX bL.out;by_cases cQ:i<40
  . have cg:=Yna
    obtain⟨m,hm⟩: ∃m,40-i=m+1:=⟨39-i,by omega⟩;clear aI;go_wp2_with fail;refine cg.mono ?_;rintro e w2 ⟨v1,v2,v3,rfl,am,aT⟩;obtain⟨aA,q1,rfl⟩:=Ae am.r1;obtain⟨aD,aw,rfl⟩:=Ae am.r2;obtain⟨ax,au,rfl⟩:=Ae am.r3;obtain⟨n,aj⟩:=Zx (Af R t y);have ci:D=Bv R t key (m+1) y b:=(by rw [<-hm];exact hd.out);rw [<-aj] at am;rw [<-aj];obtain⟨ai,an⟩:=Zx (w2.alloc (Obj.cells #[.slice aA n.keys.length q1, .slice aD n.Ab.length aw, .slice ax n.kids.length au, .int .u64 n.size] 100));obtain⟨cj,ar⟩:=Zx w2.heap.size;have aJ:Below w2.heap.size w2 ai:=(by rw [an];exact(Below.refl _ _).alloc (Nat.le_refl _) _);have bM:=Zh (show cj≠b6 by have:=ay.lt;have:=aT.size;omega);have cR:=Zh ay.lt;have aQ:An ai cj 100 [.slice aA n.keys.length q1, .slice aD n.Ab.length aw, .slice ax n.kids.length au, .int .u64 n.size]:=(by rw [an,ar];exact An.new w2 100 [.slice aA n.keys.length q1, .slice aD n.Ab.length aw, .slice ax n.kids.length au, .int .u64 n.size]);have I:=Yln;have ao:=Zh (ay.below I);have z3:=Zh (bL.below I);have af:=Dt;have a9:=ZX;obtain⟨bm,ck⟩:=Oo;obtain⟨aE,aP⟩:=Zm;have bN:=Zh ci;have cT:=Zh hm;clear bg bi bj bk bC bD cg aT am aj an ar aJ I aQ ci hd ah ay bL ae hm;by_cases he:Bk R t y=0
    . rw [decide_eq_true he]
      have hw:=BR aK aH he;rw [<-ck.out] at hw;obtain⟨cU,bO,cl,wc,cV⟩:=hw;have t2:=aH.2;obtain⟨g1,g2,aU⟩:=cU;obtain⟨_,_,cn⟩:=Yhp;have aS:=GU (aK.below af) cM cn t bO key;obtain⟨k,az⟩:=Zx (DL R n.keys key);obtain⟨ah,aR⟩:=Zx (Gw R n.keys key);have dx:=YV;have co:=Yoq;rw [<-az,<-aR] at aS;have cp:D=Bv.bstep R t n k ah b (Bv R t key m):=by
       rw [bN.out,az,aR,ck.out];conv=>lhs;unfold Bv
       exact if_neg (λh=>h he)
      have cW:=Zh cp;obtain⟨cr,bh⟩:=Ykc;have cs:=Zh co;have aZ:=Zh g2;have bP:=Zh (And.intro bO (And.intro cl wc));obtain⟨bC,bD⟩:=AX z3.out;rw [bm.1] at bC bD;clear cn aS az aR cp co g2 aU bO cl wc cV he bN;go_wp2_with fail;rw [<-bm.1,<-bm.2];refine cr.mono ?_;rintro e w4 ⟨rfl,aa⟩;have u3:=Zh (z3.below aa);obtain⟨bQ,aF⟩:=VY;have bo:=Zh (aP.below aa);have al:=K8;have cu:=Ygq;obtain⟨B1,dy,bR,J⟩:=A5 (F:=λ_=>False) bo.r1 (λ_ h=>h.elim);obtain⟨B2,dz,bS,ab⟩:=A5 (F:=λ_=>False) bo.r2 (λ_ h=>h.elim);obtain⟨B3,dA,bT,V⟩:=A5 (F:=λ_=>False) bo.r3 (λ_ h=>h.elim)
      cases bR
      cases bS
      cases bT
      obtain⟨cX,cY,cv⟩:=EA;obtain⟨S,bE⟩: ∃S:Nat->Int,S=λj=>FM R t (n.kids.take j) (wrap64 (b+(k:Nat))):=⟨_,rfl⟩
      have cZ:=Zh bE;have bU:S 0=wrap64 (b+(k:Nat)):=(by rw [bE];rfl);have c8:=Zh bU;have c9:Hid (∀j (bV:j<n.kids.length),S (j+1)=wrap64 (S j+Cq R t n.kids[j])):=Zh (λj bV=>by
       rw [bE];simp only [List.take_succ_eq_append_getElem bV];unfold FM;rw [List.foldl_append];rfl)
      obtain⟨lim,cw⟩:=Zx (if n.kids= [] then 0 else k);have bF:=Zh cw;have dB:wrap64 (b+(k:Int))=S 0:=bU.symm;clear aa z3 ao aE aP af a9 cr J ab V bE bU cw bm bC bD;obtain⟨bW,rfl⟩:=Zx wr;go_wp2
      go_loopw [8,13] (λbv bX da=> ∃j:Nat,j<=lim/\bv= .int .i64 (S j)/\bX= .int .i64 j/\Hid (Below w4.heap.size w4 da)) (λ_ bX _=>lim-(intOf bX).toNat)
      case atStart=>exact⟨0,by omega,by first|rfl|rw [c8.out],rfl,Zh (Below.refl _ _)⟩
      case round=>
       obtain⟨j,bV,rfl,rfl,Z⟩:=hrel;have a5:=OZ;by_cases cQ:j<lim
       . have ag:n.kids≠ []:=λe=>by have ac:=bF.out;rw [if_pos e] at ac;omega
         have db:j<k:=(by have ac:=bF.out;rw [if_neg ag] at ac;omega);have dC:=VT;have bY:j<n.kids.length:=by
          exact Xh
         have d1:=Ypz;have d2:decide ((j:Int)<(k:Int))=true:=decide_eq_true (by omega);obtain⟨bZ,cx,rfl,cy,a6⟩:=cv.num bY;have ba:=a6 wr Z.out;have bb:=(λW (ah:Below wr.heap.size wr W)=>E6 (aK.below (a5.trans (ah.mono a5.size))) t aH n.kids[j] (bP.2.2 j bY));have b3:=c9.out j bY;obtain⟨aW,a7⟩: ∃aW,n.kids[j]=aW:=⟨_,rfl⟩;rw [a7] at ba bb b3;generalize Cq R t aW=bG at*;have b4:=Zh bb;have bq:=(λX:BK wr=>X.cell ((u3.below Z).at' (i:=0) rfl));have br:=(λX:BK wr=>X.cell ((u3.below Z).at' (i:=1) rfl));have a4:=(λX:BK wr=>X.cell ((aF.below Z).at' (i:=2) rfl));have bs:=(λX:BK wr=>X.cell ba);have cz:wrap64 (S j+bG)=S (j+1):=b3.symm;have f2:=(aF.below Z).at' (i:=2) rfl;clear bb a7 b3 a6 ag;go_wp2;refine Ek cN (by kernel_rfl) ?_
         repeat (go_big_quiet_step ((go_at_call 49;exact I9 (b4 _ (BK.h _)))))
         refine wpQuiet_nil ?_;rintro _ ⟨X,rfl⟩;have dc:=Zh (Z.trans (X.h.mono Z.size));clear bq br a4 bs;go_wp2;go_roundw
         case rel=>exact⟨j+1,by omega,by first|rfl|rw [cz],by go_num,dc⟩
         case measure=>simp [intOf];omega
       . obtain rfl:j=lim:=by omega
         have cB:FM R t (n.kids.take k) (wrap64 (b+(k:Nat)))=S j:=by
          rw [cZ.out];by_cases ag:n.kids= []
          . simp [ag]
          . have ac:=bF.out
            rw [if_neg ag] at ac;rw [ac]
         have a8 :=cW.out;unfold Bv.bstep at a8;rw [cB] at a8;clear cB;by_cases ag:n.kids= []
         . have dd:n.kids.length=0:=by rw [ag];rfl
           have U:=a8;rw [if_pos ag,if_pos ag] at U
           cases ah with
           |true=>
            simp only [cond_true] at U;have O:=cs.out rfl;have bu:=Z5;obtain⟨b7,de,rfl,df,aM⟩:=cX.num O;obtain⟨cC,dg,rfl,dh,aG⟩:=cY.num bu;obtain⟨bw,bz⟩:=Ynz;rw [show n.keys.getD k 0=n.keys[k] by simp [O],show n.Ab.getD k 0=n.Ab[k] by simp [bu]] at U;obtain⟨aY,bA⟩: ∃y,n.keys[k]=y:=⟨_,rfl⟩;obtain⟨a0,bB⟩: ∃y,n.Ab[k]=y:=⟨_,rfl⟩;rw [bA] at bw U;rw [bB] at bz U;clear bA bB aM aG;have bq:=Ynf;have br:=(λX:BK wr=>X.cell ((aF.below Z).at' (i:=1) rfl));have a4:=(λX:BK wr=>X.cell bw);have bs:=(λX:BK wr=>X.cell bz);have f2:=(aF.below Z).at' (i:=2) rfl;have aV:=bf.symm.trans U;have b5:=Zh aV;clear aV U a8;obtain⟨f0,f1⟩:=AX (aF.below Z);have v6:=bQ.below Z.out;obtain⟨⟨bg,bi⟩,bj,bk⟩:=CV v6;have a1:=Zh (bp (some (aY,a0)) (S j) _ b5 ((a5.setCell (p:=⟨b6,0,none⟩) g6 (.int .u64 aY)).setCell (p:=⟨b6,1,none⟩) g6 (.int .u64 a0)).drew);have cD:=(v6.set 0 (.int .u64 aY)).set 1 (.int .u64 a0);have a2:=Zh (BE cD);clear bq br a4 bs v6 cD;go_wp2
            go_region_with (fail)
            all_goals
             go_wp2;obtain⟨a3,r1⟩:=AX a2.out;refine bodyPost_ret (v:= .tuple #[.agg #[.int .u64 aY, .int .u64 a0], .bool true, .int .i64 (S j)]) ?_ ?_ a1.out
             . simp [results,f70,go_sem,a3,r1]
             . rfl
           |false=>
            simp only [cond_false] at U;have aV:=bf.symm.trans U;have v6:=bQ.below Z.out;obtain⟨⟨bg,bi⟩,bj,bk⟩:=CV v6;have f2:=(aF.below Z).at' (i:=2) rfl;have a1:=Zh (bp none (S j) _ aV ((a5.setCell (p:=⟨b6,0,none⟩) g6 (.int .u64 0)).setCell (p:=⟨b6,1,none⟩) g6 (.int .u64 0)));have a2:=Zh ((v6.set 0 (.int .u64 0)).set 1 (.int .u64 0));clear aV U a8 v6;go_wp2;obtain⟨a3,r1⟩:=AX a2.out;refine bodyPost_ret (v:= .tuple #[.agg #[.int .u64 0, .int .u64 0], .bool false, .int .i64 (S j)]) (by simp [results,f70,go_sem,a3,r1]) rfl a1.out
         . have dd:=VT
           have db: ¬j<k:=(by have ac:=bF.out;rw [if_neg ag] at ac;omega);have U:=a8;rw [if_neg ag,if_neg ag] at U
           cases ah with
           |true=>
            simp only [cond_true] at U;have O:=cs.out rfl;have bu:=Z5;have be:k<n.kids.length:=by
             exact Xh
            obtain⟨D1,d1,bR,cF⟩:=A5 (F:=λb=>b<bW.heap.size) bo.r1 (λ_ h=>h);obtain⟨dD,d2,bS,cG⟩:=A5 (F:=λb=>b<bW.heap.size) bo.r2 (λ_ h=>h);obtain⟨dE,d3,bT,cH⟩:=A5 (F:=λb=>b<bW.heap.size) bo.r3 (λ_ h=>h)
            cases bR
            cases bS
            cases bT
            obtain⟨b7,de,rfl,df,di,aM⟩:=cF.Ny O;obtain⟨cC,dg,rfl,dh,dj,aG⟩:=cG.Ny bu;obtain⟨bZ,cx,rfl,cy,dk,a6⟩:=cH.Ny be;have dl:=cR.out;have dm:=Zh (show¬(b7=b6) by omega);have dn:=Zh (show¬(cC=b6) by omega);have dp:=Zh (show¬(bZ=b6) by omega);obtain⟨bw,bz⟩:=Ynz;have ba:=a6 wr Z.out;clear di dj dk dl cF cG cH;rw [show n.keys.getD k 0=n.keys[k] by simp [O],show n.Ab.getD k 0=n.Ab[k] by simp [bu]] at U;obtain⟨aY,bA⟩: ∃y,n.keys[k]=y:=⟨_,rfl⟩;obtain⟨a0,bB⟩: ∃y,n.Ab[k]=y:=⟨_,rfl⟩;rw [bA] at bw U;rw [bB] at bz U;have bb:=(λW (ah:Below wr.heap.size wr W)=>E6 (aK.below (a5.trans (ah.mono a5.size))) t aH n.kids[k] (bP.2.2 k be));rw [show n.kids.getD k 0=n.kids[k] by simp [be]] at U;obtain⟨aW,a7⟩: ∃aW,n.kids[k]=aW:=⟨_,rfl⟩;rw [a7] at ba bb U;generalize Cq R t aW=bG at*;have b4:=Zh bb;obtain⟨b8,cI⟩:=Zx (wrap64 (S j+bG));have w6:wrap64 (S j+bG)=b8:=cI.symm;rw [w6] at U;have aV:=bf.symm.trans U;have b5:=Zh aV;clear bA bB aM aG bb a7 a6 cI aV U a8;have bq:=(λX:Au (λb=>b=b6) wr=>X.cell ((aF.below Z).at' (i:=0) rfl) bM.out);have br:=(λX:Au (λb=>b=b6) wr=>X.cell ((aF.below Z).at' (i:=1) rfl) bM.out);have a4:=(λX:Au (λb=>b=b6) wr=>X.cell ((aF.below Z).at' (i:=2) rfl) bM.out);have bs:=(λX:Au (λb=>b=b6) wr=>X.cell bw dm.out);have dq:=(λX:Au (λb=>b=b6) wr=>X.cell bz dn.out);have x6:=(λX:Au (λb=>b=b6) wr=>X.cell ba dp.out);have x7:=(λX:Au (λb=>b=b6) wr=>X.cell ((u3.below Z).at' (i:=0) rfl) cd);have dr:=(λX:Au (λb=>b=b6) wr=>X.cell ((u3.below Z).at' (i:=1) rfl) cd);have f2:=(aF.below Z).at' (i:=2) rfl;have d1:=Ypz;go_wp2;refine As (λw' => ∃X:Au (λb=>b=b6) wr,w' =X.W) [.r 0, .r 1, .r 2, .r 3, .r 4, .r 5, .r 6, .r 7, .r 8, .r 9, .r 10, .r 11, .r 12, .r 13, .r 14, .r 15, .r 16, .r 17, .a 18, .r 19, .a 20, .r 21, .r 22] (Ay _ _) ?_
            iterate 18 (refine AH ?_;go_simp)
            clear bq br a4 bs dq x6 x7 dr;refine AI _ rfl (λds cJ=> ?_);go_wp2_with fail;refine(b4 _ (Ac wr)).mono ?_;rintro e cz ⟨rfl,dt⟩;have bH:=Zh ((Ac wr).trans dt);go_wp2;refine cJ _ _ (Ag bH) ?_;clear cJ ds;refine AH ?_;go_simp;have v6:=Zh ((bQ.below Z).below bH);obtain⟨⟨bg,bi⟩,bj,bk⟩:=CV v6.out;refine AI _ rfl (λdu cK=> ?_);go_wp2;refine cK _ _ (Bj (B:=λb=>b=b6) (p:=⟨b6,1,none⟩) (Bj (B:=λb=>b=b6) (p:=⟨b6,0,none⟩) (Ag bH) rfl _) rfl _) ?_;clear cK du
            iterate 2 (refine AH ?_;go_simp)
            refine AP ?_;have a1:=Zh (bp (some (aY,a0)) b8 _ b5 (((a5.trans (bH.mono a5.size)).setCell (p:=⟨b6,0,none⟩) g6 (.int .u64 aY)).setCell (p:=⟨b6,1,none⟩) g6 (.int .u64 a0)));have a2:=Zh ((v6.set 0 (.int .u64 aY)).set 1 (.int .u64 a0));go_wp2;obtain⟨a3,r1⟩:=AX a2.out;refine bodyPost_ret (v:= .tuple #[.agg #[.int .u64 aY, .int .u64 a0], .bool true, .int .i64 b8]) ?_ ?_ a1.out
            . simp [results,f70,go_sem,a3,r1]
            . rfl
           |false=>
            simp only [cond_false] at U;have be:k<n.kids.length:=by
             exact Xh
            obtain⟨bZ,cx,rfl,cy,a6⟩:=cv.num be;have ba:=a6 wr Z.out;have cL:=bP.2.2 k be;rw [show n.kids.getD k 0=n.kids[k] by simp [be]] at U;obtain⟨aW,a7⟩: ∃aW,n.kids[k]=aW:=⟨_,rfl⟩;rw [a7] at ba cL U;have hrel:Hid (D=Bv R t key (40-(i+1)) aW (S j)):=Zh (by rw [show 40-(i+1)=m by have:=cT.out;omega];exact U);have dv:=Zh (cu.trans (Z.mono cu.size));have f2:=(aF.below Z).at' (i:=2) rfl;clear a7 a6 U a8 ag;go_wp2;go_roundw
            case rel=>exact⟨i+1,aW,S j,by omega,cL,rfl,rfl,by go_num,hrel,dv⟩
            case measure=>simp [intOf];omega
    . rw [decide_eq_false he]
      have dw:=Zh he;clear he;obtain⟨⟨bg,bi⟩,bj,bk⟩:=CV ao.out;rw [bm.1] at bg bi bj bk;go_wp2;rw [<-bm.1];have aV:Bv R t key 40 x 0=(none,b):=(by rw [<-bf.out,bN.out];unfold Bv;exact if_pos dw.out);have a1:=bp.out none b _ aV ((af.setCell (p:=⟨b6,0,none⟩) g6 (.int .u64 0)).setCell (p:=⟨b6,1,none⟩) g6 (.int .u64 0));have a2:=(ao.set 0 (.int .u64 0)).set 1 (.int .u64 0);obtain⟨a3,r1⟩:=AX a2;refine bodyPost_ret (v:= .tuple #[.agg #[.int .u64 0, .int .u64 0], .bool false, .int .i64 b]) (by simp [results,f70,go_sem,a3,r1]) rfl a1
  . obtain rfl:i=40:=by omega
    have aV:Bv R t key 40 x 0=(none,b):=(by rw [<-bf.out,hd.out];rfl);have a1:=Zh (bp none b _ aV ((aI.setCell (p:=⟨b6,0,none⟩) g6 (.int .u64 0)).setCell (p:=⟨b6,1,none⟩) g6 (.int .u64 0)));have a2:=Se;clear aI aV;go_wp2;obtain⟨a3,r1⟩:=AX a2.out;refine bodyPost_ret (v:= .tuple #[.agg #[.int .u64 0, .int .u64 0], .bool false, .int .i64 b]) (by simp [results,f70,go_sem,a3,r1]) rfl a1.out
end
namespace Bt
variable {k x y:Nat}{m:It}{n:BN}{st:List Nat}
section
variable {R R1:Zr} {t a lo:Nat}
theorem D4: ∀{c:Sb} {l:List Lk} {k:Nat} {z:Nat},k<=l.length->z∈(Ap c l k).ns->z∈Ax c l
 |c,l,0,z,_,h=>by cases l<;>exact List.mem_append.2 (.inl h)
 |c,[],k+1,z,h,_=>absurd h (by simp)
 |c,p::l,k+1,z,h,hz=>by
  rw [BB];exact List.mem_append.2 (.inr (D4 (by simpa using h) hz))
theorem C7{c:Sb}{l:List Lk}{p:Lk}(hp:p∈l){z:Nat}(I:z∈p.2.ns):z∈Ax c l:=
 List.mem_append.2 (.inr (List.mem_flatMap.2 ⟨p,hp,I⟩))
theorem Gl: ∀{c:Sb} {l:List Lk} {k:Nat} {s:Sb},k<=l.length->(Ax c l).Nodup->At R t a lo c->(∀p∈l,At R t a lo p.2)->(∀z,z∈Ax c l->z∉(Ap c l k).ns->R1 z=R z)->At R1 t a lo s->
 At R1 t a lo (AM c l k s).1/\ ∀p∈(AM c l k s).2,At R1 t a lo p.2
 |c,l,0,s,_,hn,hc,hl,hf,hs=>by
  have U:Ap c l 0=c:=by cases l<;>rfl
  have e:AM c l 0 s=(s,l):=by cases l<;>rfl
  rw [U] at hf;rw [e];refine⟨hs,λp hp=>(hl p hp).congr λz I=>hf z (C7 hp I) λJ=> ?_⟩;exact(List.nodup_append.1 hn).2.2 z J z (List.mem_flatMap.2 ⟨p,hp,I⟩) rfl
 |c,[],k+1,s,h,_,_,_,_,_=>absurd h (by simp)
 |c,p::l,k+1,s,h,hn,hc,hl,hf,hs=>by
  rw [BB] at hn;obtain⟨n1,n2,n3⟩:=List.nodup_append.1 hn;have U:k<=l.length:=by simpa using h
  obtain⟨g1,g2⟩:=Gl (c:=p.2) (l:=l) (k:=k) (s:=s) U n2 (hl p (by simp)) (λq O=>hl q (List.mem_cons_of_mem _ O)) (λz I J=>hf z (by rw [BB];exact List.mem_append.2 (.inr I)) J) hs;refine⟨hc.congr λz I=>hf z (by rw [BB];exact List.mem_append.2 (.inl I)) λJ=>n3 z I z (D4 U J) rfl,λq O=> ?_⟩;rcases List.mem_cons.1 O with rfl|O
  . exact g1
  . exact g2 q O
theorem SB: ∀{c:Sb} {l:List Lk} {k:Nat} {s:Sb} {m:It} {r:Sb},k<=l.length->(Ax c l).Nodup->At R t a lo c->(∀p∈l,At R t a lo p.2)->(∀z,z∈Ax c l->z∉(Ap c l k).ns->R1 z=R z)->At R1 t a lo s->At R1 t a lo r->
 At R1 t a lo (Cg c l k s m r).1/\ ∀p∈(Cg c l k s m r).2,At R1 t a lo p.2
 |c,l,0,s,m,r,_,hn,hc,hl,hf,hs,hr=>by
  have U:Ap c l 0=c:=by cases l<;>rfl
  have e:Cg c l 0 s m r=(s,(m,r)::l):=by cases l<;>rfl
  rw [U] at hf;rw [e];refine⟨hs,λq I=> ?_⟩;rcases List.mem_cons.1 I with rfl|hp
  . exact hr
  . exact(hl q hp).congr λz J=>hf z (C7 hp J) λO=>(List.nodup_append.1 hn).2.2 z O z (List.mem_flatMap.2 ⟨q,hp,J⟩) rfl
 |c,[],k+1,s,m,r,h,_,_,_,_,_,_=>absurd h (by simp)
 |c,p::l,k+1,s,m,r,h,hn,hc,hl,hf,hs,hr=>by
  rw [BB] at hn;obtain⟨n1,n2,n3⟩:=List.nodup_append.1 hn;have U:k<=l.length:=by simpa using h
  obtain⟨g1,g2⟩:=SB (c:=p.2) (l:=l) (k:=k) (s:=s) (m:=m) (r:=r) U n2 (hl p (by simp)) (λq I=>hl q (List.mem_cons_of_mem _ I)) (λz J O=>hf z (by rw [BB];exact List.mem_append.2 (.inr J)) O) hs hr;refine⟨hc.congr λz J=>hf z (by rw [BB];exact List.mem_append.2 (.inl J)) λO=>n3 z J z (D4 U O) rfl,λq I=> ?_⟩;rcases List.mem_cons.1 I with rfl|I
  . exact g1
  . exact g2 q I
theorem Kf: ∀(c:Sb) (l:List Lk) (b:Nat),(Af R t c.h).size=c.Aa.length->(∀p∈l,(Af R t p.2.h).size=p.2.Aa.length)->b+(c.Aa++l.flatMap λp=>p.2.Aa).length<18446744073709551616->
 DO R t (c.h::l.map (·.2.h)) b=b+(c.Aa++l.flatMap λp=>p.2.Aa).length
 |c,[],b,h1,_,h3=>by
  simp only [List.flatMap_nil,List.append_nil] at h3 ⊢;simp only [DO,List.map_nil,List.foldl_cons,List.foldl_nil,h1];exact Nat.mod_eq_of_lt h3
 |c,p::l,b,h1,h2,h3=>by
  simp only [List.flatMap_cons,List.length_append] at h3;have I:=Kf p.2 l (b+c.Aa.length) (h2 p (by simp)) (λq J=>h2 q (List.mem_cons_of_mem _ J)) (by simp only [List.length_append];omega);unfold DO at I ⊢;rw [List.map_cons,List.foldl_cons,h1,Nat.mod_eq_of_lt (by omega),I];simp only [List.flatMap_cons,List.length_append];omega
theorem IK: ∀(c:Sb) (l:List Lk),(Aj c l).length=l.length+(c.Aa++l.flatMap λp=>p.2.Aa).length
 |c,[]=>by simp [Aj,rest]
 |c,p::l=>by
  have:=IK p.2 l;rw [BW];simp only [List.length_append,List.length_cons,List.flatMap_cons] at this ⊢;omega
theorem DP(c:Sb)(l:List Lk):(Al c l).keys.length=l.length/\(Al c l).Ab.length=l.length/\(Al c l).kids.length=l.length+1:=by simp [Al]
theorem CC{c:Sb}{l:List Lk}(h1:l.length<=2*t-1)(h0:0∉(c.h::l.map (·.2.h))):(Al c l).Fits t:=by
 obtain⟨I,J,O⟩:=DP c l;exact⟨by omega,by omega, .inr ⟨by omega,h0⟩⟩
theorem Co{l:List It}(h1:l.length<=2*t-1):(Ar l).Fits t:=⟨by simpa [Ar] using h1,by simp [Ar], .inl rfl⟩
def Rec(R:Zr)(t x:Nat):Prop:= ∃ws,R x=some ws/\ws.length=6*t
theorem At.rec{s:Sb}(h:At R t a lo s):Rec R t s.h:=by
 obtain⟨n,h1,_⟩:=h.node;exact⟨_,h1.1,BN.B0 t n⟩
theorem JH(I:Rec R t x)(J:n.Fits t)(O:n.keys.length<2*t):B4 R t x st n=(AQ R x (some (n.wd t)),st,none):=by
 obtain⟨ws,h1,U⟩:=I;unfold B4;rw [if_pos O,B8 J h1 U]
theorem EG(h:Rec R t y):Rec (AQ R x (some (n.wd t))) t y:=by
 by_cases e:y=x
 . subst e;exact⟨_,AT _ _ _,BN.B0 t n⟩
 . obtain⟨ws,h1,I⟩:=h
   exact⟨ws,(Aw e).trans h1,I⟩
theorem JB{left right:BN}(hx:Rec R t x)(I:Rec R t y)(aa:2*t<=n.keys.length)(J:leftOf t n (Eg R t n).size=left)(O:Eg R t n=right)(f1:left.Fits t)(f2:right.Fits t):
 B4 R t x (y::st) n=(AQ (AQ R x (some (left.wd t))) y (some (right.wd t)),st,some (n.keys.getD t 0,n.Ab.getD t 0,y)):=by
 obtain⟨ws,h1,U⟩:=hx;obtain⟨ab,V,Z⟩:=EG (x:=x) (n:=left) I;unfold B4 DI;rw [if_neg (by omega),J,O,B8 f1 h1 U];simp only;rw [B8 f2 V Z]
theorem N8{m:BN}(h1:n.keys=m.keys)(I:n.Ab=m.Ab)(J:n.kids=m.kids)(O:n.size+1=m.size)(U:m.size<18446744073709551616):n.more=m:=by
 refine BN.ext' h1 I J ?_
 show(n.size+1)%18446744073709551616=m.size
 rw [O,Nat.mod_eq_of_lt U]
theorem Fs(l:List Lk):l.map (·.1.kh)=(l.map (·.1)).map (·.kh):=by simp
theorem Ft(l:List Lk):l.map (·.1.vh)=(l.map (·.1)).map (·.vh):=by simp
theorem Qa{c:Sb}{l:List Lk}{s:Sb}(I:k<=l.length)(he:s.h=(Ap c l k).h)(J:s.Aa.length=(Ap c l k).Aa.length+1)(O:(Aj c l).length+1<18446744073709551616):
 (Al c l).more=Al (AM c l k s).1 (AM c l k s).2/\(Aj (AM c l k s).1 (AM c l k s).2).length=(Aj c l).length+1:=by
 have e:(Aj (AM c l k s).1 (AM c l k s).2).length=(Aj c l).length+1:=by
  rw [Ex c l k s I,Bu c l k I];simp only [List.length_append,J];omega
 refine⟨N8 ?_ ?_ ?_ ?_ ?_,e⟩
 . show l.map (·.1.kh)=_
   rw [Fs,<-DZ c l k s I,<-Fs];rfl
 . show l.map (·.1.vh)=_
   rw [Ft,<-DZ c l k s I,<-Ft];rfl
 . exact(EZ c l k s I he).symm
 . exact e.symm
 . show(Aj _ _).length<_
   rw [e];exact O
def Zo{P}(h:P:=by
 simp only [List.map_append,List.map_cons,List.map_take,List.map_drop]):=h
theorem TR{c:Sb}{l:List Lk}{s:Sb}{r:Sb}(I:k<=l.length)(he:s.h=(Ap c l k).h)(O:s.Aa.length+1+r.Aa.length=(Ap c l k).Aa.length+1)(J:(Aj c l).length+1<18446744073709551616):
 (((Al c l).DC k m.kh m.vh).FZ (k+1) r.h).more=Al (Cg c l k s m r).1 (Cg c l k s m r).2/\(Aj (Cg c l k s m r).1 (Cg c l k s m r).2).length=(Aj c l).length+1:=by
 have e:(Aj (Cg c l k s m r).1 (Cg c l k s m r).2).length=(Aj c l).length+1:=by
  rw [Ly c l k s m r I,Bu c l k I];simp only [List.length_append,List.length_cons];omega
 refine⟨N8 ?_ ?_ ?_ ?_ ?_,e⟩
 . show(l.map (·.1.kh)).take k++m.kh::(l.map (·.1.kh)).drop k=(Cg c l k s m r).2.map (·.1.kh)
   rw [Fs,Fs,JW c l k s m r I];exact Zo
 . show(l.map (·.1.vh)).take k++m.vh::(l.map (·.1.vh)).drop k=(Cg c l k s m r).2.map (·.1.vh)
   rw [Ft,Ft,JW c l k s m r I];exact Zo
 . exact(M3 c l k s m r I he).symm
 . exact e.symm
 . show(Aj _ _).length<_
   rw [e];exact J
theorem ZY{l:List Lk}{t:Nat}(h:t<l.length): ∃A m d B,l=A++(m,d)::B/\A.length=t/\B.length=l.length-(t+1)/\l.take t=A/\l.drop (t+1)=B:=by
 refine⟨l.take t,l[t].1,l[t].2,l.drop (t+1), ?_,by rw [List.length_take];omega,by rw [List.length_drop],rfl,rfl⟩;have:=List.take_append_drop t l;rw [List.drop_eq_getElem_cons h] at this;exact this.symm
theorem CW(c:Sb)(A:List Lk)(m:It)(d:Sb)(B:List Lk):Aj c (A++(m,d)::B)=Aj c A++m::Aj d B:=by
 unfold Aj;rw [K6,BU];simp
theorem Em(c:Sb)(A:List Lk)(m:It)(d:Sb)(B:List Lk):Ax c (A++(m,d)::B)=Ax c A++Ax d B:=by simp [Ax]
def Zy{P}(h:P:=by
 rw [List.map_append,List.map_cons,<-List.singleton_append,<-List.append_assoc,List.drop_left' (by simp [I])]):=h
def Ze{P}(h:P:=by
 rw [List.getD_eq_getElem?_getD,List.getElem?_map,List.getElem?_append_right (by omega),I,Nat.sub_self];rfl):=h
def Zt{P}(h:P:=by
 rw [List.map_append,List.take_left' (by rw [List.length_map];exact I)]):=h
theorem O0{c:Sb}{A:List Lk}{d:Sb}{B:List Lk}(I:A.length=t)(hd:(Af R t d.h).size=d.Aa.length)(O: ∀p∈B,(Af R t p.2.h).size=p.2.Aa.length)(aa:(Aj c (A++(m,d)::B)).length<18446744073709551616):
 Eg R t (Al c (A++(m,d)::B))=Al d B/\leftOf t (Al c (A++(m,d)::B)) (Aj d B).length=Al c A/\(Al c (A++(m,d)::B)).keys.getD t 0=m.kh/\(Al c (A++(m,d)::B)).Ab.getD t 0=m.vh:=by
 have U:=congrArg List.length (CW c A m d B);simp only [List.length_append,List.length_cons] at U;have J:(Al c (A++(m,d)::B)).kids.drop (t+1)=d.h::B.map (·.2.h):=by
  show(c.h::(A++(m,d)::B).map (·.2.h)).drop (t+1)=_
  rw [List.drop_succ_cons,List.map_append,List.drop_left' (by rw [List.length_map];exact I)];rfl
 have V:DO R t (d.h::B.map (·.2.h)) B.length=(Aj d B).length:=by
  have Z:=IK d B;rw [Kf d B B.length hd O (by omega),Z]
 refine⟨BN.ext' ?_ ?_ J ?_,BN.ext' ?_ ?_ ?_ ?_, ?_, ?_⟩
 . show((A++(m,d)::B).map (·.1.kh)).drop (t+1)=B.map (·.1.kh)
   exact Zy
 . show((A++(m,d)::B).map (·.1.vh)).drop (t+1)=B.map (·.1.vh)
   exact Zy
 . show DO R t ((Al c (A++(m,d)::B)).kids.drop (t+1)) ((Al c (A++(m,d)::B)).keys.length-(t+1))=(Aj d B).length
   rw [J,show(Al c (A++(m,d)::B)).keys.length-(t+1)=B.length by simp [Al,I];omega,V]
 . show((A++(m,d)::B).map (·.1.kh)).take t=A.map (·.1.kh)
   exact Zt
 . show((A++(m,d)::B).map (·.1.vh)).take t=A.map (·.1.vh)
   exact Zt
 . show(c.h::(A++(m,d)::B).map (·.2.h)).take (t+1)=c.h::A.map (·.2.h)
   rw [List.take_succ_cons,List.map_append,List.take_left' (by rw [List.length_map];exact I)]
 . show((Aj c (A++(m,d)::B)).length+36893488147419103232-(Aj d B).length-1)%18446744073709551616=(Aj c A).length
   omega
 . show((A++(m,d)::B).map (·.1.kh)).getD t 0=m.kh
   exact Ze
 . show((A++(m,d)::B).map (·.1.vh)).getD t 0=m.vh
   exact Ze
theorem P1{A B:List It}(I:A.length=t)(J:A.length+B.length+1<18446744073709551616):
 Eg R t (Ar (A++m::B))=Ar B/\leftOf t (Ar (A++m::B)) B.length=Ar A/\(Ar (A++m::B)).keys.getD t 0=m.kh/\(Ar (A++m::B)).Ab.getD t 0=m.vh:=by
 refine⟨BN.ext' ?_ ?_ ?_ ?_,BN.ext' ?_ ?_ ?_ ?_, ?_, ?_⟩
 . show((A++m::B).map (·.kh)).drop (t+1)=B.map (·.kh)
   exact Zy
 . show((A++m::B).map (·.vh)).drop (t+1)=B.map (·.vh)
   exact Zy
 . show([]:List Nat).drop (t+1)= []
   simp
 . show DO R t (([]:List Nat).drop (t+1)) (((A++m::B).map (·.kh)).length-(t+1))=B.length
   simp only [List.drop_nil,DO,List.foldl_nil,List.length_map,List.length_append,List.length_cons];omega
 . show((A++m::B).map (·.kh)).take t=A.map (·.kh)
   exact Zt
 . show((A++m::B).map (·.vh)).take t=A.map (·.vh)
   exact Zt
 . show([]:List Nat).take (t+1)= []
   simp
 . show((A++m::B).length+36893488147419103232-B.length-1)%18446744073709551616=A.length
   simp only [List.length_append,List.length_cons];omega
 . show((A++m::B).map (·.kh)).getD t 0=m.kh
   exact Ze
 . show((A++m::B).map (·.vh)).getD t 0=m.vh
   exact Ze
end
end Bt
section
variable (R:Zr) (t:Nat)
def Bc(most:Nat):Nat->List Nat->Nat->List Nat
 |0,out,_=>out
 |f+1,out,h=>if Bk R t h≠0\/most<=out.length then out else (Af R t h).kids.foldl (Bc most f) (out++ [h])
def Bo:Nat->Nat->Nat
 |0,_=>0
 |f+1,x=>if Bk R t x≠0 then 0 else if (Af R t x).kids= [] then 1 else Bo f ((Af R t x).kids.getD 0 0)+1
def AO:Nat->List (Nat × Nat) × Nat->Nat->List (Nat × Nat) × Nat
 |0,o,_=>o
 |f+1,o,h=>if Bk R t h≠0\/o.2=0 then o else lsFrom (Af R t h) (AO f) (Af R t h).keys.length 0 (o.1,o.2-1)
where
 lsStep (n:BN) (rec:List (Nat × Nat) × Nat->Nat->List (Nat × Nat) × Nat) (k:Nat) (o:List (Nat × Nat) × Nat):List (Nat × Nat) × Nat:=
  let p:=if n.kids= [] then o else rec o (n.kids.getD k 0)
  (p.1++ [(n.keys.getD k 0,n.Ab.getD k 0)],p.2)
 lsFrom (n:BN) (rec:List (Nat × Nat) × Nat->Nat->List (Nat × Nat) × Nat):Nat->Nat->List (Nat × Nat) × Nat->List (Nat × Nat) × Nat
  |0,_,o=>if n.kids= [] then o else rec o (n.kids.getD (n.kids.length-1) 0)
  |m+1,i,o=>lsFrom n rec m (i+1) (lsStep n rec i o)
def Ce:Nat->Bool->Nat->Bool
 |above,top,h=>
  if Bk R t h≠0 then false
  else if (Af R t h).keys.length<(cond top 1 (t-1)) then false
  else match above with
  |0=>if (Af R t h).kids= [] then decide ((Af R t h).size=DO R t [] (Af R t h).keys.length) else false
  |a+1=>if (Af R t h).kids= [] then false else (Af R t h).kids.all (Ce a false)&&decide ((Af R t h).size=DO R t (Af R t h).kids (Af R t h).keys.length)
end
def HY(i:It):Nat × Nat:=(i.kh,i.vh)
namespace Bt
variable {a lo:Nat}
section
variable {R:Zr} {t:Nat}
theorem At.SQ (I:BN.A0 t){s:Sb}(h:At R t a lo s):(Af R t s.h).size=s.Aa.length:=(h.get I).2
theorem IF{most f:Nat}{P:Sb->Prop}(h: ∀(out:List Nat) (s:Sb),P s->out.length+s.ns.length<=most->Bc R t most f out s.h=out++s.ns): ∀(l:List Sb) (out:List Nat),(∀s∈l,P s)->out.length+(l.flatMap (·.ns)).length<=most->(l.map (·.h)).foldl (Bc R t most f) out=out++l.flatMap (·.ns)
 | [],out,_,_=>by simp
 |s::l,out,hp,hb=>by
  simp only [List.flatMap_cons,List.length_append] at hb;rw [List.map_cons,List.foldl_cons,h out s (hp s (by simp)) (by omega),IF h l _ (λq I=>hp q (by simp [I])) (by rw [List.length_append];omega)];simp
def EV(c:Sb)(l:List Lk):List Sb:=c::l.map (·.2)
theorem Ta(c:Sb)(l:List Lk):(EV c l).map (·.h)=c.h::l.map (·.2.h):=by simp [EV]
theorem Sk(c:Sb)(l:List Lk):(EV c l).flatMap (·.ns)=Ax c l:=by simp [EV,Ax,List.flatMap_map]
theorem Ji{P:Sb->Prop}{c:Sb}{l:List Lk}(h1:P c)(I: ∀p∈l,P p.2): ∀s∈EV c l,P s:=by
 intro s hs;rcases List.mem_cons.1 hs with rfl|hs
 . exact h1
 . obtain⟨p,hp,rfl⟩:=List.mem_map.1 hs;exact I p hp
theorem MM{s:Sb}(h:At R t a lo s):1<=s.ns.length:=List.length_pos_iff.2 (List.ne_nil_of_mem (DE h))
theorem Ld(U:BN.A0 t)(most:Nat): ∀(a lo f:Nat) (s:Sb) (out:List Nat),At R t a lo s->a<f->out.length+s.ns.length<=most->Bc R t most f out s.h=out++s.ns:=by
 intro a
 induction a with
 |zero=>
  intro lo f s out h V I;obtain⟨f,rfl⟩: ∃g,f=g+1:=⟨f-1,by omega⟩;obtain⟨J,O⟩:=h.2.2.get U
  conv=>lhs;unfold Bc
  have Z:=MM h;rw [if_neg (by rw [O];omega),J,show(Ar s.Aa).kids= [] from rfl,List.foldl_nil,h.1]
 |succ a ih=>
  intro lo f s out h V I;obtain⟨f,rfl⟩: ∃g,f=g+1:=⟨f-1,by omega⟩;have Z:=MM h;obtain⟨c,l,h1,aa,ag,ab,ac,ae⟩:=h;obtain⟨J,O⟩:=ab.get U
  conv=>lhs;unfold Bc
  rw [aa] at I ⊢;rw [List.length_cons] at I;rw [if_neg (by rw [O];omega),J,show(Al c l).kids=(EV c l).map (·.h) from(Ta c l).symm];rw [IF (P:=At R t a (t-1)) (λo s hs af=>ih (t-1) f s o hs (by omega) af) (EV c l) _ (Ji ac ae) (by rw [Sk,List.length_append,List.length_singleton];omega),Sk];simp
theorem OD(O:BN.A0 t): ∀(a lo f:Nat) (s:Sb),At R t a lo s->a<f->Bo R t f s.h=a+1:=by
 intro a
 induction a with
 |zero=>
  intro lo f s h U;obtain⟨f,rfl⟩: ∃g,f=g+1:=⟨f-1,by omega⟩;obtain⟨I,J⟩:=h.2.2.get O
  conv=>lhs;unfold Bo
  rw [if_neg (by rw [J];simp),I,if_pos (show(Ar s.Aa).kids= [] from rfl)]
 |succ a ih=>
  intro lo f s h U;obtain⟨f,rfl⟩: ∃g,f=g+1:=⟨f-1,by omega⟩;obtain⟨c,l,h1,aa,ab,V,Z,ac⟩:=h;obtain⟨I,J⟩:=V.get O
  conv=>lhs;unfold Bo
  rw [if_neg (by rw [J];simp),I,if_neg (show¬(Al c l).kids= [] by simp [Al])]
  show Bo R t f c.h+1=_
  rw [ih (t-1) f c Z (by omega)]
theorem Sa{n:BN}(h0:n.kids= [])(rec:List (Nat × Nat) × Nat->Nat->List (Nat × Nat) × Nat): ∀(ks:List It) (i:Nat) (o:List (Nat × Nat) × Nat),(∀j (I:j<ks.length),n.keys.getD (i+j) 0=ks[j].kh/\n.Ab.getD (i+j) 0=ks[j].vh)->AO.lsFrom n rec ks.length i o=(o.1++ks.map HY,o.2)
 | [],i,o,_=>by simp [AO.lsFrom,h0]
 |x::ks,i,o,h=>by
  rw [List.length_cons];unfold AO.lsFrom;rw [Sa h0 rec ks (i+1) _ (λj I=>by have:=h (j+1) (by simpa using I);rw [show i+1+j=i+(j+1) by omega];exact this)];have:=h 0 (by simp);unfold AO.lsStep;rw [Nat.add_zero] at this;simp only [h0,if_true,this.1,this.2];simp [HY]
theorem PZ{n:BN}(h0:n.kids≠ []){rec:List (Nat × Nat) × Nat->Nat->List (Nat × Nat) × Nat}: ∀(c:Sb) (l:List Lk) (i:Nat) (o:List (Nat × Nat) × Nat),
 (∀s∈EV c l,∀o:List (Nat × Nat) × Nat,s.ns.length<=o.2->rec o s.h=(o.1++s.Aa.map HY,o.2-s.ns.length))->
 (∀j,j<=l.length->n.kids.getD (i+j) 0=(Ap c l j).h)->n.kids.length-1=i+l.length->(∀j (I:j<l.length),n.keys.getD (i+j) 0=l[j].1.kh/\n.Ab.getD (i+j) 0=l[j].1.vh)->
 (Ax c l).length<=o.2->AO.lsFrom n rec l.length i o=(o.1++(Aj c l).map HY,o.2-(Ax c l).length)
 |c,[],i,o,hr,hk,hz,hv,hb=>by
  have J:Ax c []=c.ns:=by simp [Ax]
  have U:Aj c []=c.Aa:=by simp [Aj,rest]
  rw [J] at hb ⊢;rw [U]
  show(if n.kids= [] then o else rec o (n.kids.getD (n.kids.length-1) 0))=_
  rw [if_neg h0,hz,show n.kids.getD (i+([]:List Lk).length) 0=c.h from hk 0 (Nat.zero_le _)];exact hr c (by simp [EV]) o hb
 |c,p::l,i,o,hr,hk,hz,hv,hb=>by
  rw [BB,List.length_append] at hb;rw [List.length_cons];unfold AO.lsFrom;have O:=hv 0 (by simp);rw [Nat.add_zero] at O;have J:AO.lsStep n rec i o=(o.1++c.Aa.map HY++ [HY p.1],o.2-c.ns.length):=by
   unfold AO.lsStep;rw [if_neg h0,show n.kids.getD i 0=c.h from hk 0 (Nat.zero_le _),hr c (by simp [EV]) o (by omega),O.1,O.2];rfl
  rw [J,PZ h0 p.2 l (i+1) _ (λs hs=>hr s (by
      simp only [EV,List.map_cons,List.mem_cons] at hs ⊢;exact .inr hs)) (λj I=>by rw [show i+1+j=i+(j+1) by omega];exact hk (j+1) (by simpa using I)) (by rw [hz,List.length_cons];omega)
   (λj I=>by rw [show i+1+j=i+(j+1) by omega];exact hv (j+1) (by simpa using I)) (by show _<=o.2-c.ns.length;omega)]
  rw [BW,BB,List.length_append];refine Prod.ext ?_ ?_
  . simp
  . show o.2-c.ns.length-_=_;omega
theorem S3(Z:BN.A0 t): ∀(a lo f:Nat) (s:Sb) (o:List (Nat × Nat) × Nat),At R t a lo s->a<f->s.ns.length<=o.2->AO R t f o s.h=(o.1++s.Aa.map HY,o.2-s.ns.length):=by
 intro a
 induction a with
 |zero=>
  intro lo f s o h aa J;obtain⟨f,rfl⟩: ∃g,f=g+1:=⟨f-1,by omega⟩;have ab:=MM h;obtain⟨O,U⟩:=h.2.2.get Z
  conv=>lhs;unfold AO
  rw [if_neg (by rw [U];omega),O];rw [show(Ar s.Aa).keys.length=s.Aa.length by simp [Ar],Sa rfl _ s.Aa 0 _ (λj I=>by simp [Ar,I]),h.1];rfl
 |succ a ih=>
  intro lo f s o h aa J;obtain⟨f,rfl⟩: ∃g,f=g+1:=⟨f-1,by omega⟩;have ab:=MM h;obtain⟨c,l,h1,ac,ah,ae,af,ag⟩:=h;obtain⟨O,U⟩:=ae.get Z;rw [ac] at J ⊢;rw [List.length_cons] at J ⊢
  conv=>lhs;unfold AO
  rw [if_neg (by rw [U];omega),O];rw [show(Al c l).keys.length=l.length by simp [Al]]
  rw [PZ (n:=Al c l) (by simp [Al]) c l 0 _ (Ji (P:=λs=> ∀o:List (Nat × Nat) × Nat,s.ns.length<=o.2->AO R t f o s.h=(o.1++s.Aa.map HY,o.2-s.ns.length)) (λo V=>ih (t-1) f c o af (by omega) V) (λp hp o V=>ih (t-1) f p.2 o (ag p hp) (by omega) V))
   (λj I=>by rw [Nat.zero_add];show(c.h::l.map (·.2.h)).getD j 0=_;rw [List.getD_eq_getElem?_getD,ER c l j I];rfl) (by simp [Al]) (λj I=>by simp [Al,I]) (by show _<=o.2-1;omega),h1]
  refine Prod.ext rfl ?_
  show o.2-1-_=_
  omega
theorem SI(J:BN.A0 t): ∀(a:Nat) (top:Bool) (s:Sb),At R t a (cond top 1 (t-1)) s->s.Aa.length<18446744073709551616->Ce R t a top s.h=true:=by
 intro a
 induction a with
 |zero=>
  intro top s h V;obtain⟨O,U⟩:=h.2.2.get J;unfold Ce;rw [if_neg (by rw [U];simp),O,if_neg (by show¬(s.Aa.map (·.kh)).length<_;rw [List.length_map];exact Nat.not_lt.2 h.2.1)]
  show(if (Ar s.Aa).kids= [] then _ else _)=_
  rw [if_pos (show(Ar s.Aa).kids= [] from rfl)];simp [Ar,DO]
 |succ a ih=>
  intro top s h V;obtain⟨c,l,h1,ai,ab,ac,Z,aa⟩:=h;obtain⟨O,U⟩:=ac.get J;rw [h1] at V;have hlen:=Qi c l;have aj:=IK c l;unfold Ce;rw [if_neg (by rw [U];simp),O,if_neg (by show¬(l.map (·.1.kh)).length<_;rw [List.length_map];exact Nat.not_lt.2 ab)]
  show(if (Al c l).kids= [] then false else _)=_
  rw [if_neg (show¬(Al c l).kids= [] by simp [Al]),Bool.and_eq_true];constructor
  . rw [List.all_eq_true]
    intro x hx;obtain⟨I,ae,rfl⟩: ∃I ∈EV c l,I.h=x:=by
     have:x∈(EV c l).map (·.h):=(by rw [Ta];exact hx);obtain⟨I,af,ag⟩:=List.mem_map.1 this;exact⟨I,af,ag⟩
    have ah:At R t a (t-1) I /\I.Aa.length<=(Aj c l).length:=Ji (P:=λI =>At R t a (t-1) I /\I.Aa.length<=(Aj c l).length) ⟨Z,hlen.1⟩ (λp hp=>⟨aa p hp,Nat.le_trans (Nat.le_succ _) (hlen.2 p hp)⟩) I ae;exact ih false I ah.1 (by omega)
  . have hs:=Kf (R:=R) (t:=t) c l l.length (Z.SQ J) (λp hp=>(aa p hp).SQ J) (by omega)
    show decide ((Aj c l).length=DO R t (c.h::l.map (·.2.h)) (l.map (·.1.kh)).length)=true
    rw [List.length_map,hs,decide_eq_true];omega
end
end Bt
variable {B B3:Nat}{W W' X Y w:World}
theorem Li(o:Option (Nat × Nat)): ∃a b:Nat,S7 o= .agg #[.int .u64 a, .int .u64 b]:=by
 cases o with
 |none=>exact⟨0,0,rfl⟩
 |some p=>exact⟨p.1,p.2,rfl⟩
section
variable {w':World} {s N:Nat} {R:Zr} {nn:Nat}
theorem M0(h:Rd N w s R nn)(af:A6 R){t:Nat}(ag:BN.A0 t)(x:Nat)(hx:x<18446744073709551616)(key:ByteArray):
 Calls prog 31 #[.pointer (some ⟨s,0,none⟩), .int .i64 t, .int .u64 x, .string key] w λe w' =>e= .returned (.tuple #[S7 (Bv R t key 40 x 0).1, .bool (Bv R t key 40 x 0).1.isSome])/\Below w.heap.size w w' :=by
 have ab:Below w.heap.size w (w.alloc (Obj.cells #[.int .u64 0, .int .u64 0] 31)):=(Below.refl _ w).alloc (Nat.le_refl _) _;have J:=U3 (h.below ab) af ag x hx key;obtain⟨a,b,aa⟩:=Li (Bv R t key 40 x 0).1;rw [aa] at J ⊢;generalize (Bv R t key 40 x 0).1.isSome=ok at*;generalize (Bv R t key 40 x 0).2=bel at*;have V:An (w.alloc (Obj.cells #[.int .u64 0, .int .u64 0] 31)) w.heap.size 31 [.int .u64 0, .int .u64 0]:=An.new w _ _;obtain⟨b0,I⟩:=Zx w.heap.size;obtain⟨an,O⟩:=Zx (w.alloc (Obj.cells #[.int .u64 0, .int .u64 0] 31));rw [<-O] at ab J V;rw [<-I] at V;have g0:w.heap.size<=b0:=by omega
 obtain⟨ah,ac,ai⟩:=EA;have ae:=Zh (And.intro O I);clear h J ab V O I aa;go_enter func31,ntmps31;go_wp2_with fail;rw [<-ae.1,<-ae.2];refine ah.mono ?_;rintro e w2 ⟨rfl,U⟩;have Z:=Zh (ai.below U);obtain⟨⟨c0,c1⟩,ao,k1⟩:=CV Z.out;have hs:=(((ac.trans (U.mono ac.size)).setCell (p:=⟨b0,0,none⟩) g0 (.int .u64 a)).setCell (p:=⟨b0,1,none⟩) g0 (.int .u64 b));have l0:=Z.lt;have aj:=Zh (((Z.set 0 (.int .u64 a)).set 1 (.int .u64 b)).alloc (Obj.cells #[.int .u64 a, .int .u64 b] 31));have al:=Zh (hs.alloc hs.size (Obj.cells #[.int .u64 a, .int .u64 b] 31));clear hs U;go_wp2;obtain⟨am,r1⟩:=AX aj.out;refine bodyPost_ret (v:= .tuple #[.agg #[.int .u64 a, .int .u64 b], .bool ok]) (by simp [results,f31,go_sem,am,r1]) rfl ⟨rfl,al⟩
theorem YP(h:Rd N w s R nn)(t:Nat)(J:BN.A0 t)(x:Nat)(hx:x<18446744073709551616):
 Calls prog 41 #[.pointer (some ⟨s,0,none⟩), .int .i64 t, .int .u64 x] w λe w' =>e= .returned (.int .i64 (Cq R t x))/\Below w.heap.size w w' :=by
 have O:=Zh (E6 h t J x hx);generalize Cq R t x=z at*;clear h;go_enter func41,ntmps41;go_wp2_with fail;refine O.mono ?_;rintro e w2 ⟨rfl,I⟩;have U:=Zh I;clear I;go_wp2;go_ret;exact⟨rfl,U⟩
def BF(nn t:Nat):Nat:=nn/(6*t)+1
def Ymv{P}(h:P:=by
 have c0:=λX:Au (λ_=>False) O=>X.cell (Z.at' (i:=0) rfl) (λh=>h)
 have c1:=λX:Au (λ_=>False) O=>X.cell (Z.at' (i:=1) rfl) (λh=>h)
 exact And.intro c0 c1):=h
theorem Va(h:Rd N w s R nn)(t:Nat)(ah:BN.A0 t):
 Calls prog 76 #[.agg #[.pointer (some ⟨s,0,none⟩), .int .i64 t]] w λe w' =>e= .returned (.int .i64 (BF nn t:Nat))/\Below w.heap.size w w' :=by
 obtain⟨t1,t2⟩:=ah;have ai:=h.le;have J:=XP;have Z:An (w.alloc (Obj.cells #[.pointer (some ⟨s,0,none⟩), .int .i64 t] 96)) w.heap.size 96 [.pointer (some ⟨s,0,none⟩), .int .i64 t]:=An.new w _ _;obtain⟨O,U⟩:=Zx (w.alloc (Obj.cells #[.pointer (some ⟨s,0,none⟩), .int .i64 t] 96));rw [<-U] at J Z;have aj:=Zh U;clear U;have al:=Zh (λW (am:Below w.heap.size w W)=>Tm (h.below am));have V:=Zh (λW=>Ie ⟨t1,t2⟩ W);obtain⟨m,hm⟩:=Zx (nn/(6*t));have aa:Hid (BF nn t=m+1):=Zh (by rw [hm];rfl);have au:m<=262144:=by rw [hm];exact Nat.le_trans (Nat.div_le_self _ _) ai
 obtain⟨d,hd⟩:=Zx (6*t);have aw:12<=d:=by omega
 have ax:((nn:Int)/(d:Int))=(m:Int):=by rw [hm,<-hd];rfl
 have an:Hid (∀W,Calls prog 69 #[.int .i64 t] W λe w' =>e= .returned (.int .i64 d)/\W=w'):=Zh (by rw [hd];exact V.out);have ay: ¬d=0:=by omega
 have az:=Ypr;have aA:IntKind.i64.wrap ((m:Int)+1)=(m:Int)+1:=by rw [IntKind.wrap_i64];omega
 obtain⟨c0,c1⟩:=Ymv;have ab:=Zh J;rw [aa.out];clear h J Z V hm hd aa;go_enter func76,ntmps76;go_wp2;rw [<-aj.out];refine As (λw' => ∃X:Au (λ_=>False) O,w' =X.W) [.r 0, .r 1, .r 3, .r 4, .a 2, .a 5, .r 6, .r 7, .r 8] (Ay _ _) ?_
 iterate 4 (refine AH ?_;go_simp)
 clear c0 c1;have ae:=Zh (ab.trans ((Ac O).mono ab.size));refine AI _ rfl (λao ac=> ?_);go_wp2_with fail;refine(al _ ae).mono ?_;rintro e w2 ⟨rfl,I⟩;have aq:=Dt;have af:=Zh ((Ac O).trans I);clear I;go_wp2;refine ac _ _ (Ag af) ?_;clear ac ao;refine AI _ rfl (λar ag=> ?_);go_wp2_with fail;refine(an _).mono ?_;rintro e w3 ⟨rfl,rfl⟩;go_wp2;refine ag _ _ (Ag af) ?_;clear ag ar
 iterate 3 (refine AH ?_;go_simp)
 refine AP ?_;go_wp2;go_ret;exact⟨by rw [Int.natCast_add];rfl,aq⟩
end
attribute [local go_sem] Oper.semAt_some Ec
theorem Tryz.Mj:Tryz.prog.underlying 39=some (.slice 3):=by kernel_rfl
theorem Tryz.VF:(Tryz.prog.info? 3).map (λi=>(i.zero,i.size,i.bytes))=some (some (.int .i64 0),1,8):=by kernel_rfl
def rowsOf(l:List (Nat × Nat)):List Value:=l.map λb=> .int .i64 (b.1:Nat)
def IW(B:Nat)(W:World)(k:Nat):Prop:=k=B\/ ∃m c,W.cell? ⟨B,0,none⟩=some (.slice (some ⟨k,0,none⟩) m c)
theorem GL(I:B<X.heap.size)(J:Below X.heap.size X Y)(k:Nat)(h:IW B Y k):IW B X k:=by
 rcases h with h|⟨m,c,h⟩
 . exact .inl h
 . exact .inr ⟨m,c,(J.cell (p:=⟨B,0,none⟩) I).symm.trans h⟩
theorem Xt{l:Nat}(I :Obj)(J:B≠l)(k:Nat)(h:IW B (W.putObj l I) k):IW B W k:=by
 rcases h with h|⟨m,c,h⟩
 . exact .inl h
 . refine .inr ⟨m,c,(World.cell?_of_block (a:=⟨B,0,none⟩) ?_).symm.trans h⟩
   exact World.putObj_heap_other J
def G1(w:World)(l:List (Nat × Nat))(W:World):Prop:= ∃v,Boxed W w.heap.size 39 v/\W.ownsRow w.heap.size 3 1 v l.length (rowsOf l)/\Below w.heap.size w W
theorem G1.below{l:List (Nat × Nat)}(h:G1 w l X)(I:Below X.heap.size X Y):G1 w l Y:=by
 obtain⟨v,h1,O,J⟩:=h;exact⟨v,(I.block _ h1.lt).trans h1,FC (Cs:=λ_=>False) O (KB.below I) (λ_ h=>h.elim),J.trans (I.mono J.size)⟩
theorem Uc{β:Type}(w:World)(f:β->List (Nat × Nat))(n:Nat)(J:w.heap.size<=n):OwnFrom n (λs W=>G1 w (f s) W):=λs X Y row hs hg I=>by
 obtain⟨v,h1,O,U⟩:=hs;obtain⟨v',a,b,_⟩:=holdsRow_own w.heap.size w.heap.size 39 3 1 (λs=>(f s).length) (λs=>rowsOf (f s)) (λ_ _=>True) s X Y row ⟨v,h1,O,trivial⟩ hg (λr e=>(I r e).2);exact⟨v',a,b,ownFrom_below (β:=β) (Nat.le_refl _) J s X Y row U hg I⟩
structure DD(W:World)(B3 B:Nat):Prop where
 ne:B≠B3
 off: ∃u,W.cell? ⟨B3,0,none⟩=some u/\u.ownBlock≠some B
theorem KU{w1:World}{l l' :List (Nat × Nat)}{v v' :Value}{tmp:Obj}(J:Boxed W w.heap.size 39 v)(U:W.ownsRow w.heap.size 3 1 v l.length (rowsOf l))(ab:Below w.heap.size w W)
 (af :w1.ownsRow w.heap.size 3 1 v' l'.length (rowsOf l')) (ac:(W.alloc tmp).grownBy w1 v.ownBlock) (V:v'.ownBlock=v.ownBlock\/v'.ownBlock=some (W.alloc tmp).heap.size):
 Boxed w1 w.heap.size 39 v/\G1 w l' (w1.setCell ⟨w.heap.size,0,none⟩ v')/\KE (IW w.heap.size) W (w1.setCell ⟨w.heap.size,0,none⟩ v')/\KeepsOthers W (w1.setCell ⟨w.heap.size,0,none⟩ v')/\ ∀B,B<W.heap.size->DD W w.heap.size B->DD (w1.setCell ⟨w.heap.size,0,none⟩ v') w.heap.size B:=by
 obtain⟨ag,a2,a3,a4,a5⟩:=J.appended (by decide) U ab.size (Nat.le_refl _) af ac;refine⟨ag,⟨v',a2,a3,ab.trans a5⟩,⟨⟨a4.size,λk o O Z ae=> ?_⟩,λk O=> ?_⟩,a4,λB al Z=>⟨Z.ne,v',a2.cell,λe=> ?_⟩⟩
 . have ah:k<W.heap.size:=(Array.getElem?_eq_some_iff.1 O).1
   have h1:k≠w.heap.size:=(λe=>ae (.inl e));have I:some k≠v.ownBlock:=λe=>by
    refine ae (.inr ?_);rcases U.2 with ⟨rfl,_⟩|⟨g,cap,cur,rfl,_,_,_⟩
    . simp [Value.ownBlock] at e
    . have:k=g:=by simpa [Value.ownBlock] using e
      subst this;exact⟨_,_,J.cell⟩
   rw [Below.heap_setCell _ _ _ k h1];exact(ac.block k (by simp;omega) I).trans ((Below.heap_alloc W tmp k ah).trans O)
 . rcases O with rfl|⟨m,c,aa⟩
   . exact .inl (.inl rfl)
   . rw [a2.cell] at aa
     simp only [Option.some.injEq] at aa;subst aa;have ai:(Value.slice (some ⟨k,0,none⟩) m c).ownBlock=some k:=(by simp [Value.ownBlock]);rw [ai] at V;rcases V with h1|h1
     . rcases U.2 with ⟨rfl,_⟩|⟨g,cap,cur,rfl,_,_,_⟩
       . simp [Value.ownBlock] at h1
       . have:k=g:=by simpa [Value.ownBlock] using h1
         subst this;exact .inl (.inr ⟨_,_,J.cell⟩)
     . have:k=(W.alloc tmp).heap.size:=by simpa using h1
       exact .inr (by rw [this];simp)
 . obtain⟨u,I,aj⟩:=Z.off
   rw [J.cell] at I;simp only [Option.some.injEq] at I;subst I;rcases V with h1|h1
   . rw [h1] at e;exact aj e
   . rw [h1] at e
     have:W.heap.size+1=B:=(by simpa using e);omega
theorem DD.not(h:DD W B3 B): ¬IW B3 W B:=by
 rintro(h1|⟨m,c,h1⟩)
 . exact h.ne h1
 . obtain⟨u,I,J⟩:=h.off
   rw [h1] at I;simp only [Option.some.injEq] at I;subst I;exact J (by simp [Value.ownBlock])
theorem DD.kept{row:Option Nat}(h:DD W B3 B)(hg:W.grownBy W' row)(I: ∀r,row=some r-> ∃o:Obj,W.heap[r]? =some o/\o.isCells=false):DD W' B3 B:=by
 obtain⟨u,J,O⟩:=h.off;exact⟨h.ne,u,cell_kept J hg I,O⟩
theorem DD.below(h:DD W B3 B)(I:Below W.heap.size W W'):DD W' B3 B:=
 h.kept (row:=none) ⟨I.os,I.tape,I.output,I.size,λk J _=>I.block k J⟩ (λr e=>by cases e)
theorem Ep.below{h:Hd}(hx:Ep W B h)(I:Below W.heap.size W W'):Ep W' B h:=
 hx.kept (row:=none) ⟨I.os,I.tape,I.output,I.size,λk J _=>I.block k J⟩ (λr e=>by cases e)
theorem Ep.ke{h:Hd}(hx:Ep W B h)(I:KE (IW B3) W W')(J:DD W B3 B):Ep W' B h:=
 ⟨I.kb.cell hx.k J.not,I.kb.cell hx.n J.not,I.kb.cell hx.w J.not⟩
theorem VK{l:List (Nat × Nat)}(h:G1 w l W){o:Obj}:DD (W.alloc o) w.heap.size W.heap.size:=by
 obtain⟨v,h1,I,J⟩:=h;refine⟨by have:=h1.lt;omega,v,(h1.alloc o).cell,λe=> ?_⟩;rcases I.2 with ⟨rfl,_⟩|⟨g,cap,cur,rfl,_,hg,_⟩
 . simp [Value.ownBlock] at e
 . have:g=W.heap.size:=by simpa [Value.ownBlock] using e
   have:=(Array.getElem?_eq_some_iff.1 hg).1;omega
def B9(p c m k:Nat):List (Nat × Nat):=((List.range k).filter λj=>m.testBit j).map λj=>(64*p+2+j*sz c,sz c)
theorem LA(p c m k:Nat):B9 p c m (k+1)=if m.testBit k=true then B9 p c m k++ [(64*p+2+k*sz c,sz c)] else B9 p c m k:=by
 unfold B9;rw [List.range_succ,List.filter_append,List.map_append];by_cases h:m.testBit k=true
 . rw [if_pos h];simp [h]
 . rw [if_neg h];simp [h]
theorem Io(p c m k:Nat):(B9 p c m k).length<=k:=by
 unfold B9;rw [List.length_map];exact Nat.le_trans (List.length_filter_le _ _) (by simp)
theorem MC(p c m:Nat):B9 p c m (AY c)=A8 (p, .small c m):=rfl
theorem OR(x:Nat × Hd):(A8 x).length<=31:=by
 obtain⟨p,h⟩:=x
 cases h with
 |small c m=>exact Nat.le_trans (Io p c m (AY c)) (CG c)
 |Bx w=>simp [A8]
theorem MB(L:HL):(blocks L).length<=31*L.length:=by
 induction L with
 |nil=>simp [blocks]
 |cons x t ih=>
  have h:=OR x;simp only [blocks,List.flatMap_cons,List.length_append,List.length_cons] at*;omega
theorem Np{L:HL}:L.length<=(runs L).length:=by
 induction L with
 |nil=>simp
 |cons x t ih=>
  have:=x.2.C6;simp only [runs,List.flatMap_cons,List.length_append,List.length_range',List.length_cons] at*;omega
theorem Lb(l:List (Nat × Nat))(b:Nat × Nat):rowsOf l++ [.int .i64 b.1]=rowsOf (l++ [b]):=by simp [rowsOf]
theorem SM(l:List (Nat × Nat))(p ww:Nat):rowsOf l++ [.int .i64 ((p:Int)*64+2)]=rowsOf (l++ [(64*p+2,ww)]):=by
 rw [<-Lb];have:(p:Int)*64+2=((64*p+2:Nat):Int):=by push_cast;omega
 rw [this]
theorem RN(l:List (Nat × Nat))(A s:Nat):rowsOf l++ [.int .i64 (A:Int)]=rowsOf (l++ [(A,s)]):=Lb l (A,s)
theorem X0{ha a q:Nat}{F:Nat->Prop}{L:HL}{mem:Nat->Nat}(h:Bm w ha a F L q mem):
 Calls prog 52 #[.pointer (some ⟨ha,0,none⟩)] w λe w' => ∃v,e= .returned v/\w'.ownsRow w.heap.size 3 1 v (blocks L).length (rowsOf (blocks L))/\Below w.heap.size w w' :=by
 obtain⟨i0,hi,aT,aU,aV⟩:=info_parts Tryz.VF;obtain⟨⟨mb,D,k1,rfl⟩,aW,aX⟩:=h;refine(callsIn_wide (n:=9)).1 ?_;have hN:=Zh ((callsIn_wide (n:=8)).2 (EF k1));have bq:=Z0;have an:=Zh k1;have aY:=Zh aW;have br:=Zh aX;have b8:L.length<=4096:=by have h1:=k1.sl.room;have aC:=k1.sl.DA;rw [k1.sl.count] at h1;have:=Np (L:=L);omega
 clear k1 aW aX;refine callsIn_of_wp_marks func52 rfl trivial ?_ rfl;simp only [ntmps52,List.size_toArray,List.length_cons,List.length_nil,Nat.reduceAdd,Nat.reduceSub,Array.replicate_succ,Array.replicate_zero,List.push_toArray,List.append_toArray,List.nil_append,List.cons_append];gi_wp2_with fail;refine hN.mono ?_;rintro e w' ⟨rfl,rfl⟩;gi_wp2_with fail;refine(bq _).mono ?_;rintro e w2 ⟨rfl,ai⟩;have aZ:(w.alloc (Obj.cells #[Value.slice none 0 0] 39)).heap.size=w.heap.size+1:=by simp
 rw [aZ];have ah:Boxed w2 w.heap.size 39 (.slice none 0 0):=by rw [ai];exact(Boxed.new w _ _).alloc _
 have bs:w2.cell? ⟨w.heap.size+1,0,none⟩=some (.pointer (some ⟨ha,0,none⟩)):=by rw [ai];go_simp
 have a0:=Ynt;have b9 :w.heap.size+2<=w2.heap.size:=by rw [ai];simp
 clear ai hN aZ;gi_wp2_with fail;have bu:=Zh (an.below a0);have a1: ∀k,IW w.heap.size w2 k->k=w.heap.size:=λk U=>by
  rcases U with h|⟨m,c,h⟩
  . exact h
  . rw [ah.cell] at h;cases h
 have bv:NU (IW w.heap.size) w2.heap.size a mb ha (w.heap.size+1) D none w2:=⟨Nat.le_refl _,λk U=>by
  have bw:=a1 k U;subst bw;refine⟨λaI=> ?_, ?_, ?_,by omega,λr aD=>by cases aD⟩
  . exact Nat.lt_irrefl _ (an.sl.lt aI)
  . have:=Am an.hs;simp only at this;omega
  . have aC:=an.Fw a (.inl rfl);have a2:=an.sl.lt (.inl rfl);omega⟩
 refine wpIn_rangeFunc_ownH (α:={z:Nat × Hd // z∈L}) rfl (by omega) (gf:=141) (lb:= #[.pointer (some ⟨w.heap.size+1,0,none⟩)]) rfl trivial (enters_of func141 (by kernel_rfl) rfl)
  (OK bu aY br bs (IW w.heap.size) (λX Y cb J k U=>GL (by omega) J k U) bv (λk U=>by have:=a1 k U;omega))
  (λh k=>h.trans k) (λW l o a3 cc a4 h1 aC=>⟨KB.putObj a3 a4 h1 aC,λk U=> .inl (Xt a3 (by omega) k U)⟩) (Below.refl _ _) (λ_=>rfl)
  (λpre W=>G1 w (blocks (pre.map (λ(z:{z:Nat × Hd // z∈L})=>z.1))) W)
  (λbz pre W=>False)
  (Uc w (λpre:List {z:Nat × Hd // z∈L}=>blocks (pre.map (λ(z:{z:Nat × Hd // z∈L})=>z.1))) _ (by omega))
  (λ_ _ _ _ _ hs _ _=>hs)
  ⟨_,ah,World.ownsRow_nil _ _ _ _,a0⟩
  (λx a' W=> ∃B,Ep W B x.1.2/\DD W w.heap.size B/\a' ={ tmps:= #[ .pointer (some ⟨ha,0,none⟩),undef, .slice none 0 0, .pointer (some ⟨w.heap.size,0,none⟩), .int .i64 (x.1.1:Nat), .pointer (some ⟨B,0,none⟩),undef,undef,undef, .pointer (some ⟨ha,0,none⟩), .bool false, .pointer (some ⟨ha,0,none⟩), .func (.func 141) #[] #[ .pointer (some ⟨w.heap.size+1,0,none⟩)], .int .i64 (x.1.1:Nat),Is x.1.2,undef,undef,undef,undef,undef,undef,undef,undef,undef,undef,undef,undef,undef,undef,undef,undef,undef,undef,undef,undef,undef,undef,undef,undef,undef,undef,undef,undef,undef,undef,undef,undef,undef],defers:= [] })
  (λx a' s A B row hs hg aD=>by
   obtain⟨B',aC,bA,a2⟩:=hs;exact⟨B',aC.kept hg (λr e=>(aD r e).2),bA.kept hg (λr e=>(aD r e).2),a2⟩)
  ?assign ?body ?done ?stop
 case assign=>
  rintro l pre ⟨⟨p,hd⟩,al⟩ W K hi Z;dsimp only at Z ⊢;have J:=Yjg;have aJ:w.heap.size<W.heap.size:=by obtain⟨v,h1,_⟩:=hi;exact h1.lt
  have a5:=Zh (Z _ (W.alloc (Obj.cells #[Value.int IntKind.i64 (Hu hd:Nat),Value.int IntKind.i64 (Hp hd:Nat),Value.int IntKind.u64 (Hi hd:Nat)] 165)) ((BI J).from _) (KE.below J (λk U=>GL aJ J k U)) (hi.below J) ⟨W.heap.size,Ke _ _ _,VK hi,rfl⟩);clear Z J hi;rw [Jd] at a5 ⊢;gi_wp2;exact a5.out
 case body=>
  rintro l pre ⟨⟨p,hd⟩,al⟩ a' W a4 ⟨r,aD⟩ hi ⟨B,ah,bB,rfl⟩ hlen;dsimp only at ah ⊢;have a6:=aY.ok _ al;obtain⟨bC,ax,U,ag,hw⟩:=Ync;have a7:Hid (blocks ((pre++ [(⟨(p,hd),al⟩:{z:Nat × Hd // z∈L})]).map (λ(z:{z:Nat × Hd // z∈L})=>z.1))=blocks (pre.map (λ(z:{z:Nat × Hd // z∈L})=>z.1))++A8 (p,hd)):=Zh (by
   rw [List.map_append,blocks,blocks,List.flatMap_append];simp)
  have cd:(blocks (pre.map (λ(z:{z:Nat × Hd // z∈L})=>z.1))).length<=31*4096:=by
   have:=MB (pre.map (λ(z:{z:Nat × Hd // z∈L})=>z.1));rw [List.length_map] at this;omega
  generalize blocks (pre.map (λ(z:{z:Nat × Hd // z∈L})=>z.1))=told at*;clear bC
  cases hd with
  |Bx ww=>
   simp only [Hu,Hp,Hi] at U ag hw ⊢;have d0:((2:Int)==2)=true:=(by decide);obtain⟨v,V,ab,J⟩:=hi;have af:=V.cell;obtain⟨ac,aE,a8⟩:=EA;clear a6 J ab V;have ce:w.heap.size<=W.heap.size:=ac.size;gi_wp2_with (gi_at_builtin;refine wpListIn_append_own_at _ rfl _ _ 39 rfl w.heap.size 3 i0 (.int .i64 0) 1 8 Tryz.Mj hi aT aU aV rfl (by decide) _ _ _ rfl (aE.alloc _) ⟨W.heap.size,0,none⟩ 1 1 [.int .i64 ((p:Int)*64+2)] rfl rfl (cell_one_new _ _ _) (by simp [Value.oneCell']) (by unfold maxLen;omega) (by omega) (by simp;omega) ?_;intro v' w1 ae aL _ aM;rw [SM told p ww] at ae;obtain⟨bD,bE,rfl⟩:=ownsRow_succ ae;obtain⟨b1,b2,aF,aN,a9⟩:=KU (l' :=told++ [(64*p+2,ww)]) a8 aE ac (by simpa using ae) aL aM;have bF:=b1.cell;have bG:=b1.frozen);exact⟨aN.from _,aF,by show G1 w _ _;rw [a7.out];exact b2⟩
  |small O m=>
   obtain⟨aB,bH,az⟩:=a6;obtain⟨aA,_⟩:=Ynp;obtain⟨bI,bJ⟩:=Ylq;simp only [Hu,Hp,Hi] at U ag hw ⊢;have d0:((1:Int)==2)=false:=(by decide);have aw:B<W.heap.size:=Am U;have ba:=Zh hi;clear bH az hi;gi_wp2_with fail;refine(bJ _).mono ?_;rintro e W' ⟨rfl,I⟩;rw [bI];have bK:=Yls;have aJ:w.heap.size<W.heap.size:=(by obtain⟨v,h1,_⟩:=ba.out;exact h1.lt);have bL:=Zh (ba.below I);have bM:=Zh ((BI I).from w2.heap.size);have bN:=Zh (KE.below I (λk U=>GL aJ I k U));have bO:=Zh (bB.below I);clear I U ag hw d0;gi_wp2_with fail;generalize bb:AY O=aG at*;have ay:=Zh bb;clear bb
   gi_loopw [31] (λaO wr=> ∃k:Nat,k<=aG/\aO= .int .i64 k/\Hid (Ep wr B (.small O m))/\Hid (DD wr w.heap.size B)/\Hid (G1 w (told++B9 p O m k) wr)/\Hid (KE (IW w.heap.size) W' wr)/\Hid (KeepsOthers W' wr)) (λaO _=>aG-(intOf aO).toNat)
   case atStart=>exact⟨0,by omega,rfl,Zh bK,bO,by simpa [B9] using bL,Zh (KE.below (Below.refl _ _) (λ_ h=>h)),Zh (KeepsOthers.refl _)⟩
   case round=>
    obtain⟨k,cf,rfl,am,FA,aH,aP,aQ⟩:=hrel;have bc:=am.k;have aR:=am.n;have bd:=am.w;simp only [Hu,Hp,Hi] at bc aR bd;have be:=Yod;by_cases cg:k<aG
    . have bf:=Zh (LA p O m k)
      by_cases ao:m.testBit k=true
      . have bP:=Yne
        have aS:=Zh ao;have d5:=ao;have bQ:=OO;obtain⟨v,V,ab,J⟩:=aH.out;have af:=V.cell;have ci:(told++B9 p O m k).length<=31*4096+31:=by
         rw [List.length_append];have:=Io p O m k;have:=ay.out;omega
        have a8:=Zh V;have aE:=Zh ab;have ac:=Zh J;clear V ab J ao;generalize hA:64*p+2+k*sz O=A at*;clear hA;have bR:=Zh (show told++B9 p O m (k+1)=(told++B9 p O m k)++ [(A,sz O)] by rw [bf.out,if_pos aS.out,List.append_assoc]);generalize bS:told++B9 p O m k=ls at*;clear bS;gi_wp2_with (gi_at_call 94;refine(be _).mono ?_;rintro e aj ⟨rfl,rfl⟩);have bg: ∀X:BK wr,X.W.cell? ⟨w.heap.size,0,none⟩=some v:=(λX=>X.cell af);have bh: ∀X:BK wr,X.W.cell? ⟨B,1,none⟩=some (.int .i64 O):=(λX=>X.cell aR);refine Dn (λw' => ∃X:BK wr,w' =X.W) 5 2 7 bQ (by kernel_rfl) (by kernel_rfl) (by kernel_rfl) (by kernel_rfl) (by decide) rfl (by kernel_rfl) ⟨⟨_,Ac wr⟩,rfl⟩ (λ_ _ _ _ h=>h) ?_;simp only [List.take_succ_cons,List.take_zero,List.drop_succ_cons,List.drop_zero];refine AU v rfl (by rintro _ ⟨X,rfl⟩;have:=bg X;go_simp) (λ_=>rfl) ?_;go_simp;refine AU (.int .i64 p) rfl (by rintro _ ⟨X,rfl⟩;go_simp) (λ_=>rfl) ?_;go_simp;refine AU (.pointer (some ⟨B,1,none⟩)) rfl (by rintro _ ⟨X,rfl⟩;go_simp) (λ_=>rfl) ?_;go_simp;refine AU (.int .i64 O) rfl (by rintro _ ⟨X,rfl⟩;have:=bh X;go_simp) (λ_=>rfl) ?_;go_simp;refine AU (.int .i64 (k:Nat)) rfl (by rintro _ ⟨X,rfl⟩;go_simp) (λ_=>rfl) ?_;go_simp;refine FR ?_;refine Cw (λbT bi=> ?_);gi_wp2_with (gi_at_call 95;refine(bP _).mono ?_;rintro e aj ⟨rfl,bj⟩);have aa :Below wr.heap.size wr aj:=(Ac wr).trans bj;have bU:aj.cell? ⟨w.heap.size,0,none⟩=some v:=(aa.cell (p:=⟨w.heap.size,0,none⟩) (Am af)).trans af;obtain⟨v5,au,ar,aK⟩:=aH.below aa;obtain rfl:v5=v:=by have h1:=au.cell;rw [bU] at h1;simpa using h1.symm
        obtain⟨bV,bk,bW⟩:=OT;have aq:=Zh aa;have bX:=Yox;have bm:=Zh (FA.below aa);have bY:=Zh af;clear au ar aK bj aa af aR bc bd bg bh;have bZ:w.heap.size<wr.heap.size:=Am bY.out;have cj:B<wr.heap.size:=Am am.k;refine bi _ _ ⟨⟨aj,aq⟩,rfl⟩ ?_;clear bi bT;refine Cw (λb3 bo=> ?_);gi_wp2;refine bo _ _ ⟨⟨_,aq.alloc bX _⟩,rfl⟩ ?_;clear bo b3;refine EH ?_;have ck:w.heap.size<=aj.heap.size:=(by omega);gi_wp2_with (gi_at_builtin;refine wpListIn_append_own_at _ rfl _ _ 39 rfl w.heap.size 3 i0 (.int .i64 0) 1 8 Tryz.Mj hi aT aU aV rfl (by decide) _ _ _ rfl (bk.alloc _) ⟨aj.heap.size,0,none⟩ 1 1 [.int .i64 (A:Int)] rfl rfl (cell_one_new _ _ _) (by simp [Value.oneCell']) (by unfold maxLen;omega) (by omega) (by simp;omega) ?_;intro v' w1 ae aL _ aM;rw [RN _ A (sz O)] at ae;obtain⟨bD,bE,rfl⟩:=ownsRow_succ ae;obtain⟨b1,b2,aF,aN,a9⟩:=KU (l' :=ls++ [(A,sz O)]) bV bk bW (by simpa using ae) aL aM;have bF:=b1.cell;have bG:=b1.frozen);have b4:=Zh (KE.below aq (λk U=>GL bZ aq k U));go_roundw
        case rel=>
         refine⟨k+1,by omega,by go_num,Zh ((am.below aq).ke aF bm),Zh (a9 B (by omega) bm), ?_,Zh (aP.trans (b4.trans aF)),Zh (aQ.trans ((BI aq).trans aN))⟩;rw [bR.out];exact Zh b2
        case measure=>simp [intOf];omega
      . have cl:m.testBit k=false:=by simpa using ao
        have aS:=Zh ao;clear ao;gi_wp2_with (gi_at_call 94;refine(be _).mono ?_;rintro e aj ⟨rfl,rfl⟩);go_roundw
        case rel=>exact⟨k+1,by omega,by go_num,am,FA,by rw [bf.out,if_neg aS.out];exact aH,aP,aQ⟩
        case measure=>simp [intOf];omega
    . obtain rfl:k=aG:=by omega
      gi_wp2;exact⟨bM.trans (aQ.from _),bN.trans aP,by show G1 w _ _;rw [a7.out,<-MC,ay.out];exact aH.out⟩
 case done=>
  rintro D' xs W b5 bp hi Z;rw [bp] at hi;obtain⟨v,V,ab,J⟩:=hi;obtain⟨_,ac,aE⟩:=Yrr;clear J ab V bp;gi_wp2;refine⟨by simp, .inl ⟨_,_,rfl,run_takeDeferred Z, ?_⟩⟩;refine⟨v,by simp [results,f52],v,rfl,FC (Cs:=λ_=>False) aE (KB.putObj _ Z rfl rfl) (λ_ h=>h.elim), ?_⟩;exact Ydg
 case stop=>
  rintro D' bz pre W b5 cn aI;exact aI.elim
