/- A part. -/
import Derived.Test.YtiopopoohglepaaGreatDoorVMt
set_option linter.all false
set_option maxRecDepth 100000
set_option maxHeartbeats 8000000
namespace Go.Proofs.YtiopopoohglepaaGreatDoor
open Go.Proofs.Tryz
open Go Go.RowKit
variable {B:Nat->Prop}{W w:World}{i id:Nat}{p:Addr}{v:Value}
inductive St where
 |r (i:Nat)
 |a (k:Nat)
section
variable {P:Program} {ops:Array Oper} {md:Region.Mode} {Q:Exit->Act->World->Prop} {C:World->Prop}
def G0(md:Region.Mode)(ops:Array Oper):List St->Array Bool->Bool
 | [],listed=>(Region.ready md ops listed).isEmpty
 | .r i::s,listed=>(Region.ready md ops listed).contains i&&Region.free md ops listed i&&G0 md ops s (listed.setIfInBounds i true)
 | .a k::s,listed=>decide (Region.ready md ops listed= [k])&&G0 md ops s (listed.setIfInBounds k true)
def CT(P:Program)(ops:Array Oper)(Q:Exit->Act->World->Prop):List St->(World->Prop)->Act->World->Prop
 | [],_,a,w=>Q .normal a w
 | .r i::s,C,a,w=> ∃o v,ops[i]? =some o/\BY P ops C o v a/\CT P ops Q s C (a.put o.dst v) w
 | .a k::s,C,a,w=> ∃o,ops[k]? =some o/\wpList P ops (Qr (λa' w' => ∃C' :World->Prop,C' w' /\(∀x,C' x->C x)/\CT P ops Q s C' a' w') Q) [o] a w
theorem AO{a:Act}(h:Q .normal a w):CT P ops Q [] C a w:=h
theorem Ej{s:List St}{a:Act}(o:Oper)(v:Value)(hi:ops[i]? =some o)(h1:Region.wanted o (yielded ops a.tmps)=true)(d: ∀w,C w->(execOp a.eval o).run P w= .ok (.value v) w)(h:CT P ops Q s C (a.put o.dst v) w):CT P ops Q (.r i::s) C a w:=
 ⟨o,v,hi, .inl ⟨h1,d⟩,h⟩
theorem AE{s:List St}{a:Act}{o:Oper}(h:CT P ops Q s C (a.put o.dst v) w)(hi:ops[i]? =some o:=by exact rfl)(h1:Region.wanted o (yielded ops a.tmps)=true:=by exact rfl)(d: ∀w,C w->(execOp a.eval o).run P w= .ok (.value v) w:=by rintro _ ⟨X,rfl⟩;go_simp;exact rfl):CT P ops Q (.r i::s) C a w:=
 Ej o v hi h1 d h
theorem Ek{s:List St}{a:Act}(o:Oper)(hi:ops[i]? =some o)(h1:Region.wanted o (yielded ops a.tmps)=false)(h:CT P ops Q s C (a.put o.dst undef) w):CT P ops Q (.r i::s) C a w:=
 ⟨o,undef,hi, .inr ⟨h1,rfl⟩,h⟩
theorem AK{k:Nat}{s:List St}{a:Act}(o:Oper)(d:ops[k]? =some o)(h: ∀K:Act->World->Prop,(∀a' w',C w' ->CT P ops Q s C a' w' ->K a' w')->wpList P ops (Qr K Q) [o] a w):CT P ops Q (.a k::s) C a w:=
 ⟨o,d,h _ (λ_ _ h1 I=>⟨C,h1,λ_ h=>h,I⟩)⟩
theorem C6.mono{d :World->Prop}(I: ∀x,d x->C x): ∀(f:Nat) (listed:Array Bool) (a:Act) (w:World),C6 P md ops Q d f listed a w->C6 P md ops Q C f listed a w
 |0,_,_,_,h=>h
 |f+1,_,_,_,h=>⟨h.1,λi hi=>wpOp_mono (λa' w' J =>⟨I _ J.1,C6.mono I f _ a' w' J.2⟩) (h.2 i hi)⟩
theorem E5(I:Region.noSelect ops=true)(J: ∀c a d v w,Q (.panic c) (Act.put a d v) w->Q (.panic c) a w):
 ∀(s:List St) (C:World->Prop) (listed:Array Bool) (a:Act) (w:World),C w->G0 md ops s listed=true->CT P ops Q s C a w->C6 P md ops Q C s.length listed a w
 | [],C,listed,a,w,hC,hB,h=>⟨by simpa [G0] using hB,h⟩
 | .r i::s,C,listed,a,w,hC,hB,h=>by
   obtain⟨o,v,h0,U,V⟩:=h;simp only [G0,Bool.and_eq_true] at hB;obtain⟨⟨Z,aa⟩,ab⟩:=hB
   exact JE h0 (Region.noSelect_spec I) (λc a w h=>J c a _ _ w h) s.length listed a w (Region.free_spec h0 aa) (by simpa using Z) U hC
    (E5 I J s C _ _ w hC ab V)
 | .a k::s,C,listed,a,w,hC,hB,h=>by
   obtain⟨o,h0,h⟩:=h;simp only [G0,Bool.and_eq_true,decide_eq_true_eq] at hB;refine⟨λh1=>(by rw [hB.1] at h1;cases h1),λi hi=> ?_⟩;rw [hB.1] at hi;obtain rfl:i=k:=by simpa using hi
   exact wpOp_mono (λa' w' ⟨ac,h1,O,ae⟩=>⟨O _ h1,C6.mono O _ _ _ _ (E5 I J s ac _ a' w' h1 hB.2 ae)⟩) (De h0 h)
theorem LD{a:Act}{l:List Oper}(C:World->Prop)(s:List St)(hm:P.follows .mixedOrders=true)(I:Region.noSelect l.toArray=true)(hlen:s.length=l.length)
 (J:G0 .any l.toArray s (Array.replicate l.toArray.size false)=true) (O:C { w with drawn:=w.drawn+1 }) (U: ∀c a d v w,Q (.panic c) (Act.put a d v) w->Q (.panic c) a w)
 (h:CT P l.toArray Q s C a { w with drawn:=w.drawn+1 }):(Code.region id l.toArray true).wp P Q a w:=by
 refine wp_region_any hm (C6.any (C:=C) _ _ _ _ ?_);have:=E5 (md:= .any) I U s C (Array.replicate l.toArray.size false) a _ O J h;rw [hlen] at this
 simpa using this
theorem Aw{a:Act}{l:List Oper}(C:World->Prop)(s:List St)(I:C { w with drawn:=w.drawn+1 })(h:CT P l.toArray Q s C a { w with drawn:=w.drawn+1 })(hm:P.follows .mixedOrders=true:=by kernel_rfl)(J:Region.noSelect l.toArray=true:=by kernel_rfl)(hlen:s.length=l.length:=by rfl)(O:G0 .any l.toArray s (Array.replicate l.toArray.size false)=true:=by kernel_rfl)(U: ∀c a d v w,Q (.panic c) (Act.put a d v) w->Q (.panic c) a w:=by intro _ _ d _ _ h;cases d<;>exact h):(Code.region id l.toArray true).wp P Q a w:=
 LD C s hm J hlen O I U h
end
structure Au(B:Nat->Prop)(w:World) where
 W:World
 size:w.heap.size<=W.heap.size
 same: ∀k,k<w.heap.size-> ¬B k->W.heap[k]? =w.heap[k]?
theorem Au.cell(d:w.cell? p=some v)(I: ¬B p.block)(X:Au B w):X.W.cell? p=some v:=by
 have J:p.block<w.heap.size:=by
  exact Ydr
 have:=X.same p.block J I;unfold World.cell? at d ⊢;rw [this];exact d
theorem Ay(B:Nat->Prop)(w:World): ∃X:Au B w,{ w with drawn:=w.drawn+1 }=X.W:=⟨⟨{ w with drawn:=w.drawn+1 },Nat.le_refl _,λ_ _ _=>rfl⟩,rfl⟩
theorem Af(h:Below w.heap.size w W): ∃X:Au B w,W=X.W:=⟨⟨W,h.size,λk d _=>h.block k d⟩,rfl⟩
theorem Cl{W':World}(h: ∃X:Au B w,W=X.W)(d:Below W.heap.size W W'): ∃X:Au B w,W' =X.W:=by
 obtain⟨X,rfl⟩:=h;exact⟨⟨W',Nat.le_trans X.size d.size,λk I J=>(d.block k (Nat.lt_of_lt_of_le I X.size)).trans (X.same k I J)⟩,rfl⟩
theorem Bi(h: ∃X:Au B w,W=X.W)(hp:B p.block)(v:Value): ∃X:Au B w,W.setCell p v=X.W:=by
 obtain⟨X,rfl⟩:=h;refine⟨⟨X.W.setCell p v,by simpa [World.setCell] using X.size,λk I d=> ?_⟩,rfl⟩;rw [<-X.same k I d];exact Below.heap_setCell _ _ _ _ λe=>d (by rw [e];exact hp)
section
variable {F:Fence} {n:Nat} {P:Program} {ops:Array Oper} {md:Region.Mode} {Q:Exit->Act->World->Prop} {C:World->Prop}
end
end Go.Proofs.YtiopopoohglepaaGreatDoor
namespace Go.Proofs.YtiopopoohglepaaGreatDoor
open Go.Proofs.Tryz
open Go.RowKit Go.Shelf
def SO:Option (Nat × Nat)->Value
 |some (k,v)=> .agg #[.int .u64 k, .int .u64 v]
 |none=> .agg #[.int .u64 0, .int .u64 0]
theorem AJ.Nv{w:World}{F:Nat->Prop}{A:Option Addr}{l:List Nat}(h:AJ w F A (AG l)){k:Nat}(I:k<l.length): ∃b o,A=some ⟨b,o,none⟩/\b<w.heap.size/\ ¬F b/\ ∀W,Below w.heap.size w W->W.cell? ⟨b,o+k,none⟩=some (.int .u64 (l[k]:Nat)):=by
 rcases h with h|⟨b,o,h1,d,J,O⟩
 . exact Yfu
 . exact⟨b,o,h1,d,J,λW U=>(U.cell (p:=⟨b,o+k,none⟩) d).trans (O k _ (EK I))⟩
theorem BG{W:World}{b:Nat}{T:TypeId}{vs:List Value}(h:An W b T vs):An W.drew b T vs:=h.block rfl
section
variable {w w' :World} {s N:Nat} {R:Zr} {nn:Nat}
def VD{P}(h:P:=by
 rcases bj.out with aa|aa
 . exact absurd aa ah
 . omega):=h
def Ygo{P}(h:P:=by
 have d:=Zh (al.trans (V.mono al.size));exact d):=h
def QK{P}(h:P:=by
 have d:=Zh (ax.trans (U.mono ax.size));exact d):=h
def VC{P}(h:P:=by
 have d:Below w.heap.size w ai:=by rw [aB];exact((Below.refl _ w).alloc (Nat.le_refl _) _).alloc (by simp) _
 exact d):=h
def Yhn{P}(h:P:=by
 have l1:n.keys.length<=31:=by omega
 have l3:n.kids.length<=32:=by
  rcases aT with aa|aa
  . rw [aa];simp
  . omega
 have d:CX aj (λ_=>False) (.agg #[.slice ay n.keys.length q1, .slice az n.Ab.length au, .slice ar n.kids.length am, .int .u64 n.size]) n:=aN.Mz (F:=λ_=>False) (λ_ h=>h.elim) n.size (by omega) (by omega) (by omega);exact And.intro l1 (And.intro l3 d)):=h
def OC{P}(h:P:=by
 have d:=Zh (And.intro an aD);have I:=Zh aw;exact And.intro d I):=h
def Qf{P}(h:P:=by
 have d:=Zh (And.intro aB (And.intro aC aM));exact d):=h
def PU{P}(h:P:=by
 have d:=Zh ((aq.set 0 (.int .u64 0)).set 1 (.int .u64 0));exact d):=h
def YB{P}(h:P:=by
 have aA:=Zh aO;have aN:=Zh (d.below ba);exact And.intro aA aN):=h
def Yjx{P}(h:P:=by
 have d:=Zh aR;have bj:Hid (n.kids= []\/n.kids.length=n.keys.length+1):=Zh (aT.imp id And.left);exact And.intro d bj):=h
def V9{P}(h:P:=by
 have d:0<n.kids.length:=List.length_pos_iff.2 ah;exact d):=h
def YV{P}(h:P:=by
 have d:k<=n.keys.length:=by rw [aL];exact(MJ _ _ 0 _ (Nat.zero_le _)).2
 exact d):=h
def Ymn{P}(h:P:=by
 have d:=Zh (DQ (aI.below aF) t aG y aZ);exact d):=h
def Ymq{P}(h:P:=by
 have I:Below wr.heap.size wr aj:=aS.trans (ba.mono aS.size);exact I):=h
def Yob{P}(h:P:=by
 have d:ag=true->k<n.keys.length:=by rw [aL,aQ];unfold Gx;simp;intro h1 _;exact h1
 exact d):=h
def Ypi{P}(h:P:=by
 have d1:decide ((n.kids.length:Int)>0)=true:=decide_eq_true (by omega);exact d1):=h
theorem UG(h:Rd N w s R nn)(cM:Ba R){t:Nat}(b8:BN.A1 t)(x:Nat)(hx:x<18446744073709551616)(key:ByteArray):
 Calls prog 70 #[.agg #[.pointer (some ⟨s,0,none⟩), .int .i64 t], .int .u64 x, .string key] w λe w' =>e= .returned (.tuple #[SO (Bx R t key 40 x 0).1, .bool (Bx R t key 40 x 0).1.isSome, .int .i64 (Bx R t key 40 x 0).2])/\Below w.heap.size w w' :=by
 have cN:=OM;have aI:=Zh h;have aG:=Zh b8;obtain⟨ai,aB⟩:=Zx ((w.alloc (Obj.cells #[.pointer (some ⟨s,0,none⟩), .int .i64 t] 96)).alloc (Obj.cells #[.int .u64 0, .int .u64 0] 31));have b9:=VC;obtain⟨cb,aC⟩:=Zx w.heap.size;obtain⟨b6,aM⟩:=Zx (w.heap.size+1);have a3:An ai cb 96 [.pointer (some ⟨s,0,none⟩), .int .i64 t]:=by rw [aB,aC];exact(An.new w 96 [.pointer (some ⟨s,0,none⟩), .int .i64 t]).alloc _
 have x6:An ai b6 31 [.int .u64 0, .int .u64 0]:=by
  rw [aB,aM];have:=An.new (w.alloc (Obj.cells #[.pointer (some ⟨s,0,none⟩), .int .i64 t] 96)) 31 [.int .u64 0, .int .u64 0];exact ZS
 have g6:w.heap.size<=b6:=by omega
 have cc:cb≠b6:=by omega
 have bH:=Qf;have cd:=Zh b9;have bd:=Zh a3;have bc:=Zh x6;have bo:Hid (∀o b W,Bx R t key 40 x 0=(o,b)->Below w.heap.size w W->(Ending.returned (.tuple #[SO o, .bool o.isSome, .int .i64 b])=Ending.returned (.tuple #[SO (Bx R t key 40 x 0).1, .bool (Bx R t key 40 x 0).1.isSome, .int .i64 (Bx R t key 40 x 0).2])/\Below w.heap.size w W)):=Zh (λo b W h1 cO=>⟨by rw [h1],cO⟩);obtain⟨D,ce⟩:=Zx (Bx R t key 40 x 0);have be:=Zh ce;clear h b8 aB aC aM a3 x6 b9 ce;go_enter func70,ntmps70;go_wp2;rw [<-bH.1,<-bH.2.2,<-bH.2.1]
 go_loopw [1,8,14] (λcP bv bI wr=> ∃(i bJ :Nat) (b:Int),i<=40/\bJ <18446744073709551616/\cP= .int .u64 bJ /\bv= .int .i64 b/\bI= .int .i64 i/\Hid (D=Bx R t key (40-i) bJ b)/\Hid (Below ai.heap.size ai wr)) (λ_ _ bI _=>40-(intOf bI).toNat)
 case atStart=>exact⟨0,x,0,by omega,hx,rfl,rfl,rfl,be,Zh (Below.refl _ _)⟩
 case round=>
  obtain⟨i,y,b,hi,aZ,rfl,rfl,rfl,hd,ag⟩:=hrel;have aF:=cd.trans (ag.mono cd.size);have ac:=Zh aF;obtain⟨aq,bK⟩:=Yhh;obtain⟨⟨bf,bg⟩,bh,bi⟩:=Dl aq.out;obtain⟨bB,bC⟩:=A2 bK.out;by_cases cQ:i<40
  . have cf:=Ymn
    obtain⟨m,hm⟩: ∃m,40-i=m+1:=⟨39-i,by omega⟩;clear aF;go_wp2_with fail;refine cf.mono ?_;rintro e w2 ⟨v1,v2,v3,rfl,d,aS⟩;obtain⟨ay,q1,rfl⟩:=Ae d.r1;obtain⟨az,au,rfl⟩:=Ae d.r2;obtain⟨ar,am,rfl⟩:=Ae d.r3;obtain⟨n,aw⟩:=Zx (Ag R t y);have cg:D=Bx R t key (m+1) y b:=(by rw [<-hm];exact hd.out);rw [<-aw] at d;rw [<-aw];obtain⟨aj,an⟩:=Zx (w2.alloc (Obj.cells #[.slice ay n.keys.length q1, .slice az n.Ab.length au, .slice ar n.kids.length am, .int .u64 n.size] 100));obtain⟨ci,aD⟩:=Zx w2.heap.size;have ba:Below w2.heap.size w2 aj:=(by rw [an];exact(Below.refl _ _).alloc (Nat.le_refl _) _);have bL:=Zh (show ci≠b6 by have:=aq.lt;have:=aS.size;omega);have cR:=Zh aq.lt;have aO:An aj ci 100 [.slice ay n.keys.length q1, .slice az n.Ab.length au, .slice ar n.kids.length am, .int .u64 n.size]:=(by rw [an,aD];exact An.new w2 100 [.slice ay n.keys.length q1, .slice az n.Ab.length au, .slice ar n.kids.length am, .int .u64 n.size]);have I:=Ymq;have ao:=Zh (aq.below I);have z3:=Zh (bK.below I);have af:=DR;have al:=ZB;obtain⟨bk,cj⟩:=OC;obtain⟨aA,aN⟩:=YB;have bM:=Zh cg;have cT:=Zh hm;clear bf bg bh bi bB bC cf aS d aw an aD ba I aO cg hd ag aq bK ac hm;by_cases he:Bm R t y=0
    . rw [decide_eq_true he]
      have hw:=BR aI aG he;rw [<-cj.out] at hw;obtain⟨cU,bN,ck,wc,cV⟩:=hw;have t2:=aG.2;obtain⟨g1,g2,aT⟩:=cU;obtain⟨_,_,cl⟩:=Yhn;have aR:=GX (aI.below af) cM cl t bN key;obtain⟨k,aL⟩:=Zx (DJ R n.keys key);obtain⟨ag,aQ⟩:=Zx (Gx R n.keys key);have dy:=YV;have cn:=Yob;rw [<-aL,<-aQ] at aR;have co:D=Bx.bstep R t n k ag b (Bx R t key m):=by
       rw [bM.out,aL,aQ,cj.out];conv=>lhs;unfold Bx
       exact if_neg (λh=>h he)
      have cW:=Zh co;obtain⟨cp,bj⟩:=Yjx;have cr:=Zh cn;have aX:=Zh g2;have bO:=Zh (And.intro bN (And.intro ck wc));obtain⟨bB,bC⟩:=A2 z3.out;rw [bk.1] at bB bC;clear cl aR aL aQ co cn g2 aT bN ck wc cV he bM;go_wp2_with fail;rw [<-bk.1,<-bk.2];refine cp.mono ?_;rintro e w4 ⟨rfl,V⟩;have u3:=Zh (z3.below V);obtain⟨bP,aE⟩:=VQ;have bm:=Zh (aN.below V);have ax:=Jt;have cu:=Ygo;obtain⟨B1,dz,bQ,J⟩:=A5 (F:=λ_=>False) bm.r1 (λ_ h=>h.elim);obtain⟨B2,dA,bR,ab⟩:=A5 (F:=λ_=>False) bm.r2 (λ_ h=>h.elim);obtain⟨B3,dB,bS,Z⟩:=A5 (F:=λ_=>False) bm.r3 (λ_ h=>h.elim)
      cases bQ
      cases bR
      cases bS
      obtain⟨cX,cY,cv⟩:=EW;obtain⟨S,bD⟩: ∃S:Nat->Int,S=λj=>FK R t (n.kids.take j) (wrap64 (b+(k:Nat))):=⟨_,rfl⟩
      have cZ:=Zh bD;have bT:S 0=wrap64 (b+(k:Nat)):=(by rw [bD];rfl);have c8:=Zh bT;have c9:Hid (∀j (bU:j<n.kids.length),S (j+1)=wrap64 (S j+Cq R t n.kids[j])):=Zh (λj bU=>by
       rw [bD];simp only [List.take_succ_eq_append_getElem bU];unfold FK;rw [List.foldl_append];rfl)
      obtain⟨lim,cw⟩:=Zx (if n.kids= [] then 0 else k);have bE:=Zh cw;have dC:wrap64 (b+(k:Int))=S 0:=bT.symm;clear V z3 ao aA aN af al cp J ab Z bD bT cw bk bB bC;obtain⟨bV,rfl⟩:=Zx wr;go_wp2
      go_loopw [8,13] (λbv bW da=> ∃j:Nat,j<=lim/\bv= .int .i64 (S j)/\bW= .int .i64 j/\Hid (Below w4.heap.size w4 da)) (λ_ bW _=>lim-(intOf bW).toNat)
      case atStart=>exact⟨0,by omega,by first|rfl|rw [c8.out],rfl,Zh (Below.refl _ _)⟩
      case round=>
       obtain⟨j,bU,rfl,rfl,U⟩:=hrel;have a4:=QK;by_cases cQ:j<lim
       . have ah:n.kids≠ []:=λe=>by have aa:=bE.out;rw [if_pos e] at aa;omega
         have db:j<k:=(by have aa:=bE.out;rw [if_neg ah] at aa;omega);have dD:=V9;have bX:j<n.kids.length:=by
          exact VD
         have d1:=Ypi;have d2:decide ((j:Int)<(k:Int))=true:=decide_eq_true (by omega);obtain⟨bY,cx,rfl,cy,a5⟩:=cv.num bX;have a8:=a5 wr U.out;have a9:=(λW (ag:Below wr.heap.size wr W)=>E4 (aI.below (a4.trans (ag.mono a4.size))) t aG n.kids[j] (bO.2.2 j bX));have bZ:=c9.out j bX;obtain⟨aV,a6⟩: ∃aV,n.kids[j]=aV:=⟨_,rfl⟩;rw [a6] at a8 a9 bZ;generalize Cq R t aV=bF at*;have b3:=Zh a9;have bp:=(λX:BL wr=>X.cell ((u3.below U).at' (i:=0) rfl));have bq:=(λX:BL wr=>X.cell ((u3.below U).at' (i:=1) rfl));have a3:=(λX:BL wr=>X.cell ((aE.below U).at' (i:=2) rfl));have br:=(λX:BL wr=>X.cell a8);have cz:wrap64 (S j+bF)=S (j+1):=bZ.symm;have f2:=(aE.below U).at' (i:=2) rfl;clear a9 a6 bZ a5 ah;go_wp2;refine Ei cN (by kernel_rfl) ?_
         repeat (go_big_quiet_step ((go_at_call 49;exact Ja (b3 _ (BL.h _)))))
         refine wpQuiet_nil ?_;rintro _ ⟨X,rfl⟩;have dc:=Zh (U.trans (X.h.mono U.size));clear bp bq a3 br;go_wp2;go_roundw
         case rel=>exact⟨j+1,by omega,by first|rfl|rw [cz],by go_num,dc⟩
         case measure=>simp [intOf];omega
       . obtain rfl:j=lim:=by omega
         have cB:FK R t (n.kids.take k) (wrap64 (b+(k:Nat)))=S j:=by
          rw [cZ.out];by_cases ah:n.kids= []
          . simp [ah]
          . have aa:=bE.out
            rw [if_neg ah] at aa;rw [aa]
         have a7 :=cW.out;unfold Bx.bstep at a7;rw [cB] at a7;clear cB;by_cases ah:n.kids= []
         . have dd:n.kids.length=0:=by rw [ah];rfl
           have O:=a7;rw [if_pos ah,if_pos ah] at O
           cases ag with
           |true=>
            simp only [cond_true] at O;have ae:=cr.out rfl;have bs:=YO;obtain⟨b7,de,rfl,df,aP⟩:=cX.num ae;obtain⟨cC,dg,rfl,dh,aH⟩:=cY.num bs;obtain⟨bu,bw⟩:=Ynl;rw [show n.keys.getD k 0=n.keys[k] by simp [ae],show n.Ab.getD k 0=n.Ab[k] by simp [bs]] at O;obtain⟨aW,bz⟩: ∃y,n.keys[k]=y:=⟨_,rfl⟩;obtain⟨aY,bA⟩: ∃y,n.Ab[k]=y:=⟨_,rfl⟩;rw [bz] at bu O;rw [bA] at bw O;clear bz bA aP aH;have bp:=Ymt;have bq:=(λX:BL wr=>X.cell ((aE.below U).at' (i:=1) rfl));have a3:=(λX:BL wr=>X.cell bu);have br:=(λX:BL wr=>X.cell bw);have f2:=(aE.below U).at' (i:=2) rfl;have aU:=be.symm.trans O;have b4:=Zh aU;clear aU O a7;obtain⟨f0,f1⟩:=A2 (aE.below U);have v6:=bP.below U.out;obtain⟨⟨bf,bg⟩,bh,bi⟩:=Dl v6;have a0:=Zh (bo (some (aW,aY)) (S j) _ b4 ((a4.setCell (p:=⟨b6,0,none⟩) g6 (.int .u64 aW)).setCell (p:=⟨b6,1,none⟩) g6 (.int .u64 aY)).drew);have cD:=(v6.set 0 (.int .u64 aW)).set 1 (.int .u64 aY);have a1:=Zh (BG cD);clear bp bq a3 br v6 cD;go_wp2
            go_region_with (fail)
            all_goals
             go_wp2;obtain⟨a2,r1⟩:=A2 a1.out;refine bodyPost_ret (v:= .tuple #[.agg #[.int .u64 aW, .int .u64 aY], .bool true, .int .i64 (S j)]) ?_ ?_ a0.out
             . simp [results,f70,go_sem,a2,r1]
             . rfl
           |false=>
            simp only [cond_false] at O;have aU:=be.symm.trans O;have v6:=bP.below U.out;obtain⟨⟨bf,bg⟩,bh,bi⟩:=Dl v6;have f2:=(aE.below U).at' (i:=2) rfl;have a0:=Zh (bo none (S j) _ aU ((a4.setCell (p:=⟨b6,0,none⟩) g6 (.int .u64 0)).setCell (p:=⟨b6,1,none⟩) g6 (.int .u64 0)));have a1:=Zh ((v6.set 0 (.int .u64 0)).set 1 (.int .u64 0));clear aU O a7 v6;go_wp2;obtain⟨a2,r1⟩:=A2 a1.out;refine bodyPost_ret (v:= .tuple #[.agg #[.int .u64 0, .int .u64 0], .bool false, .int .i64 (S j)]) (by simp [results,f70,go_sem,a2,r1]) rfl a0.out
         . have dd:=V9
           have db: ¬j<k:=(by have aa:=bE.out;rw [if_neg ah] at aa;omega);have O:=a7;rw [if_neg ah,if_neg ah] at O
           cases ag with
           |true=>
            simp only [cond_true] at O;have ae:=cr.out rfl;have bs:=YO;have bb:k<n.kids.length:=by
             exact VD
            obtain⟨D1,d1,bQ,cF⟩:=A5 (F:=λb=>b<bV.heap.size) bm.r1 (λ_ h=>h);obtain⟨dE,d2,bR,cG⟩:=A5 (F:=λb=>b<bV.heap.size) bm.r2 (λ_ h=>h);obtain⟨dF,d3,bS,cH⟩:=A5 (F:=λb=>b<bV.heap.size) bm.r3 (λ_ h=>h)
            cases bQ
            cases bR
            cases bS
            obtain⟨b7,de,rfl,df,di,aP⟩:=cF.Nv ae;obtain⟨cC,dg,rfl,dh,dj,aH⟩:=cG.Nv bs;obtain⟨bY,cx,rfl,cy,dk,a5⟩:=cH.Nv bb;have dl:=cR.out;have dm:=Zh (show¬(b7=b6) by omega);have dn:=Zh (show¬(cC=b6) by omega);have dp:=Zh (show¬(bY=b6) by omega);obtain⟨bu,bw⟩:=Ynl;have a8:=a5 wr U.out;clear di dj dk dl cF cG cH;rw [show n.keys.getD k 0=n.keys[k] by simp [ae],show n.Ab.getD k 0=n.Ab[k] by simp [bs]] at O;obtain⟨aW,bz⟩: ∃y,n.keys[k]=y:=⟨_,rfl⟩;obtain⟨aY,bA⟩: ∃y,n.Ab[k]=y:=⟨_,rfl⟩;rw [bz] at bu O;rw [bA] at bw O;have a9:=(λW (ag:Below wr.heap.size wr W)=>E4 (aI.below (a4.trans (ag.mono a4.size))) t aG n.kids[k] (bO.2.2 k bb));rw [show n.kids.getD k 0=n.kids[k] by simp [bb]] at O;obtain⟨aV,a6⟩: ∃aV,n.kids[k]=aV:=⟨_,rfl⟩;rw [a6] at a8 a9 O;generalize Cq R t aV=bF at*;have b3:=Zh a9;obtain⟨b5,cI⟩:=Zx (wrap64 (S j+bF));have dq:wrap64 (S j+bF)=b5:=cI.symm;rw [dq] at O;have aU:=be.symm.trans O;have b4:=Zh aU;clear bz bA aP aH a9 a6 a5 cI aU O a7;have bp:=(λX:Au (λb=>b=b6) wr=>X.cell ((aE.below U).at' (i:=0) rfl) bL.out);have bq:=(λX:Au (λb=>b=b6) wr=>X.cell ((aE.below U).at' (i:=1) rfl) bL.out);have a3:=(λX:Au (λb=>b=b6) wr=>X.cell ((aE.below U).at' (i:=2) rfl) bL.out);have br:=(λX:Au (λb=>b=b6) wr=>X.cell bu dm.out);have dr:=(λX:Au (λb=>b=b6) wr=>X.cell bw dn.out);have x6:=(λX:Au (λb=>b=b6) wr=>X.cell a8 dp.out);have x7:=(λX:Au (λb=>b=b6) wr=>X.cell ((u3.below U).at' (i:=0) rfl) cc);have ds:=(λX:Au (λb=>b=b6) wr=>X.cell ((u3.below U).at' (i:=1) rfl) cc);have f2:=(aE.below U).at' (i:=2) rfl;have d1:=Ypi;go_wp2;refine Aw (λw' => ∃X:Au (λb=>b=b6) wr,w' =X.W) [.r 0, .r 1, .r 2, .r 3, .r 4, .r 5, .r 6, .r 7, .r 8, .r 9, .r 10, .r 11, .r 12, .r 13, .r 14, .r 15, .r 16, .r 17, .a 18, .r 19, .a 20, .r 21, .r 22] (Ay _ _) ?_
            iterate 18 (refine AE ?_;go_simp)
            clear bp bq a3 br dr x6 x7 ds;refine AK _ rfl (λdt cJ=> ?_);go_wp2_with fail;refine(b3 _ (Ac wr)).mono ?_;rintro e cz ⟨rfl,du⟩;have bG:=Zh ((Ac wr).trans du);go_wp2;refine cJ _ _ (Af bG) ?_;clear cJ dt;refine AE ?_;go_simp;have v6:=Zh ((bP.below U).below bG);obtain⟨⟨bf,bg⟩,bh,bi⟩:=Dl v6.out;refine AK _ rfl (λdv cK=> ?_);go_wp2;refine cK _ _ (Bi (B:=λb=>b=b6) (p:=⟨b6,1,none⟩) (Bi (B:=λb=>b=b6) (p:=⟨b6,0,none⟩) (Af bG) rfl _) rfl _) ?_;clear cK dv
            iterate 2 (refine AE ?_;go_simp)
            refine AO ?_;have a0:=Zh (bo (some (aW,aY)) b5 _ b4 (((a4.trans (bG.mono a4.size)).setCell (p:=⟨b6,0,none⟩) g6 (.int .u64 aW)).setCell (p:=⟨b6,1,none⟩) g6 (.int .u64 aY)));have a1:=Zh ((v6.set 0 (.int .u64 aW)).set 1 (.int .u64 aY));go_wp2;obtain⟨a2,r1⟩:=A2 a1.out;refine bodyPost_ret (v:= .tuple #[.agg #[.int .u64 aW, .int .u64 aY], .bool true, .int .i64 b5]) ?_ ?_ a0.out
            . simp [results,f70,go_sem,a2,r1]
            . rfl
           |false=>
            simp only [cond_false] at O;have bb:k<n.kids.length:=by
             exact VD
            obtain⟨bY,cx,rfl,cy,a5⟩:=cv.num bb;have a8:=a5 wr U.out;have cL:=bO.2.2 k bb;rw [show n.kids.getD k 0=n.kids[k] by simp [bb]] at O;obtain⟨aV,a6⟩: ∃aV,n.kids[k]=aV:=⟨_,rfl⟩;rw [a6] at a8 cL O;have hrel:Hid (D=Bx R t key (40-(i+1)) aV (S j)):=Zh (by rw [show 40-(i+1)=m by have:=cT.out;omega];exact O);have dw:=Zh (cu.trans (U.mono cu.size));have f2:=(aE.below U).at' (i:=2) rfl;clear a6 a5 O a7 ah;go_wp2;go_roundw
            case rel=>exact⟨i+1,aV,S j,by omega,cL,rfl,rfl,by go_num,hrel,dw⟩
            case measure=>simp [intOf];omega
    . rw [decide_eq_false he]
      have dx:=Zh he;clear he;obtain⟨⟨bf,bg⟩,bh,bi⟩:=Dl ao.out;rw [bk.1] at bf bg bh bi;go_wp2;rw [<-bk.1];have aU:Bx R t key 40 x 0=(none,b):=(by rw [<-be.out,bM.out];unfold Bx;exact if_pos dx.out);have a0:=bo.out none b _ aU ((af.setCell (p:=⟨b6,0,none⟩) g6 (.int .u64 0)).setCell (p:=⟨b6,1,none⟩) g6 (.int .u64 0));have a1:=(ao.set 0 (.int .u64 0)).set 1 (.int .u64 0);obtain⟨a2,r1⟩:=A2 a1;refine bodyPost_ret (v:= .tuple #[.agg #[.int .u64 0, .int .u64 0], .bool false, .int .i64 b]) (by simp [results,f70,go_sem,a2,r1]) rfl a0
  . obtain rfl:i=40:=by omega
    have aU:Bx R t key 40 x 0=(none,b):=(by rw [<-be.out,hd.out];rfl);have a0:=Zh (bo none b _ aU ((aF.setCell (p:=⟨b6,0,none⟩) g6 (.int .u64 0)).setCell (p:=⟨b6,1,none⟩) g6 (.int .u64 0)));have a1:=PU;clear aF aU;go_wp2;obtain⟨a2,r1⟩:=A2 a1.out;refine bodyPost_ret (v:= .tuple #[.agg #[.int .u64 0, .int .u64 0], .bool false, .int .i64 b]) (by simp [results,f70,go_sem,a2,r1]) rfl a0.out
end
namespace Bt
variable {k x y:Nat}{m:It}{n:BN}{st:List Nat}
section
variable {R R1:Zr} {t a lo:Nat}
theorem D0: ∀{c:Sb} {l:List Lk} {k:Nat} {z:Nat},k<=l.length->z∈(Ap c l k).ns->z∈Ax c l
 |c,l,0,z,_,h=>by cases l<;>exact List.mem_append.2 (.inl h)
 |c,[],k+1,z,h,_=>absurd h (by simp)
 |c,p::l,k+1,z,h,hz=>by
  rw [BC];exact List.mem_append.2 (.inr (D0 (by simpa using h) hz))
theorem C2{c:Sb}{l:List Lk}{p:Lk}(hp:p∈l){z:Nat}(d:z∈p.2.ns):z∈Ax c l:=
 List.mem_append.2 (.inr (List.mem_flatMap.2 ⟨p,hp,d⟩))
theorem Gj: ∀{c:Sb} {l:List Lk} {k:Nat} {s:Sb},k<=l.length->(Ax c l).Nodup->At R t a lo c->(∀p∈l,At R t a lo p.2)->(∀z,z∈Ax c l->z∉(Ap c l k).ns->R1 z=R z)->At R1 t a lo s->
 At R1 t a lo (AM c l k s).1/\ ∀p∈(AM c l k s).2,At R1 t a lo p.2
 |c,l,0,s,_,hn,hc,hl,hf,hs=>by
  have O:Ap c l 0=c:=by cases l<;>rfl
  have e:AM c l 0 s=(s,l):=by cases l<;>rfl
  rw [O] at hf;rw [e];refine⟨hs,λp hp=>(hl p hp).congr λz d=>hf z (C2 hp d) λI=> ?_⟩;exact(List.nodup_append.1 hn).2.2 z I z (List.mem_flatMap.2 ⟨p,hp,d⟩) rfl
 |c,[],k+1,s,h,_,_,_,_,_=>absurd h (by simp)
 |c,p::l,k+1,s,h,hn,hc,hl,hf,hs=>by
  rw [BC] at hn;obtain⟨n1,n2,n3⟩:=List.nodup_append.1 hn;have O:k<=l.length:=by simpa using h
  obtain⟨g1,g2⟩:=Gj (c:=p.2) (l:=l) (k:=k) (s:=s) O n2 (hl p (by simp)) (λq J=>hl q (List.mem_cons_of_mem _ J)) (λz d I=>hf z (by rw [BC];exact List.mem_append.2 (.inr d)) I) hs;refine⟨hc.congr λz d=>hf z (by rw [BC];exact List.mem_append.2 (.inl d)) λI=>n3 z d z (D0 O I) rfl,λq J=> ?_⟩;rcases List.mem_cons.1 J with rfl|J
  . exact g1
  . exact g2 q J
theorem Sd: ∀{c:Sb} {l:List Lk} {k:Nat} {s:Sb} {m:It} {r:Sb},k<=l.length->(Ax c l).Nodup->At R t a lo c->(∀p∈l,At R t a lo p.2)->(∀z,z∈Ax c l->z∉(Ap c l k).ns->R1 z=R z)->At R1 t a lo s->At R1 t a lo r->
 At R1 t a lo (Cg c l k s m r).1/\ ∀p∈(Cg c l k s m r).2,At R1 t a lo p.2
 |c,l,0,s,m,r,_,hn,hc,hl,hf,hs,hr=>by
  have O:Ap c l 0=c:=by cases l<;>rfl
  have e:Cg c l 0 s m r=(s,(m,r)::l):=by cases l<;>rfl
  rw [O] at hf;rw [e];refine⟨hs,λq d=> ?_⟩;rcases List.mem_cons.1 d with rfl|hp
  . exact hr
  . exact(hl q hp).congr λz I=>hf z (C2 hp I) λJ=>(List.nodup_append.1 hn).2.2 z J z (List.mem_flatMap.2 ⟨q,hp,I⟩) rfl
 |c,[],k+1,s,m,r,h,_,_,_,_,_,_=>absurd h (by simp)
 |c,p::l,k+1,s,m,r,h,hn,hc,hl,hf,hs,hr=>by
  rw [BC] at hn;obtain⟨n1,n2,n3⟩:=List.nodup_append.1 hn;have O:k<=l.length:=by simpa using h
  obtain⟨g1,g2⟩:=Sd (c:=p.2) (l:=l) (k:=k) (s:=s) (m:=m) (r:=r) O n2 (hl p (by simp)) (λq d=>hl q (List.mem_cons_of_mem _ d)) (λz I J=>hf z (by rw [BC];exact List.mem_append.2 (.inr I)) J) hs hr;refine⟨hc.congr λz I=>hf z (by rw [BC];exact List.mem_append.2 (.inl I)) λJ=>n3 z I z (D0 O J) rfl,λq d=> ?_⟩;rcases List.mem_cons.1 d with rfl|d
  . exact g1
  . exact g2 q d
theorem Ke: ∀(c:Sb) (l:List Lk) (b:Nat),(Ag R t c.h).size=c.Aa.length->(∀p∈l,(Ag R t p.2.h).size=p.2.Aa.length)->b+(c.Aa++l.flatMap λp=>p.2.Aa).length<18446744073709551616->
 DM R t (c.h::l.map (·.2.h)) b=b+(c.Aa++l.flatMap λp=>p.2.Aa).length
 |c,[],b,h1,_,h3=>by
  simp only [List.flatMap_nil,List.append_nil] at h3 ⊢;simp only [DM,List.map_nil,List.foldl_cons,List.foldl_nil,h1];exact Nat.mod_eq_of_lt h3
 |c,p::l,b,h1,h2,h3=>by
  simp only [List.flatMap_cons,List.length_append] at h3;have d:=Ke p.2 l (b+c.Aa.length) (h2 p (by simp)) (λq I=>h2 q (List.mem_cons_of_mem _ I)) (by simp only [List.length_append];omega);unfold DM at d ⊢;rw [List.map_cons,List.foldl_cons,h1,Nat.mod_eq_of_lt (by omega),d];simp only [List.flatMap_cons,List.length_append];omega
theorem IN: ∀(c:Sb) (l:List Lk),(Ah c l).length=l.length+(c.Aa++l.flatMap λp=>p.2.Aa).length
 |c,[]=>by simp [Ah,rest]
 |c,p::l=>by
  have:=IN p.2 l;rw [BW];simp only [List.length_append,List.length_cons,List.flatMap_cons] at this ⊢;omega
theorem DN(c:Sb)(l:List Lk):(Aj c l).keys.length=l.length/\(Aj c l).Ab.length=l.length/\(Aj c l).kids.length=l.length+1:=by simp [Aj]
theorem CB{c:Sb}{l:List Lk}(h1:l.length<=2*t-1)(h0:0∉(c.h::l.map (·.2.h))):(Aj c l).Fits t:=by
 obtain⟨d,I,J⟩:=DN c l;exact⟨by omega,by omega, .inr ⟨by omega,h0⟩⟩
theorem Co{l:List It}(h1:l.length<=2*t-1):(Aq l).Fits t:=⟨by simpa [Aq] using h1,by simp [Aq], .inl rfl⟩
def Rec(R:Zr)(t x:Nat):Prop:= ∃ws,R x=some ws/\ws.length=6*t
theorem At.rec{s:Sb}(h:At R t a lo s):Rec R t s.h:=by
 obtain⟨n,h1,_⟩:=h.node;exact⟨_,h1.1,BN.B6 t n⟩
theorem JJ(d:Rec R t x)(I:n.Fits t)(J:n.keys.length<2*t):B7 R t x st n=(AT R x (some (n.wd t)),st,none):=by
 obtain⟨ws,h1,O⟩:=d;unfold B7;rw [if_pos J,B9 I h1 O]
theorem EE(h:Rec R t y):Rec (AT R x (some (n.wd t))) t y:=by
 by_cases e:y=x
 . subst e;exact⟨_,AR _ _ _,BN.B6 t n⟩
 . obtain⟨ws,h1,d⟩:=h
   exact⟨ws,(As e).trans h1,d⟩
theorem JD{left right:BN}(hx:Rec R t x)(d:Rec R t y)(Z:2*t<=n.keys.length)(I:leftOf t n (Ee R t n).size=left)(J:Ee R t n=right)(f1:left.Fits t)(f2:right.Fits t):
 B7 R t x (y::st) n=(AT (AT R x (some (left.wd t))) y (some (right.wd t)),st,some (n.keys.getD t 0,n.Ab.getD t 0,y)):=by
 obtain⟨ws,h1,O⟩:=hx;obtain⟨aa,U,V⟩:=EE (x:=x) (n:=left) d;unfold B7 DG;rw [if_neg (by omega),I,J,B9 f1 h1 O];simp only;rw [B9 f2 U V]
theorem N5{m:BN}(h1:n.keys=m.keys)(d:n.Ab=m.Ab)(I:n.kids=m.kids)(J:n.size+1=m.size)(O:m.size<18446744073709551616):n.more=m:=by
 refine BN.ext' h1 d I ?_
 show(n.size+1)%18446744073709551616=m.size
 rw [J,Nat.mod_eq_of_lt O]
theorem Fp(l:List Lk):l.map (·.1.kh)=(l.map (·.1)).map (·.kh):=by simp
theorem Fq(l:List Lk):l.map (·.1.vh)=(l.map (·.1)).map (·.vh):=by simp
theorem P2{c:Sb}{l:List Lk}{s:Sb}(d:k<=l.length)(he:s.h=(Ap c l k).h)(I:s.Aa.length=(Ap c l k).Aa.length+1)(J:(Ah c l).length+1<18446744073709551616):
 (Aj c l).more=Aj (AM c l k s).1 (AM c l k s).2/\(Ah (AM c l k s).1 (AM c l k s).2).length=(Ah c l).length+1:=by
 have e:(Ah (AM c l k s).1 (AM c l k s).2).length=(Ah c l).length+1:=by
  rw [Ew c l k s d,Bw c l k d];simp only [List.length_append,I];omega
 refine⟨N5 ?_ ?_ ?_ ?_ ?_,e⟩
 . show l.map (·.1.kh)=_
   rw [Fp,<-DY c l k s d,<-Fp];rfl
 . show l.map (·.1.vh)=_
   rw [Fq,<-DY c l k s d,<-Fq];rfl
 . exact(EX c l k s d he).symm
 . exact e.symm
 . show(Ah _ _).length<_
   rw [e];exact J
def Y5{P}(h:P:=by
 simp only [List.map_append,List.map_cons,List.map_take,List.map_drop]):=h
theorem Tz{c:Sb}{l:List Lk}{s:Sb}{r:Sb}(d:k<=l.length)(he:s.h=(Ap c l k).h)(J:s.Aa.length+1+r.Aa.length=(Ap c l k).Aa.length+1)(I:(Ah c l).length+1<18446744073709551616):
 (((Aj c l).Dy k m.kh m.vh).FX (k+1) r.h).more=Aj (Cg c l k s m r).1 (Cg c l k s m r).2/\(Ah (Cg c l k s m r).1 (Cg c l k s m r).2).length=(Ah c l).length+1:=by
 have e:(Ah (Cg c l k s m r).1 (Cg c l k s m r).2).length=(Ah c l).length+1:=by
  rw [Lm c l k s m r d,Bw c l k d];simp only [List.length_append,List.length_cons];omega
 refine⟨N5 ?_ ?_ ?_ ?_ ?_,e⟩
 . show(l.map (·.1.kh)).take k++m.kh::(l.map (·.1.kh)).drop k=(Cg c l k s m r).2.map (·.1.kh)
   rw [Fp,Fp,JW c l k s m r d];exact Y5
 . show(l.map (·.1.vh)).take k++m.vh::(l.map (·.1.vh)).drop k=(Cg c l k s m r).2.map (·.1.vh)
   rw [Fq,Fq,JW c l k s m r d];exact Y5
 . exact(M0 c l k s m r d he).symm
 . exact e.symm
 . show(Ah _ _).length<_
   rw [e];exact I
theorem Zp{l:List Lk}{t:Nat}(h:t<l.length): ∃A m d B,l=A++(m,d)::B/\A.length=t/\B.length=l.length-(t+1)/\l.take t=A/\l.drop (t+1)=B:=by
 refine⟨l.take t,l[t].1,l[t].2,l.drop (t+1), ?_,by rw [List.length_take];omega,by rw [List.length_drop],rfl,rfl⟩;have:=List.take_append_drop t l;rw [List.drop_eq_getElem_cons h] at this;exact this.symm
theorem CS(c:Sb)(A:List Lk)(m:It)(d:Sb)(B:List Lk):Ah c (A++(m,d)::B)=Ah c A++m::Ah d B:=by
 unfold Ah;rw [K4,BU];simp
theorem El(c:Sb)(A:List Lk)(m:It)(d:Sb)(B:List Lk):Ax c (A++(m,d)::B)=Ax c A++Ax d B:=by simp [Ax]
def Zy{P}(h:P:=by
 rw [List.map_append,List.map_cons,<-List.singleton_append,<-List.append_assoc,List.drop_left' (by simp [I])]):=h
def YR{P}(h:P:=by
 rw [List.getD_eq_getElem?_getD,List.getElem?_map,List.getElem?_append_right (by omega),I,Nat.sub_self];rfl):=h
def Y7{P}(h:P:=by
 rw [List.map_append,List.take_left' (by rw [List.length_map];exact I)]):=h
theorem OX{c:Sb}{A:List Lk}{d:Sb}{B:List Lk}(I:A.length=t)(hd:(Ag R t d.h).size=d.Aa.length)(O: ∀p∈B,(Ag R t p.2.h).size=p.2.Aa.length)(aa:(Ah c (A++(m,d)::B)).length<18446744073709551616):
 Ee R t (Aj c (A++(m,d)::B))=Aj d B/\leftOf t (Aj c (A++(m,d)::B)) (Ah d B).length=Aj c A/\(Aj c (A++(m,d)::B)).keys.getD t 0=m.kh/\(Aj c (A++(m,d)::B)).Ab.getD t 0=m.vh:=by
 have U:=congrArg List.length (CS c A m d B);simp only [List.length_append,List.length_cons] at U;have J:(Aj c (A++(m,d)::B)).kids.drop (t+1)=d.h::B.map (·.2.h):=by
  show(c.h::(A++(m,d)::B).map (·.2.h)).drop (t+1)=_
  rw [List.drop_succ_cons,List.map_append,List.drop_left' (by rw [List.length_map];exact I)];rfl
 have V:DM R t (d.h::B.map (·.2.h)) B.length=(Ah d B).length:=by
  have Z:=IN d B;rw [Ke d B B.length hd O (by omega),Z]
 refine⟨BN.ext' ?_ ?_ J ?_,BN.ext' ?_ ?_ ?_ ?_, ?_, ?_⟩
 . show((A++(m,d)::B).map (·.1.kh)).drop (t+1)=B.map (·.1.kh)
   exact Zy
 . show((A++(m,d)::B).map (·.1.vh)).drop (t+1)=B.map (·.1.vh)
   exact Zy
 . show DM R t ((Aj c (A++(m,d)::B)).kids.drop (t+1)) ((Aj c (A++(m,d)::B)).keys.length-(t+1))=(Ah d B).length
   rw [J,show(Aj c (A++(m,d)::B)).keys.length-(t+1)=B.length by simp [Aj,I];omega,V]
 . show((A++(m,d)::B).map (·.1.kh)).take t=A.map (·.1.kh)
   exact Y7
 . show((A++(m,d)::B).map (·.1.vh)).take t=A.map (·.1.vh)
   exact Y7
 . show(c.h::(A++(m,d)::B).map (·.2.h)).take (t+1)=c.h::A.map (·.2.h)
   rw [List.take_succ_cons,List.map_append,List.take_left' (by rw [List.length_map];exact I)]
 . show((Ah c (A++(m,d)::B)).length+36893488147419103232-(Ah d B).length-1)%18446744073709551616=(Ah c A).length
   omega
 . show((A++(m,d)::B).map (·.1.kh)).getD t 0=m.kh
   exact YR
 . show((A++(m,d)::B).map (·.1.vh)).getD t 0=m.vh
   exact YR
theorem PS{A B:List It}(I:A.length=t)(d:A.length+B.length+1<18446744073709551616):
 Ee R t (Aq (A++m::B))=Aq B/\leftOf t (Aq (A++m::B)) B.length=Aq A/\(Aq (A++m::B)).keys.getD t 0=m.kh/\(Aq (A++m::B)).Ab.getD t 0=m.vh:=by
 refine⟨BN.ext' ?_ ?_ ?_ ?_,BN.ext' ?_ ?_ ?_ ?_, ?_, ?_⟩
 . show((A++m::B).map (·.kh)).drop (t+1)=B.map (·.kh)
   exact Zy
 . show((A++m::B).map (·.vh)).drop (t+1)=B.map (·.vh)
   exact Zy
 . show([]:List Nat).drop (t+1)= []
   simp
 . show DM R t (([]:List Nat).drop (t+1)) (((A++m::B).map (·.kh)).length-(t+1))=B.length
   simp only [List.drop_nil,DM,List.foldl_nil,List.length_map,List.length_append,List.length_cons];omega
 . show((A++m::B).map (·.kh)).take t=A.map (·.kh)
   exact Y7
 . show((A++m::B).map (·.vh)).take t=A.map (·.vh)
   exact Y7
 . show([]:List Nat).take (t+1)= []
   simp
 . show((A++m::B).length+36893488147419103232-B.length-1)%18446744073709551616=A.length
   simp only [List.length_append,List.length_cons];omega
 . show((A++m::B).map (·.kh)).getD t 0=m.kh
   exact YR
 . show((A++m::B).map (·.vh)).getD t 0=m.vh
   exact YR
end
end Bt
section
variable (R:Zr) (t:Nat)
def Bg(most:Nat):Nat->List Nat->Nat->List Nat
 |0,out,_=>out
 |f+1,out,h=>if Bm R t h≠0\/most<=out.length then out else (Ag R t h).kids.foldl (Bg most f) (out++ [h])
def Bp:Nat->Nat->Nat
 |0,_=>0
 |f+1,x=>if Bm R t x≠0 then 0 else if (Ag R t x).kids= [] then 1 else Bp f ((Ag R t x).kids.getD 0 0)+1
def AN:Nat->List (Nat × Nat) × Nat->Nat->List (Nat × Nat) × Nat
 |0,o,_=>o
 |f+1,o,h=>if Bm R t h≠0\/o.2=0 then o else lsFrom (Ag R t h) (AN f) (Ag R t h).keys.length 0 (o.1,o.2-1)
where
 lsStep (n:BN) (rec:List (Nat × Nat) × Nat->Nat->List (Nat × Nat) × Nat) (k:Nat) (o:List (Nat × Nat) × Nat):List (Nat × Nat) × Nat:=
  let p:=if n.kids= [] then o else rec o (n.kids.getD k 0)
  (p.1++ [(n.keys.getD k 0,n.Ab.getD k 0)],p.2)
 lsFrom (n:BN) (rec:List (Nat × Nat) × Nat->Nat->List (Nat × Nat) × Nat):Nat->Nat->List (Nat × Nat) × Nat->List (Nat × Nat) × Nat
  |0,_,o=>if n.kids= [] then o else rec o (n.kids.getD (n.kids.length-1) 0)
  |m+1,i,o=>lsFrom n rec m (i+1) (lsStep n rec i o)
def Ce:Nat->Bool->Nat->Bool
 |above,top,h=>
  if Bm R t h≠0 then false
  else if (Ag R t h).keys.length<(cond top 1 (t-1)) then false
  else match above with
  |0=>if (Ag R t h).kids= [] then decide ((Ag R t h).size=DM R t [] (Ag R t h).keys.length) else false
  |a+1=>if (Ag R t h).kids= [] then false else (Ag R t h).kids.all (Ce a false)&&decide ((Ag R t h).size=DM R t (Ag R t h).kids (Ag R t h).keys.length)
end
def IQ(i:It):Nat × Nat:=(i.kh,i.vh)
namespace Bt
variable {a lo:Nat}
section
variable {R:Zr} {t:Nat}
theorem At.Sw (d:BN.A1 t){s:Sb}(h:At R t a lo s):(Ag R t s.h).size=s.Aa.length:=(h.get d).2
theorem IJ{most f:Nat}{P:Sb->Prop}(h: ∀(out:List Nat) (s:Sb),P s->out.length+s.ns.length<=most->Bg R t most f out s.h=out++s.ns): ∀(l:List Sb) (out:List Nat),(∀s∈l,P s)->out.length+(l.flatMap (·.ns)).length<=most->(l.map (·.h)).foldl (Bg R t most f) out=out++l.flatMap (·.ns)
 | [],out,_,_=>by simp
 |s::l,out,hp,hb=>by
  simp only [List.flatMap_cons,List.length_append] at hb;rw [List.map_cons,List.foldl_cons,h out s (hp s (by simp)) (by omega),IJ h l _ (λq d=>hp q (by simp [d])) (by rw [List.length_append];omega)];simp
def ET(c:Sb)(l:List Lk):List Sb:=c::l.map (·.2)
theorem SR(c:Sb)(l:List Lk):(ET c l).map (·.h)=c.h::l.map (·.2.h):=by simp [ET]
theorem RV(c:Sb)(l:List Lk):(ET c l).flatMap (·.ns)=Ax c l:=by simp [ET,Ax,List.flatMap_map]
theorem Jk{P:Sb->Prop}{c:Sb}{l:List Lk}(h1:P c)(d: ∀p∈l,P p.2): ∀s∈ET c l,P s:=by
 intro s hs;rcases List.mem_cons.1 hs with rfl|hs
 . exact h1
 . obtain⟨p,hp,rfl⟩:=List.mem_map.1 hs;exact d p hp
theorem MI{s:Sb}(h:At R t a lo s):1<=s.ns.length:=List.length_pos_iff.2 (List.ne_nil_of_mem (DA h))
theorem QU(O:BN.A1 t)(most:Nat): ∀(a lo f:Nat) (s:Sb) (out:List Nat),At R t a lo s->a<f->out.length+s.ns.length<=most->Bg R t most f out s.h=out++s.ns:=by
 intro a
 induction a with
 |zero=>
  intro lo f s out h U d;obtain⟨f,rfl⟩: ∃g,f=g+1:=⟨f-1,by omega⟩;obtain⟨I,J⟩:=h.2.2.get O
  conv=>lhs;unfold Bg
  have V:=MI h;rw [if_neg (by rw [J];omega),I,show(Aq s.Aa).kids= [] from rfl,List.foldl_nil,h.1]
 |succ a ih=>
  intro lo f s out h U d;obtain⟨f,rfl⟩: ∃g,f=g+1:=⟨f-1,by omega⟩;have V:=MI h;obtain⟨c,l,h1,Z,af,aa,ab,ac⟩:=h;obtain⟨I,J⟩:=aa.get O
  conv=>lhs;unfold Bg
  rw [Z] at d ⊢;rw [List.length_cons] at d;rw [if_neg (by rw [J];omega),I,show(Aj c l).kids=(ET c l).map (·.h) from(SR c l).symm];rw [IJ (P:=At R t a (t-1)) (λo s hs ae=>ih (t-1) f s o hs (by omega) ae) (ET c l) _ (Jk ab ac) (by rw [RV,List.length_append,List.length_singleton];omega),RV];simp
theorem Oz(J:BN.A1 t): ∀(a lo f:Nat) (s:Sb),At R t a lo s->a<f->Bp R t f s.h=a+1:=by
 intro a
 induction a with
 |zero=>
  intro lo f s h O;obtain⟨f,rfl⟩: ∃g,f=g+1:=⟨f-1,by omega⟩;obtain⟨d,I⟩:=h.2.2.get J
  conv=>lhs;unfold Bp
  rw [if_neg (by rw [I];simp),d,if_pos (show(Aq s.Aa).kids= [] from rfl)]
 |succ a ih=>
  intro lo f s h O;obtain⟨f,rfl⟩: ∃g,f=g+1:=⟨f-1,by omega⟩;obtain⟨c,l,h1,Z,aa,U,V,ab⟩:=h;obtain⟨d,I⟩:=U.get J
  conv=>lhs;unfold Bp
  rw [if_neg (by rw [I];simp),d,if_neg (show¬(Aj c l).kids= [] by simp [Aj])]
  show Bp R t f c.h+1=_
  rw [ih (t-1) f c V (by omega)]
theorem RP{n:BN}(h0:n.kids= [])(rec:List (Nat × Nat) × Nat->Nat->List (Nat × Nat) × Nat): ∀(ks:List It) (i:Nat) (o:List (Nat × Nat) × Nat),(∀j (d:j<ks.length),n.keys.getD (i+j) 0=ks[j].kh/\n.Ab.getD (i+j) 0=ks[j].vh)->AN.lsFrom n rec ks.length i o=(o.1++ks.map IQ,o.2)
 | [],i,o,_=>by simp [AN.lsFrom,h0]
 |x::ks,i,o,h=>by
  rw [List.length_cons];unfold AN.lsFrom;rw [RP h0 rec ks (i+1) _ (λj d=>by have:=h (j+1) (by simpa using d);rw [show i+1+j=i+(j+1) by omega];exact this)];have:=h 0 (by simp);unfold AN.lsStep;rw [Nat.add_zero] at this;simp only [h0,if_true,this.1,this.2];simp [IQ]
theorem PR{n:BN}(h0:n.kids≠ []){rec:List (Nat × Nat) × Nat->Nat->List (Nat × Nat) × Nat}: ∀(c:Sb) (l:List Lk) (i:Nat) (o:List (Nat × Nat) × Nat),
 (∀s∈ET c l,∀o:List (Nat × Nat) × Nat,s.ns.length<=o.2->rec o s.h=(o.1++s.Aa.map IQ,o.2-s.ns.length))->
 (∀j,j<=l.length->n.kids.getD (i+j) 0=(Ap c l j).h)->n.kids.length-1=i+l.length->(∀j (d:j<l.length),n.keys.getD (i+j) 0=l[j].1.kh/\n.Ab.getD (i+j) 0=l[j].1.vh)->
 (Ax c l).length<=o.2->AN.lsFrom n rec l.length i o=(o.1++(Ah c l).map IQ,o.2-(Ax c l).length)
 |c,[],i,o,hr,hk,hz,hv,hb=>by
  have I:Ax c []=c.ns:=by simp [Ax]
  have O:Ah c []=c.Aa:=by simp [Ah,rest]
  rw [I] at hb ⊢;rw [O]
  show(if n.kids= [] then o else rec o (n.kids.getD (n.kids.length-1) 0))=_
  rw [if_neg h0,hz,show n.kids.getD (i+([]:List Lk).length) 0=c.h from hk 0 (Nat.zero_le _)];exact hr c (by simp [ET]) o hb
 |c,p::l,i,o,hr,hk,hz,hv,hb=>by
  rw [BC,List.length_append] at hb;rw [List.length_cons];unfold AN.lsFrom;have J:=hv 0 (by simp);rw [Nat.add_zero] at J;have I:AN.lsStep n rec i o=(o.1++c.Aa.map IQ++ [IQ p.1],o.2-c.ns.length):=by
   unfold AN.lsStep;rw [if_neg h0,show n.kids.getD i 0=c.h from hk 0 (Nat.zero_le _),hr c (by simp [ET]) o (by omega),J.1,J.2];rfl
  rw [I,PR h0 p.2 l (i+1) _ (λs hs=>hr s (by
      simp only [ET,List.map_cons,List.mem_cons] at hs ⊢;exact .inr hs)) (λj d=>by rw [show i+1+j=i+(j+1) by omega];exact hk (j+1) (by simpa using d)) (by rw [hz,List.length_cons];omega)
   (λj d=>by rw [show i+1+j=i+(j+1) by omega];exact hv (j+1) (by simpa using d)) (by show _<=o.2-c.ns.length;omega)]
  rw [BW,BC,List.length_append];refine Prod.ext ?_ ?_
  . simp
  . show o.2-c.ns.length-_=_;omega
theorem SK(V:BN.A1 t): ∀(a lo f:Nat) (s:Sb) (o:List (Nat × Nat) × Nat),At R t a lo s->a<f->s.ns.length<=o.2->AN R t f o s.h=(o.1++s.Aa.map IQ,o.2-s.ns.length):=by
 intro a
 induction a with
 |zero=>
  intro lo f s o h Z I;obtain⟨f,rfl⟩: ∃g,f=g+1:=⟨f-1,by omega⟩;have aa:=MI h;obtain⟨J,O⟩:=h.2.2.get V
  conv=>lhs;unfold AN
  rw [if_neg (by rw [O];omega),J];rw [show(Aq s.Aa).keys.length=s.Aa.length by simp [Aq],RP rfl _ s.Aa 0 _ (λj d=>by simp [Aq,d]),h.1];rfl
 |succ a ih=>
  intro lo f s o h Z I;obtain⟨f,rfl⟩: ∃g,f=g+1:=⟨f-1,by omega⟩;have aa:=MI h;obtain⟨c,l,h1,ab,ag,ac,ae,af⟩:=h;obtain⟨J,O⟩:=ac.get V;rw [ab] at I ⊢;rw [List.length_cons] at I ⊢
  conv=>lhs;unfold AN
  rw [if_neg (by rw [O];omega),J];rw [show(Aj c l).keys.length=l.length by simp [Aj]]
  rw [PR (n:=Aj c l) (by simp [Aj]) c l 0 _ (Jk (P:=λs=> ∀o:List (Nat × Nat) × Nat,s.ns.length<=o.2->AN R t f o s.h=(o.1++s.Aa.map IQ,o.2-s.ns.length)) (λo U=>ih (t-1) f c o ae (by omega) U) (λp hp o U=>ih (t-1) f p.2 o (af p hp) (by omega) U))
   (λj d=>by rw [Nat.zero_add];show(c.h::l.map (·.2.h)).getD j 0=_;rw [List.getD_eq_getElem?_getD,EN c l j d];rfl) (by simp [Aj]) (λj d=>by simp [Aj,d]) (by show _<=o.2-1;omega),h1]
  refine Prod.ext rfl ?_
  show o.2-1-_=_
  omega
theorem Sk(I:BN.A1 t): ∀(a:Nat) (top:Bool) (s:Sb),At R t a (cond top 1 (t-1)) s->s.Aa.length<18446744073709551616->Ce R t a top s.h=true:=by
 intro a
 induction a with
 |zero=>
  intro top s h U;obtain⟨J,O⟩:=h.2.2.get I;unfold Ce;rw [if_neg (by rw [O];simp),J,if_neg (by show¬(s.Aa.map (·.kh)).length<_;rw [List.length_map];exact Nat.not_lt.2 h.2.1)]
  show(if (Aq s.Aa).kids= [] then _ else _)=_
  rw [if_pos (show(Aq s.Aa).kids= [] from rfl)];simp [Aq,DM]
 |succ a ih=>
  intro top s h U;obtain⟨c,l,h1,ah,aa,ab,V,Z⟩:=h;obtain⟨J,O⟩:=ab.get I;rw [h1] at U;have hlen:=Qa c l;have ai:=IN c l;unfold Ce;rw [if_neg (by rw [O];simp),J,if_neg (by show¬(l.map (·.1.kh)).length<_;rw [List.length_map];exact Nat.not_lt.2 aa)]
  show(if (Aj c l).kids= [] then false else _)=_
  rw [if_neg (show¬(Aj c l).kids= [] by simp [Aj]),Bool.and_eq_true];constructor
  . rw [List.all_eq_true]
    intro x hx;obtain⟨d,ac,rfl⟩: ∃d ∈ET c l,d.h=x:=by
     have:x∈(ET c l).map (·.h):=(by rw [SR];exact hx);obtain⟨d,ae,af⟩:=List.mem_map.1 this;exact⟨d,ae,af⟩
    have ag:At R t a (t-1) d /\d.Aa.length<=(Ah c l).length:=Jk (P:=λd =>At R t a (t-1) d /\d.Aa.length<=(Ah c l).length) ⟨V,hlen.1⟩ (λp hp=>⟨Z p hp,Nat.le_trans (Nat.le_succ _) (hlen.2 p hp)⟩) d ac;exact ih false d ag.1 (by omega)
  . have hs:=Ke (R:=R) (t:=t) c l l.length (V.Sw I) (λp hp=>(Z p hp).Sw I) (by omega)
    show decide ((Ah c l).length=DM R t (c.h::l.map (·.2.h)) (l.map (·.1.kh)).length)=true
    rw [List.length_map,hs,decide_eq_true];omega
end
end Bt
variable {B B3:Nat}{W W' X Y w:World}
theorem Ld(o:Option (Nat × Nat)): ∃a b:Nat,SO o= .agg #[.int .u64 a, .int .u64 b]:=by
 cases o with
 |none=>exact⟨0,0,rfl⟩
 |some p=>exact⟨p.1,p.2,rfl⟩
section
variable {w':World} {s N:Nat} {R:Zr} {nn:Nat}
theorem MX(h:Rd N w s R nn)(ae:Ba R){t:Nat}(af:BN.A1 t)(x:Nat)(hx:x<18446744073709551616)(key:ByteArray):
 Calls prog 31 #[.pointer (some ⟨s,0,none⟩), .int .i64 t, .int .u64 x, .string key] w λe w' =>e= .returned (.tuple #[SO (Bx R t key 40 x 0).1, .bool (Bx R t key 40 x 0).1.isSome])/\Below w.heap.size w w' :=by
 have ab:Below w.heap.size w (w.alloc (Obj.cells #[.int .u64 0, .int .u64 0] 31)):=(Below.refl _ w).alloc (Nat.le_refl _) _;have J:=UG (h.below ab) ae af x hx key;obtain⟨a,b,V⟩:=Ld (Bx R t key 40 x 0).1;rw [V] at J ⊢;generalize (Bx R t key 40 x 0).1.isSome=ok at*;generalize (Bx R t key 40 x 0).2=bel at*;have Z:An (w.alloc (Obj.cells #[.int .u64 0, .int .u64 0] 31)) w.heap.size 31 [.int .u64 0, .int .u64 0]:=An.new w _ _;obtain⟨b0,d⟩:=Zx w.heap.size;obtain⟨am,I⟩:=Zx (w.alloc (Obj.cells #[.int .u64 0, .int .u64 0] 31));rw [<-I] at ab J Z;rw [<-d] at Z;have g0:w.heap.size<=b0:=by omega
 obtain⟨ag,aa,ah⟩:=EW;have ac:=Zh (And.intro I d);clear h J ab Z I d V;go_enter func31,ntmps31;go_wp2_with fail;rw [<-ac.1,<-ac.2];refine ag.mono ?_;rintro e w2 ⟨rfl,O⟩;have U:=Zh (ah.below O);obtain⟨⟨c0,c1⟩,an,k1⟩:=Dl U.out;have hs:=(((aa.trans (O.mono aa.size)).setCell (p:=⟨b0,0,none⟩) g0 (.int .u64 a)).setCell (p:=⟨b0,1,none⟩) g0 (.int .u64 b));have l0:=U.lt;have ai:=Zh (((U.set 0 (.int .u64 a)).set 1 (.int .u64 b)).alloc (Obj.cells #[.int .u64 a, .int .u64 b] 31));have aj:=Zh (hs.alloc hs.size (Obj.cells #[.int .u64 a, .int .u64 b] 31));clear hs O;go_wp2;obtain⟨al,r1⟩:=A2 ai.out;refine bodyPost_ret (v:= .tuple #[.agg #[.int .u64 a, .int .u64 b], .bool ok]) (by simp [results,f31,go_sem,al,r1]) rfl ⟨rfl,aj⟩
theorem Ys(h:Rd N w s R nn)(t:Nat)(I:BN.A1 t)(x:Nat)(hx:x<18446744073709551616):
 Calls prog 41 #[.pointer (some ⟨s,0,none⟩), .int .i64 t, .int .u64 x] w λe w' =>e= .returned (.int .i64 (Cq R t x))/\Below w.heap.size w w' :=by
 have J:=Zh (E4 h t I x hx);generalize Cq R t x=z at*;clear h;go_enter func41,ntmps41;go_wp2_with fail;refine J.mono ?_;rintro e w2 ⟨rfl,d⟩;have O:=Zh d;clear d;go_wp2;go_ret;exact⟨rfl,O⟩
def BQ(nn t:Nat):Nat:=nn/(6*t)+1
def Ymi{P}(h:P:=by
 have c0:=λX:Au (λ_=>False) O=>X.cell (U.at' (i:=0) rfl) (λh=>h)
 have c1:=λX:Au (λ_=>False) O=>X.cell (U.at' (i:=1) rfl) (λh=>h)
 exact And.intro c0 c1):=h
theorem UM(h:Rd N w s R nn)(t:Nat)(ah:BN.A1 t):
 Calls prog 76 #[.agg #[.pointer (some ⟨s,0,none⟩), .int .i64 t]] w λe w' =>e= .returned (.int .i64 (BQ nn t:Nat))/\Below w.heap.size w w' :=by
 obtain⟨t1,t2⟩:=ah;have ai:=h.le;have J:=Yn;have U:An (w.alloc (Obj.cells #[.pointer (some ⟨s,0,none⟩), .int .i64 t] 96)) w.heap.size 96 [.pointer (some ⟨s,0,none⟩), .int .i64 t]:=An.new w _ _;obtain⟨O,V⟩:=Zx (w.alloc (Obj.cells #[.pointer (some ⟨s,0,none⟩), .int .i64 t] 96));rw [<-V] at J U;have aj:=Zh V;clear V;have al:=Zh (λW (am:Below w.heap.size w W)=>S3 (h.below am));have Z:=Zh (λW=>Ii ⟨t1,t2⟩ W);obtain⟨m,hm⟩:=Zx (nn/(6*t));have aa:Hid (BQ nn t=m+1):=Zh (by rw [hm];rfl);have au:m<=262144:=by rw [hm];exact Nat.le_trans (Nat.div_le_self _ _) ai
 obtain⟨d,hd⟩:=Zx (6*t);have aw:12<=d:=by omega
 have ax:((nn:Int)/(d:Int))=(m:Int):=by rw [hm,<-hd];rfl
 have an:Hid (∀W,Calls prog 69 #[.int .i64 t] W λe w' =>e= .returned (.int .i64 d)/\W=w'):=Zh (by rw [hd];exact Z.out);have ay: ¬d=0:=by omega
 have az:=Ypb;have aA:IntKind.i64.wrap ((m:Int)+1)=(m:Int)+1:=by rw [IntKind.wrap_i64];omega
 obtain⟨c0,c1⟩:=Ymi;have ab:=Zh J;rw [aa.out];clear h J U Z hm hd aa;go_enter func76,ntmps76;go_wp2;rw [<-aj.out];refine Aw (λw' => ∃X:Au (λ_=>False) O,w' =X.W) [.r 0, .r 1, .r 3, .r 4, .a 2, .a 5, .r 6, .r 7, .r 8] (Ay _ _) ?_
 iterate 4 (refine AE ?_;go_simp)
 clear c0 c1;have ac:=Zh (ab.trans ((Ac O).mono ab.size));refine AK _ rfl (λao ae=> ?_);go_wp2_with fail;refine(al _ ac).mono ?_;rintro e w2 ⟨rfl,I⟩;have aq:=DR;have af:=Zh ((Ac O).trans I);clear I;go_wp2;refine ae _ _ (Af af) ?_;clear ae ao;refine AK _ rfl (λar ag=> ?_);go_wp2_with fail;refine(an _).mono ?_;rintro e w3 ⟨rfl,rfl⟩;go_wp2;refine ag _ _ (Af af) ?_;clear ag ar
 iterate 3 (refine AE ?_;go_simp)
 refine AO ?_;go_wp2;go_ret;exact⟨by rw [Int.natCast_add];rfl,aq⟩
end
attribute [local go_sem] Oper.semAt_some Ea
theorem Tryz.Mf:Tryz.prog.underlying 39=some (.slice 3):=by kernel_rfl
theorem Tryz.Vj:(Tryz.prog.info? 3).map (λi=>(i.zero,i.size,i.bytes))=some (some (.int .i64 0),1,8):=by kernel_rfl
def rowsOf(l:List (Nat × Nat)):List Value:=l.map λb=> .int .i64 (b.1:Nat)
def I0(B:Nat)(W:World)(k:Nat):Prop:=k=B\/ ∃m c,W.cell? ⟨B,0,none⟩=some (.slice (some ⟨k,0,none⟩) m c)
theorem GN(d:B<X.heap.size)(I:Below X.heap.size X Y)(k:Nat)(h:I0 B Y k):I0 B X k:=by
 rcases h with h|⟨m,c,h⟩
 . exact .inl h
 . exact .inr ⟨m,c,(I.cell (p:=⟨B,0,none⟩) d).symm.trans h⟩
theorem WY{l:Nat}(d :Obj)(I:B≠l)(k:Nat)(h:I0 B (W.putObj l d) k):I0 B W k:=by
 rcases h with h|⟨m,c,h⟩
 . exact .inl h
 . refine .inr ⟨m,c,(World.cell?_of_block (a:=⟨B,0,none⟩) ?_).symm.trans h⟩
   exact World.putObj_heap_other I
def G3(w:World)(l:List (Nat × Nat))(W:World):Prop:= ∃v,Boxed W w.heap.size 39 v/\W.ownsRow w.heap.size 3 1 v l.length (rowsOf l)/\Below w.heap.size w W
theorem G3.below{l:List (Nat × Nat)}(h:G3 w l X)(d:Below X.heap.size X Y):G3 w l Y:=by
 obtain⟨v,h1,J,I⟩:=h;exact⟨v,(d.block _ h1.lt).trans h1,Fy (Cs:=λ_=>False) J (KB.below d) (λ_ h=>h.elim),I.trans (d.mono I.size)⟩
theorem TU{β:Type}(w:World)(f:β->List (Nat × Nat))(n:Nat)(I:w.heap.size<=n):OwnFrom n (λs W=>G3 w (f s) W):=λs X Y row hs hg d=>by
 obtain⟨v,h1,J,O⟩:=hs;obtain⟨v',a,b,_⟩:=holdsRow_own w.heap.size w.heap.size 39 3 1 (λs=>(f s).length) (λs=>rowsOf (f s)) (λ_ _=>True) s X Y row ⟨v,h1,J,trivial⟩ hg (λr e=>(d r e).2);exact⟨v',a,b,ownFrom_below (β:=β) (Nat.le_refl _) I s X Y row O hg d⟩
structure Dz(W:World)(B3 B:Nat):Prop where
 ne:B≠B3
 off: ∃u,W.cell? ⟨B3,0,none⟩=some u/\u.ownBlock≠some B
theorem KU{w1:World}{l l' :List (Nat × Nat)}{v v' :Value}{tmp:Obj}(I:Boxed W w.heap.size 39 v)(O:W.ownsRow w.heap.size 3 1 v l.length (rowsOf l))(aa:Below w.heap.size w W)
 (ae :w1.ownsRow w.heap.size 3 1 v' l'.length (rowsOf l')) (ab:(W.alloc tmp).grownBy w1 v.ownBlock) (U:v'.ownBlock=v.ownBlock\/v'.ownBlock=some (W.alloc tmp).heap.size):
 Boxed w1 w.heap.size 39 v/\G3 w l' (w1.setCell ⟨w.heap.size,0,none⟩ v')/\KE (I0 w.heap.size) W (w1.setCell ⟨w.heap.size,0,none⟩ v')/\KeepsOthers W (w1.setCell ⟨w.heap.size,0,none⟩ v')/\ ∀B,B<W.heap.size->Dz W w.heap.size B->Dz (w1.setCell ⟨w.heap.size,0,none⟩ v') w.heap.size B:=by
 obtain⟨af,a2,a3,a4,a5⟩:=I.appended (by decide) O aa.size (Nat.le_refl _) ae ab;refine⟨af,⟨v',a2,a3,aa.trans a5⟩,⟨⟨a4.size,λk o J V ac=> ?_⟩,λk J=> ?_⟩,a4,λB aj V=>⟨V.ne,v',a2.cell,λe=> ?_⟩⟩
 . have ag:k<W.heap.size:=(Array.getElem?_eq_some_iff.1 J).1
   have h1:k≠w.heap.size:=(λe=>ac (.inl e));have d:some k≠v.ownBlock:=λe=>by
    refine ac (.inr ?_);rcases O.2 with ⟨rfl,_⟩|⟨g,cap,cur,rfl,_,_,_⟩
    . simp [Value.ownBlock] at e
    . have:k=g:=by simpa [Value.ownBlock] using e
      subst this;exact⟨_,_,I.cell⟩
   rw [Below.heap_setCell _ _ _ k h1];exact(ab.block k (by simp;omega) d).trans ((Below.heap_alloc W tmp k ag).trans J)
 . rcases J with rfl|⟨m,c,Z⟩
   . exact .inl (.inl rfl)
   . rw [a2.cell] at Z
     simp only [Option.some.injEq] at Z;subst Z;have ah:(Value.slice (some ⟨k,0,none⟩) m c).ownBlock=some k:=(by simp [Value.ownBlock]);rw [ah] at U;rcases U with h1|h1
     . rcases O.2 with ⟨rfl,_⟩|⟨g,cap,cur,rfl,_,_,_⟩
       . simp [Value.ownBlock] at h1
       . have:k=g:=by simpa [Value.ownBlock] using h1
         subst this;exact .inl (.inr ⟨_,_,I.cell⟩)
     . have:k=(W.alloc tmp).heap.size:=by simpa using h1
       exact .inr (by rw [this];simp)
 . obtain⟨u,d,ai⟩:=V.off
   rw [I.cell] at d;simp only [Option.some.injEq] at d;subst d;rcases U with h1|h1
   . rw [h1] at e;exact ai e
   . rw [h1] at e
     have:W.heap.size+1=B:=(by simpa using e);omega
theorem Dz.not(h:Dz W B3 B): ¬I0 B3 W B:=by
 rintro(h1|⟨m,c,h1⟩)
 . exact h.ne h1
 . obtain⟨u,d,I⟩:=h.off
   rw [h1] at d;simp only [Option.some.injEq] at d;subst d;exact I (by simp [Value.ownBlock])
theorem Dz.kept{row:Option Nat}(h:Dz W B3 B)(hg:W.grownBy W' row)(d: ∀r,row=some r-> ∃o:Obj,W.heap[r]? =some o/\o.isCells=false):Dz W' B3 B:=by
 obtain⟨u,I,J⟩:=h.off;exact⟨h.ne,u,cell_kept I hg d,J⟩
theorem Dz.below(h:Dz W B3 B)(d:Below W.heap.size W W'):Dz W' B3 B:=
 h.kept (row:=none) ⟨d.os,d.tape,d.output,d.size,λk I _=>d.block k I⟩ (λr e=>by cases e)
theorem Ep.below{h:Hd}(hx:Ep W B h)(d:Below W.heap.size W W'):Ep W' B h:=
 hx.kept (row:=none) ⟨d.os,d.tape,d.output,d.size,λk I _=>d.block k I⟩ (λr e=>by cases e)
theorem Ep.ke{h:Hd}(hx:Ep W B h)(d:KE (I0 B3) W W')(I:Dz W B3 B):Ep W' B h:=
 ⟨d.kb.cell hx.k I.not,d.kb.cell hx.n I.not,d.kb.cell hx.w I.not⟩
theorem Vo{l:List (Nat × Nat)}(h:G3 w l W){o:Obj}:Dz (W.alloc o) w.heap.size W.heap.size:=by
 obtain⟨v,h1,d,I⟩:=h;refine⟨by have:=h1.lt;omega,v,(h1.alloc o).cell,λe=> ?_⟩;rcases d.2 with ⟨rfl,_⟩|⟨g,cap,cur,rfl,_,hg,_⟩
 . simp [Value.ownBlock] at e
 . have:g=W.heap.size:=by simpa [Value.ownBlock] using e
   have:=(Array.getElem?_eq_some_iff.1 hg).1;omega
def Ca(p c m k:Nat):List (Nat × Nat):=((List.range k).filter λj=>m.testBit j).map λj=>(64*p+2+j*sz c,sz c)
theorem Ln(p c m k:Nat):Ca p c m (k+1)=if m.testBit k=true then Ca p c m k++ [(64*p+2+k*sz c,sz c)] else Ca p c m k:=by
 unfold Ca;rw [List.range_succ,List.filter_append,List.map_append];by_cases h:m.testBit k=true
 . rw [if_pos h];simp [h]
 . rw [if_neg h];simp [h]
theorem Iu(p c m k:Nat):(Ca p c m k).length<=k:=by
 unfold Ca;rw [List.length_map];exact Nat.le_trans (List.length_filter_le _ _) (by simp)
theorem My(p c m:Nat):Ca p c m (AX c)=A7 (p, .small c m):=rfl
theorem OP(x:Nat × Hd):(A7 x).length<=31:=by
 obtain⟨p,h⟩:=x
 cases h with
 |small c m=>exact Nat.le_trans (Iu p c m (AX c)) (CF c)
 |Bz w=>simp [A7]
theorem Mx(L:HL):(blocks L).length<=31*L.length:=by
 induction L with
 |nil=>simp [blocks]
 |cons x t ih=>
  have h:=OP x;simp only [blocks,List.flatMap_cons,List.length_append,List.length_cons] at*;omega
theorem Nn{L:HL}:L.length<=(runs L).length:=by
 induction L with
 |nil=>simp
 |cons x t ih=>
  have:=x.2.CZ;simp only [runs,List.flatMap_cons,List.length_append,List.length_range',List.length_cons] at*;omega
theorem K6(l:List (Nat × Nat))(b:Nat × Nat):rowsOf l++ [.int .i64 b.1]=rowsOf (l++ [b]):=by simp [rowsOf]
theorem Sr(l:List (Nat × Nat))(p ww:Nat):rowsOf l++ [.int .i64 ((p:Int)*64+2)]=rowsOf (l++ [(64*p+2,ww)]):=by
 rw [<-K6];have:(p:Int)*64+2=((64*p+2:Nat):Int):=by push_cast;omega
 rw [this]
theorem RA(l:List (Nat × Nat))(A s:Nat):rowsOf l++ [.int .i64 (A:Int)]=rowsOf (l++ [(A,s)]):=K6 l (A,s)
theorem Xz{ha a q:Nat}{F:Nat->Prop}{L:HL}{mem:Nat->Nat}(h:Bl w ha a F L q mem):
 Calls prog 52 #[.pointer (some ⟨ha,0,none⟩)] w λe w' => ∃v,e= .returned v/\w'.ownsRow w.heap.size 3 1 v (blocks L).length (rowsOf (blocks L))/\Below w.heap.size w w' :=by
 obtain⟨i0,hi,aS,aT,aU⟩:=info_parts Tryz.Vj;obtain⟨⟨mb,D,k1,rfl⟩,aV,aW⟩:=h;refine(callsIn_wide (n:=9)).1 ?_;have hN:=Zh ((callsIn_wide (n:=8)).2 (ED k1));have bp:=Zl;have al:=Zh k1;have aX:=Zh aV;have bq:=Zh aW;have b8:L.length<=4096:=by have h1:=k1.sl.room;have aB:=k1.sl.Dw;rw [k1.sl.count] at h1;have:=Nn (L:=L);omega
 clear k1 aV aW;refine callsIn_of_wp_marks func52 rfl trivial ?_ rfl;simp only [ntmps52,List.size_toArray,List.length_cons,List.length_nil,Nat.reduceAdd,Nat.reduceSub,Array.replicate_succ,Array.replicate_zero,List.push_toArray,List.append_toArray,List.nil_append,List.cons_append];gi_wp2_with fail;refine hN.mono ?_;rintro e w' ⟨rfl,rfl⟩;gi_wp2_with fail;refine(bp _).mono ?_;rintro e w2 ⟨rfl,ae⟩;have aY:(w.alloc (Obj.cells #[Value.slice none 0 0] 39)).heap.size=w.heap.size+1:=by simp
 rw [aY];have ag:Boxed w2 w.heap.size 39 (.slice none 0 0):=by rw [ae];exact(Boxed.new w _ _).alloc _
 have br:w2.cell? ⟨w.heap.size+1,0,none⟩=some (.pointer (some ⟨ha,0,none⟩)):=by rw [ae];go_simp
 have aZ:=Ynf;have b9 :w.heap.size+2<=w2.heap.size:=by rw [ae];simp
 clear ae hN aY;gi_wp2_with fail;have bs:=Zh (al.below aZ);have a0: ∀k,I0 w.heap.size w2 k->k=w.heap.size:=λk O=>by
  rcases O with h|⟨m,c,h⟩
  . exact h
  . rw [ag.cell] at h;cases h
 have bu:NQ (I0 w.heap.size) w2.heap.size a mb ha (w.heap.size+1) D none w2:=⟨Nat.le_refl _,λk O=>by
  have bv:=a0 k O;subst bv;refine⟨λaH=> ?_, ?_, ?_,by omega,λr aC=>by cases aC⟩
  . exact Nat.lt_irrefl _ (al.sl.lt aH)
  . have:=Al al.hs;simp only at this;omega
  . have aB:=al.Ft a (.inl rfl);have a1:=al.sl.lt (.inl rfl);omega⟩
 refine wpIn_rangeFunc_ownH (α:={z:Nat × Hd // z∈L}) rfl (by omega) (gf:=141) (lb:= #[.pointer (some ⟨w.heap.size+1,0,none⟩)]) rfl trivial (enters_of func141 (by kernel_rfl) rfl)
  (OH bs aX bq br (I0 w.heap.size) (λX Y cb J k O=>GN (by omega) J k O) bu (λk O=>by have:=a0 k O;omega))
  (λh k=>h.trans k) (λW l o a2 cc a3 h1 aB=>⟨KB.putObj a2 a3 h1 aB,λk O=> .inl (WY a2 (by omega) k O)⟩) (Below.refl _ _) (λ_=>rfl)
  (λpre W=>G3 w (blocks (pre.map (λ(z:{z:Nat × Hd // z∈L})=>z.1))) W)
  (λbw pre W=>False)
  (TU w (λpre:List {z:Nat × Hd // z∈L}=>blocks (pre.map (λ(z:{z:Nat × Hd // z∈L})=>z.1))) _ (by omega))
  (λ_ _ _ _ _ hs _ _=>hs)
  ⟨_,ag,World.ownsRow_nil _ _ _ _,aZ⟩
  (λx a' W=> ∃B,Ep W B x.1.2/\Dz W w.heap.size B/\a' ={ tmps:= #[ .pointer (some ⟨ha,0,none⟩),undef, .slice none 0 0, .pointer (some ⟨w.heap.size,0,none⟩), .int .i64 (x.1.1:Nat), .pointer (some ⟨B,0,none⟩),undef,undef,undef, .pointer (some ⟨ha,0,none⟩), .bool false, .pointer (some ⟨ha,0,none⟩), .func (.func 141) #[] #[ .pointer (some ⟨w.heap.size+1,0,none⟩)], .int .i64 (x.1.1:Nat),IA x.1.2,undef,undef,undef,undef,undef,undef,undef,undef,undef,undef,undef,undef,undef,undef,undef,undef,undef,undef,undef,undef,undef,undef,undef,undef,undef,undef,undef,undef,undef,undef,undef,undef,undef],defers:= [] })
  (λx a' s A B row hs hg aC=>by
   obtain⟨B',aB,bz,a1⟩:=hs;exact⟨B',aB.kept hg (λr e=>(aC r e).2),bz.kept hg (λr e=>(aC r e).2),a1⟩)
  ?assign ?body ?done ?stop
 case assign=>
  rintro l pre ⟨⟨p,hd⟩,aj⟩ W K hi U;dsimp only at U ⊢;have J:=ZT;have aI:w.heap.size<W.heap.size:=by obtain⟨v,h1,_⟩:=hi;exact h1.lt
  have a4:=Zh (U _ (W.alloc (Obj.cells #[Value.int IntKind.i64 (Hy hd:Nat),Value.int IntKind.i64 (Hr hd:Nat),Value.int IntKind.u64 (Hl hd:Nat)] 165)) ((BJ J).from _) (KE.below J (λk O=>GN aI J k O)) (hi.below J) ⟨W.heap.size,Kd _ _ _,Vo hi,rfl⟩);clear U J hi;rw [Je] at a4 ⊢;gi_wp2;exact a4.out
 case body=>
  rintro l pre ⟨⟨p,hd⟩,aj⟩ a' W a3 ⟨r,aC⟩ hi ⟨B,ag,bA,rfl⟩ hlen;dsimp only at ag ⊢;have a5:=aX.ok _ aj;obtain⟨bB,aw,O,af,hw⟩:=Ymp;have a6:Hid (blocks ((pre++ [(⟨(p,hd),aj⟩:{z:Nat × Hd // z∈L})]).map (λ(z:{z:Nat × Hd // z∈L})=>z.1))=blocks (pre.map (λ(z:{z:Nat × Hd // z∈L})=>z.1))++A7 (p,hd)):=Zh (by
   rw [List.map_append,blocks,blocks,List.flatMap_append];simp)
  have cd:(blocks (pre.map (λ(z:{z:Nat × Hd // z∈L})=>z.1))).length<=31*4096:=by
   have:=Mx (pre.map (λ(z:{z:Nat × Hd // z∈L})=>z.1));rw [List.length_map] at this;omega
  generalize blocks (pre.map (λ(z:{z:Nat × Hd // z∈L})=>z.1))=told at*;clear bB
  cases hd with
  |Bz ww=>
   simp only [Hy,Hr,Hl] at O af hw ⊢;have d0:((2:Int)==2)=true:=(by decide);obtain⟨v,Z,ab,J⟩:=hi;have ah:=Z.cell;obtain⟨aa,aD,a7⟩:=EW;clear a5 J ab Z;have ce:w.heap.size<=W.heap.size:=aa.size;gi_wp2_with (gi_at_builtin;refine wpListIn_append_own_at _ rfl _ _ 39 rfl w.heap.size 3 i0 (.int .i64 0) 1 8 Tryz.Mf hi aS aT aU rfl (by decide) _ _ _ rfl (aD.alloc _) ⟨W.heap.size,0,none⟩ 1 1 [.int .i64 ((p:Int)*64+2)] rfl rfl (cell_one_new _ _ _) (by simp [Value.oneCell']) (by unfold maxLen;omega) (by omega) (by simp;omega) ?_;intro v' w1 ac aK _ aL;rw [Sr told p ww] at ac;obtain⟨bC,bD,rfl⟩:=ownsRow_succ ac;obtain⟨b1,b2,aE,aM,a8⟩:=KU (l' :=told++ [(64*p+2,ww)]) a7 aD aa (by simpa using ac) aK aL;have bE:=b1.cell;have bF:=b1.frozen);exact⟨aM.from _,aE,by show G3 w _ _;rw [a6.out];exact b2⟩
  |small d m=>
   obtain⟨aA,bG,az⟩:=a5;obtain⟨ay,_⟩:=Ync;obtain⟨bH,bI⟩:=Ylg;simp only [Hy,Hr,Hl] at O af hw ⊢;have d0:((1:Int)==2)=false:=(by decide);have aq:B<W.heap.size:=Al O;have a9:=Zh hi;clear bG az hi;gi_wp2_with fail;refine(bI _).mono ?_;rintro e W' ⟨rfl,I⟩;rw [bH];have bJ:=Yli;have aI:w.heap.size<W.heap.size:=(by obtain⟨v,h1,_⟩:=a9.out;exact h1.lt);have bK:=Zh (a9.below I);have bL:=Zh ((BJ I).from w2.heap.size);have bM:=Zh (KE.below I (λk O=>GN aI I k O));have bN:=Zh (bA.below I);clear I O af hw d0;gi_wp2_with fail;generalize ba:AX d=aF at*;have ax:=Zh ba;clear ba
   gi_loopw [31] (λaN wr=> ∃k:Nat,k<=aF/\aN= .int .i64 k/\Hid (Ep wr B (.small d m))/\Hid (Dz wr w.heap.size B)/\Hid (G3 w (told++Ca p d m k) wr)/\Hid (KE (I0 w.heap.size) W' wr)/\Hid (KeepsOthers W' wr)) (λaN _=>aF-(intOf aN).toNat)
   case atStart=>exact⟨0,by omega,rfl,Zh bJ,bN,by simpa [Ca] using bK,Zh (KE.below (Below.refl _ _) (λ_ h=>h)),Zh (KeepsOthers.refl _)⟩
   case round=>
    obtain⟨k,cf,rfl,am,Fx,aG,aO,aP⟩:=hrel;have bb:=am.k;have aQ:=am.n;have bc:=am.w;simp only [Hy,Hr,Hl] at bb aQ bc;have bd:=Ynp;by_cases cg:k<aF
    . have be:=Zh (Ln p d m k)
      by_cases an:m.testBit k=true
      . have bO:=Yms
        have aR:=Zh an;have d5:=an;have bP:=OM;obtain⟨v,Z,ab,J⟩:=aG.out;have ah:=Z.cell;have ci:(told++Ca p d m k).length<=31*4096+31:=by
         rw [List.length_append];have:=Iu p d m k;have:=ax.out;omega
        have a7:=Zh Z;have aD:=Zh ab;have aa:=Zh J;clear Z ab J an;generalize bQ:64*p+2+k*sz d=A at*;clear bQ;have bR:=Zh (show told++Ca p d m (k+1)=(told++Ca p d m k)++ [(A,sz d)] by rw [be.out,if_pos aR.out,List.append_assoc]);generalize bS:told++Ca p d m k=ls at*;clear bS;gi_wp2_with (gi_at_call 94;refine(bd _).mono ?_;rintro e ai ⟨rfl,rfl⟩);have bf: ∀X:BL wr,X.W.cell? ⟨w.heap.size,0,none⟩=some v:=(λX=>X.cell ah);have bg: ∀X:BL wr,X.W.cell? ⟨B,1,none⟩=some (.int .i64 d):=(λX=>X.cell aQ);refine Dh (λw' => ∃X:BL wr,w' =X.W) 5 2 7 bP (by kernel_rfl) (by kernel_rfl) (by kernel_rfl) (by kernel_rfl) (by decide) rfl (by kernel_rfl) ⟨⟨_,Ac wr⟩,rfl⟩ (λ_ _ _ _ h=>h) ?_;simp only [List.take_succ_cons,List.take_zero,List.drop_succ_cons,List.drop_zero];refine AS v rfl (by rintro _ ⟨X,rfl⟩;have:=bf X;go_simp) (λ_=>rfl) ?_;go_simp;refine AS (.int .i64 p) rfl (by rintro _ ⟨X,rfl⟩;go_simp) (λ_=>rfl) ?_;go_simp;refine AS (.pointer (some ⟨B,1,none⟩)) rfl (by rintro _ ⟨X,rfl⟩;go_simp) (λ_=>rfl) ?_;go_simp;refine AS (.int .i64 d) rfl (by rintro _ ⟨X,rfl⟩;have:=bg X;go_simp) (λ_=>rfl) ?_;go_simp;refine AS (.int .i64 (k:Nat)) rfl (by rintro _ ⟨X,rfl⟩;go_simp) (λ_=>rfl) ?_;go_simp;refine FP ?_;refine Cv (λbT bh=> ?_);gi_wp2_with (gi_at_call 95;refine(bO _).mono ?_;rintro e ai ⟨rfl,bi⟩);have V :Below wr.heap.size wr ai:=(Ac wr).trans bi;have bU:ai.cell? ⟨w.heap.size,0,none⟩=some v:=(V.cell (p:=⟨w.heap.size,0,none⟩) (Al ah)).trans ah;obtain⟨v5,au,ar,aJ⟩:=aG.below V;obtain rfl:v5=v:=by have h1:=au.cell;rw [bU] at h1;simpa using h1.symm
        obtain⟨bV,bj,bW⟩:=OT;have ao:=Zh V;have bX:=Yoi;have bk:=Zh (Fx.below V);have bY:=Zh ah;clear au ar aJ bi V ah aQ bb bc bf bg;have bZ:w.heap.size<wr.heap.size:=Al bY.out;have cj:B<wr.heap.size:=Al am.k;refine bh _ _ ⟨⟨ai,ao⟩,rfl⟩ ?_;clear bh bT;refine Cv (λb3 bm=> ?_);gi_wp2;refine bm _ _ ⟨⟨_,ao.alloc bX _⟩,rfl⟩ ?_;clear bm b3;refine EF ?_;have ck:w.heap.size<=ai.heap.size:=(by omega);gi_wp2_with (gi_at_builtin;refine wpListIn_append_own_at _ rfl _ _ 39 rfl w.heap.size 3 i0 (.int .i64 0) 1 8 Tryz.Mf hi aS aT aU rfl (by decide) _ _ _ rfl (bj.alloc _) ⟨ai.heap.size,0,none⟩ 1 1 [.int .i64 (A:Int)] rfl rfl (cell_one_new _ _ _) (by simp [Value.oneCell']) (by unfold maxLen;omega) (by omega) (by simp;omega) ?_;intro v' w1 ac aK _ aL;rw [RA _ A (sz d)] at ac;obtain⟨bC,bD,rfl⟩:=ownsRow_succ ac;obtain⟨b1,b2,aE,aM,a8⟩:=KU (l' :=ls++ [(A,sz d)]) bV bj bW (by simpa using ac) aK aL;have bE:=b1.cell;have bF:=b1.frozen);have b4:=Zh (KE.below ao (λk O=>GN bZ ao k O));go_roundw
        case rel=>
         refine⟨k+1,by omega,by go_num,Zh ((am.below ao).ke aE bk),Zh (a8 B (by omega) bk), ?_,Zh (aO.trans (b4.trans aE)),Zh (aP.trans ((BJ ao).trans aM))⟩;rw [bR.out];exact Zh b2
        case measure=>simp [intOf];omega
      . have cl:m.testBit k=false:=by simpa using an
        have aR:=Zh an;clear an;gi_wp2_with (gi_at_call 94;refine(bd _).mono ?_;rintro e ai ⟨rfl,rfl⟩);go_roundw
        case rel=>exact⟨k+1,by omega,by go_num,am,Fx,by rw [be.out,if_neg aR.out];exact aG,aO,aP⟩
        case measure=>simp [intOf];omega
    . obtain rfl:k=aF:=by omega
      gi_wp2;exact⟨bL.trans (aP.from _),bM.trans aO,by show G3 w _ _;rw [a6.out,<-My,ax.out];exact aG.out⟩
 case done=>
  rintro D' xs W b5 bo hi U;rw [bo] at hi;obtain⟨v,Z,ab,J⟩:=hi;obtain⟨_,aa,aD⟩:=Yqx;clear J ab Z bo;gi_wp2;refine⟨by simp, .inl ⟨_,_,rfl,run_takeDeferred U, ?_⟩⟩;refine⟨v,by simp [results,f52],v,rfl,Fy (Cs:=λ_=>False) aD (KB.putObj _ U rfl rfl) (λ_ h=>h.elim), ?_⟩;exact Ydd
 case stop=>
  rintro D' bw pre W b5 cn aH;exact aH.elim
