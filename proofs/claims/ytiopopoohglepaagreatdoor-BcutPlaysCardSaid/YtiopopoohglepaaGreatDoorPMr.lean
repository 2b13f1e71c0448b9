/- A part. -/
import Derived.Test.YtiopopoohglepaaGreatDoorPMq
import Derived.Laws.MakeOwn
set_option linter.all false
set_option maxRecDepth 100000
set_option maxHeartbeats 4000000
namespace Go.Proofs.YtiopopoohglepaaGreatDoor
open Go.Proofs.Tryz
open Go.RowKit Go.Shelf
namespace BN
variable {n:BN}{t:Nat}
def FU(t:Nat)(n:BN)(m:Nat):List Nat:=(List.range (6*t)).map λi=>if i<m then n.Ds t i else 0
theorem Ho (t:Nat)(n:BN)(m i:Nat)(h:i<6*t):(FU t n m)[i]? =some (if i<m then n.Ds t i else 0):=by simp [FU,h]
theorem Xn(t:Nat)(n:BN):FU t n 0=List.replicate (6*t) 0:=by
 refine List.ext_getElem (by simp [FU]) λi h1 I=> ?_
 simp [FU]
theorem Ht{m:Nat}(h:m<6*t):(FU t n m).set m (n.Ds t m)=FU t n (m+1):=by
 refine List.ext_getElem (by simp [FU]) λi h1 J=> ?_
 rw [List.getElem_set];simp only [FU,List.getElem_map,List.getElem_range];by_cases e:m=i
 . subst e;simp
 . rw [if_neg e]
   by_cases I:i<m
   . rw [if_pos I,if_pos (by omega)]
   . rw [if_neg I,if_neg (by omega)]
theorem XM(h:n.Fits t):FU t n (2+2*n.keys.length)=FU t n (4*t):=by
 refine List.ext_getElem (by simp [FU]) λi h1 U=> ?_
 simp only [FU,List.getElem_map,List.getElem_range];obtain⟨g1,g2,g3⟩:=h;by_cases J:i<2+2*n.keys.length
 . rw [if_pos J,if_pos (by simp [FU] at h1;omega)]
 . rw [if_neg J]
   by_cases I:i<4*t
   . rw [if_pos I]
     unfold Ds;rw [if_neg (by omega),if_neg (by omega),if_pos I];have O:n.keys.length<=(i-2)/2:=by omega
     split
     . rw [List.getD_eq_getElem?_getD,List.getElem?_eq_none O];rfl
     . rw [List.getD_eq_getElem?_getD,List.getElem?_eq_none (by omega)];rfl
   . rw [if_neg I]
theorem XI(J:2<=t):FU t n (4*t+n.kids.length)=n.wd t:=by
 refine List.ext_getElem (by simp [FU,wd]) λi h1 O=> ?_
 simp only [FU,wd,List.getElem_map,List.getElem_range];by_cases I:i<4*t+n.kids.length
 . rw [if_pos I]
 . rw [if_neg I]
   unfold Ds;rw [if_neg (by omega),if_neg (by omega),if_neg (by omega),List.getD_eq_getElem?_getD,List.getElem?_eq_none (by omega)];rfl
end BN
variable {A B w:World}{F:Nat->Prop}{b bx:Nat}
theorem Xl(n:Nat)(V:n<=1000)(W:World):(Instr.makeSlice 149 (.int .i64 (n:Int)) (.int .i64 (n:Int))).run prog W= .ok (.slice (some ⟨W.heap.size,0,none⟩) n n) (W.alloc (.cells (Array.replicate n (Value.int .u64 0)) 22)):=by
 obtain⟨i0,hi,J,O,U⟩:=info_parts Tryz.N6;have I:=run_make (P:=prog) (w:=W) 149 22 i0 (.int .u64 0) (by kernel_rfl) hi J .i64 .i64 (n:Int) (n:Int) (by omega) (by omega) (by rw [U];omega) (by omega);simp only [Int.toNat_natCast] at I;rw [I,O,Nat.mul_one];have e:madeCells (Value.cells (.int .u64 0)) n=Array.replicate n (Value.int .u64 0):=by
  apply Array.toList_inj.1;rw [show Value.cells (.int .u64 0)= [Value.int .u64 0].toArray from rfl,toList_madeCells_one];simp
 rw [e]
theorem Te(W:World)(n:Nat):An (W.alloc (.cells (Array.replicate n (Value.int .u64 0)) 22)) W.heap.size 22 (BA (List.replicate n 0)):=by
 have h:=An.new W 22 (BA (List.replicate n 0));have e:(BA (List.replicate n 0)).toArray=Array.replicate n (Value.int .u64 0):=by
  apply Array.toList_inj.1;simp [BA]
 rw [e] at h;exact h
theorem FG(l:List Nat)(i x:Nat):(BA l).set i (.int .u64 x)=BA (l.set i x):=by
 unfold BA;rw [List.map_set]
def RB(w:World)(ws:List Nat)(e:Ending)(w' :World):Prop:=
 ∃b bx,e= .returned (.func (.func 173) #[] #[.pointer (some ⟨bx,0,none⟩)])/\w.heap.size<=b/\w.heap.size<=bx/\w'.cell? ⟨bx,0,none⟩=some (.slice (some ⟨b,0,none⟩) ws.length ws.length)/\(∀j u,(BA ws)[j]? =some u->w'.cell? ⟨b,j,none⟩=some u)/\b<w'.heap.size/\Below w.heap.size w w'
theorem V1(A:Option Addr)(n c:Nat)(w:World):Calls prog 159 #[.slice A n c] w λe w' =>e= .returned (.func (.func 173) #[] #[.pointer (some ⟨w.heap.size,0,none⟩)])/\w' =w.alloc (.cells #[.slice A n c] 149):=by
 go_enter func159,ntmps159;go_wp2;go_ret;exact⟨rfl,rfl⟩
def Yfz{P}(h:P:=by
 have I:=congrArg List.length h;rw [Dg] at I;have J:l.length=0:=I;omega):=h
theorem AK.num{A:Option Addr}{l:List Nat}(h:AK w F A (AF l)){k:Nat}(J:k<l.length): ∃b o,A=some ⟨b,o,none⟩/\b<w.heap.size/\ ∀W,Below w.heap.size w W->W.cell? ⟨b,o+k,none⟩=some (.int .u64 (l[k]:Nat)):=by
 rcases h with h|⟨b,o,h1,I,V,O⟩
 . exact Yfz
 . exact⟨b,o,h1,I,λW U=>(U.cell (p:=⟨b,o+k,none⟩) I).trans (O k _ (EM J))⟩
theorem Ad.L4(I:F b)(j:Nat)(v:Value):Ad w F (w.setCell ⟨b,j,none⟩ v) F:=
 ⟨rfl,rfl,rfl,by simp,λk O J=>Below.heap_setCell w ⟨b,j,none⟩ v k (λe=>J (e▸I)),λ_ h=> .inl h⟩
def Yke{P}(h:P:=by
 have I:Below wr.heap.size wr ao:=by rw [aX];exact(Below.refl _ _).alloc (Nat.le_refl _) _
 exact I):=h
def Ykq{P}(h:P:=by
 have w1:IntKind.i64.wrap (2*(k:Int))=2*(k:Int):=by rw [IntKind.wrap_i64];omega
 have w2:IntKind.i64.wrap (2+2*(k:Int))=2+2*(k:Int):=by rw [IntKind.wrap_i64];omega
 have w3:IntKind.i64.wrap (2+2*(k:Int)+1)=2+2*(k:Int)+1:=by rw [IntKind.wrap_i64];omega
 exact And.intro w1 (And.intro w2 w3)):=h
def Z5{P}(h:P:=by
 have I:k<n.Ab.length:=by rw [aZ.out];exact O
 exact I):=h
def Ymz{P}(h:P:=by
 have I:=An.new w 100 [.slice ag n.keys.length af, .slice aa n.Ab.length ac, .slice U n.kids.length ci, .int .u64 n.size];exact I):=h
def Ynz{P}(h:P:=by
 have I:=aM wr Z.out;have J:=aG wr Z.out;exact And.intro I J):=h
theorem NN{v:Value}{n:BN}(h:C3 w F v n)(t:Nat)(aS:BN.A0 t)(aD:n.Fits t):
 Calls prog 123 #[.int .i64 t,v] w (RB w (n.wd t)):=by
 obtain⟨⟨ag,af,aa,ac,U,ci,rfl,k1,k2,a5⟩,l1,l2,l3⟩:=h;have a6:=OO;have a7:=Zh (λk (ax:k<n.keys.length)=>k1.num ax);have a8:=Zh (λk (ax:k<n.Ab.length)=>k2.num ax);have bB:=Zh (λk (ax:k<n.kids.length)=>a5.num ax);have bC:=Zh aD;have t2:=aS.2;have t1:=aS.1;have bQ:=aD.1;have aZ:=Zh aD.2.1;have bR:n.kids.length<=2*t:=by
  rcases aD.2.2 with h|h
  . rw [h];simp
  . have:=h.1;omega
 have bS:IntKind.u64.wrap (n.keys.length:Int)=(n.keys.length:Int):=Js (by omega);have aT:=Ymz;have aU:=Yji;have a9:=Xl (6*t) (by omega);push_cast at a9;obtain⟨aL,J⟩:=Zx (w.alloc (Obj.cells #[.slice ag n.keys.length af, .slice aa n.Ab.length ac, .slice U n.kids.length ci, .int .u64 n.size] 100));rw [show(Obj.cells ([.slice ag n.keys.length af, .slice aa n.Ab.length ac, .slice U n.kids.length ci, .int .u64 n.size]:List Value).toArray 100)=(Obj.cells #[.slice ag n.keys.length af, .slice aa n.Ab.length ac, .slice U n.kids.length ci, .int .u64 n.size] 100) from rfl,<-J] at aT;rw [<-J] at aU;have bD:aL.heap.size=w.heap.size+1:=by rw [J];simp
 have au:=Te aL (6*t);obtain⟨aj,ab⟩:=Zx (aL.alloc (.cells (Array.replicate (6*t) (Value.int .u64 0)) 22));rw [<-ab] at au;have ar:An aj w.heap.size 100 [.slice ag n.keys.length af, .slice aa n.Ab.length ac, .slice U n.kids.length ci, .int .u64 n.size]:=by rw [ab];exact aT.alloc _
 have aK:Below w.heap.size w aj:=by rw [ab];exact aU.alloc (by omega) _
 obtain⟨bn,V⟩:=Zx w.heap.size;obtain⟨b,ba⟩:=Zx aL.heap.size;rw [<-V] at ar;rw [<-ba] at au;have bb :Hid (b=w.heap.size+1):=Zh (by omega);have O:b<aj.heap.size:=au.lt;have aA:w.heap.size<=b:=by omega
 have aw:bn≠b:=by omega
 have bc:BN.FU t n 0=List.replicate (6*t) 0:=BN.Xn t n;rw [<-bc] at au;obtain⟨bd,be,bf⟩:=EA;obtain⟨bg,aN,aV⟩:=OT;clear k1 k2 a5 aT aU bD J ab V ba au ar aK bc aD aS;go_enter func123,ntmps123;go_wp2;rw [<-bd.out,<-be.out,<-bb.out,<-bf.out];have c0:=λX:Kp aj (λk=>k=b)=>Kp.cell (aN.at' (i:=0) rfl) aw X
 have c3:=λX:Kp aj (λk=>k=b)=>Kp.cell (aN.at' (i:=3) rfl) aw X
 clear bd be bf bb a9;refine IC (λw' => ∃X:Kp aj (λk=>k=b),w' =X.W) [0,1,2,3,4,5,6,7,8] [9,10,11] a6 (by kernel_rfl) rfl (by kernel_rfl) (Kp.start _ _) (λ_ _ d _ _ h=>by cases d<;>exact h) ?_
 iterate 8 (refine CK _ _ rfl rfl (by rintro _ ⟨X,rfl⟩;go_simp;exact rfl) ?_;go_simp)
 refine CK _ _ rfl rfl (by rintro _ ⟨X,rfl⟩;go_simp;first|exact rfl|rw [if_pos (by omega)]) ?_
 go_simp;refine KQ ?_;clear c0 c3;have am:Below aj.heap.size aj aj.drew:=Ac aj
 change FT _ _ _ _ _ _ aj.drew
 have aB:=bg.below am;have bh:=aN.below am;have bj:=aV.trans (am.mono aV.size);have bk:Ad aj (λk=>k=b) aj.drew (λk=>k=b):=Ad.below am;clear am;generalize aj.drew=al at*;have aO:al.cell? ⟨b,0,none⟩=some (.int .u64 0):=aB.at' (i:=0) (by unfold BA;rw [List.getElem?_map,BN.Ho _ _ _ _ (by omega)];rfl);have q1:al.cell? ⟨b,1,none⟩=some (.int .u64 0):=aB.at' (i:=1) (by unfold BA;rw [List.getElem?_map,BN.Ho _ _ _ _ (by omega)];rfl);have aE:al.frozen? ⟨b,0,none⟩=false:=aB.free 0;have aW:al.frozen? ⟨b,1,none⟩=false:=aB.free 1;have aY:=Zh ((aB.set 0 (.int .u64 n.keys.length)).set 1 (.int .u64 n.size));have aP:=Zh ((bh.other (p:=⟨b,0,none⟩) aw (.int .u64 n.keys.length)).other (p:=⟨b,1,none⟩) aw (.int .u64 n.size));have a0:=Zh ((bj.setCell (p:=⟨b,0,none⟩) aA (.int .u64 n.keys.length)).setCell (p:=⟨b,1,none⟩) aA (.int .u64 n.size));have aq:=Zh bk;clear aB bh bj bk bg aN aV;refine DX _ rfl (λbE aF=> ?_);go_wp2;refine aF _ _ ⟨⟨_,_,aq.trans (Ad.L4 (F:=λk=>k=b) rfl 0 _)⟩,rfl⟩ ?_;refine DX _ rfl (λbF aH=> ?_);go_wp2;refine aH _ _ ⟨⟨_,_,aq.trans (Ad.L4 (F:=λk=>k=b) rfl 0 _)⟩,rfl⟩ ?_;refine DX _ rfl (λbG aI=> ?_);go_wp2;refine aI _ _ ⟨⟨_,_,(aq.trans (Ad.L4 (F:=λk=>k=b) rfl 0 _)).trans (Ad.L4 (F:=λk=>k=b) rfl 1 _)⟩,rfl⟩ ?_;refine Mg ?_;obtain⟨bH,bm⟩:=Zx ((al.setCell ⟨b,0,none⟩ (.int .u64 n.keys.length)).setCell ⟨b,1,none⟩ (.int .u64 n.size));rw [<-bm] at aY aP a0 ⊢;have bo:Hid (An bH b 22 (BA (BN.FU t n (2+2*0)))):=Zh (by
  have ai:=aY.out;rw [FG,FG,show n.keys.length=n.Ds t 0 from rfl,BN.Ht (by omega),show n.size=n.Ds t 1 from rfl,BN.Ht (by omega)] at ai;exact ai)
 have d0:=aP.at' (i:=0) rfl;clear aY bm aO q1 aE aW aq aF aH aI;go_wp2_with fail
 go_loopw [25] (λay wr=> ∃k:Nat,k<=n.keys.length/\ay= .int .i64 k/\Hid (An wr b 22 (BA (BN.FU t n (2+2*k))))/\Hid (An wr bn 100 [.slice ag n.keys.length af, .slice aa n.Ab.length ac, .slice U n.kids.length ci, .int .u64 n.size])/\Hid (Below w.heap.size w wr)) (λay _=>n.keys.length-(intOf ay).toNat)
 case atStart=>exact⟨0,by omega,rfl,bo,aP,a0⟩
 case round=>
  obtain⟨k,ax,rfl,an,V,Z⟩:=hrel;clear d0 bo aP a0;by_cases O:k<n.keys.length
  . have bp:=Z5
    obtain⟨bI,ok,bJ,bT,aM⟩:=a7.out k O;obtain⟨bv,bU,bK,bV,aG⟩:=a8.out k bp;obtain⟨bq,br⟩:=Ynz;have a1:Hid (n.Ds t (2+2*k)=n.keys[k]):=Zh (by rw [BN.QI (by omega),List.getD_eq_getElem?_getD,List.getElem?_eq_getElem O];rfl);have a2:Hid (n.Ds t (2+2*k+1)=n.Ab[k]):=Zh (by rw [BN.Qq (by omega),List.getD_eq_getElem?_getD,List.getElem?_eq_getElem bp];rfl);subst bJ bK;generalize n.keys[k]=aC at*;generalize n.Ab[k]=aQ at*;have c0:=(λX:Kp wr (λk=>k=b)=>Kp.cell (V.at' (i:=0) rfl) aw X);have c1:=(λX:Kp wr (λk=>k=b)=>Kp.cell (V.at' (i:=1) rfl) aw X);obtain⟨w1,w2,_⟩:=Ykq;have bL:bI≠b:=(by omega);have bM:bv≠b:=(by omega);have c2:=(λX:Kp wr (λk=>k=b)=>Kp.cell bq bL X);have c3:=(λX:Kp wr (λk=>k=b)=>Kp.cell br bM X);clear aM aG bq br;go_wp2;refine IC (λw' => ∃X:Kp wr (λk=>k=b),w' =X.W) [0,1,2,3,4,5,6,7,8,9,10,11,12,13,14,15,16,17,18,19] [20,21,22] a6 (by kernel_rfl) rfl (by kernel_rfl) (Kp.start _ _) (λ_ _ d _ _ h=>by cases d<;>exact h) ?_
    iterate 12 (refine CK _ _ rfl rfl (by rintro _ ⟨X,rfl⟩;go_simp;exact rfl) ?_;go_simp)
    refine CK _ _ rfl rfl (by rintro _ ⟨X,rfl⟩;go_simp;first|exact rfl|rw [if_pos (by omega)]) ?_
    go_simp
    iterate 4 (refine CK _ _ rfl rfl (by rintro _ ⟨X,rfl⟩;go_simp;exact rfl) ?_;go_simp)
    refine CK _ _ rfl rfl (by rintro _ ⟨X,rfl⟩;go_simp;first|exact rfl|rw [if_pos (by omega)]) ?_
    go_simp;refine CK _ _ rfl rfl (by rintro _ ⟨X,rfl⟩;go_simp;exact rfl) ?_;go_simp;refine CK _ _ rfl rfl (by rintro _ ⟨X,rfl⟩;go_simp;first|exact rfl|rw [if_pos (by omega)]) ?_
    go_simp;refine KQ ?_;clear c0 c1 c2 c3;have am:Below wr.heap.size wr wr.drew:=Ac wr
    change FT _ _ _ _ _ _ wr.drew
    have az:=an.below am;have bs:=V.below am;have aJ:=Z.trans (am.mono Z.size);have bu:Ad wr (λk=>k=b) wr.drew (λk=>k=b):=Ad.below am;clear am;generalize wr.drew=al at*;have aO:al.cell? ⟨b,2+2*k,none⟩=some (.int .u64 0):=az.at' (i:=2+2*k) (by unfold BA;rw [List.getElem?_map,BN.Ho _ _ _ _ (by omega),if_neg (by omega)];rfl);have q1:al.cell? ⟨b,2+2*k+1,none⟩=some (.int .u64 0):=az.at' (i:=2+2*k+1) (by unfold BA;rw [List.getElem?_map,BN.Ho _ _ _ _ (by omega),if_neg (by omega)];rfl);have aE:al.frozen? ⟨b,2+2*k,none⟩=false:=az.free _;have aW:al.frozen? ⟨b,2+2*k+1,none⟩=false:=az.free _;have bN:(al.setCell ⟨b,2+2*k,none⟩ (.int .u64 aC)).frozen? ⟨b,2+2*k+1,none⟩=false:=(az.set (2+2*k) (.int .u64 aC)).free (2+2*k+1);have ae:Hid (An ((al.setCell ⟨b,2+2*k,none⟩ (.int .u64 aC)).setCell ⟨b,2+2*k+1,none⟩ (.int .u64 aQ)) b 22 (BA (BN.FU t n (2+2*(k+1))))):=Zh (by
     have ai:=(az.set (2+2*k) (.int .u64 aC)).set (2+2*k+1) (.int .u64 aQ);rw [FG,FG,<-a1.out,BN.Ht (by omega),<-a2.out,BN.Ht (by omega)] at ai;rw [a1.out,a2.out] at ai;exact ai)
    have ah:=Zh ((bs.other (p:=⟨b,2+2*k,none⟩) aw (.int .u64 aC)).other (p:=⟨b,2+2*k+1,none⟩) aw (.int .u64 aQ));have I:=Zh ((aJ.setCell (p:=⟨b,2+2*k,none⟩) aA (.int .u64 aC)).setCell (p:=⟨b,2+2*k+1,none⟩) aA (.int .u64 aQ));have aq:=Zh bu;clear az bs aJ bu an V Z a1 a2;refine DX _ rfl (λbE aF=> ?_);go_wp2
    . exact absurd (‹al.frozen? ⟨b,2+2*k,none⟩=true›) (by rw [aE];simp)
    refine aF _ _ ⟨⟨_,_,aq.trans (Ad.L4 (F:=λk=>k=b) rfl (2+2*k) _)⟩,rfl⟩ ?_;refine DX _ rfl (λbF aH=> ?_);go_wp2;refine aH _ _ ⟨⟨_,_,aq.trans (Ad.L4 (F:=λk=>k=b) rfl (2+2*k) _)⟩,rfl⟩ ?_;refine DX _ rfl (λbG aI=> ?_);go_wp2;refine aI _ _ ⟨⟨_,_,(aq.trans (Ad.L4 (F:=λk=>k=b) rfl (2+2*k) _)).trans (Ad.L4 (F:=λk=>k=b) rfl (2+2*k+1) _)⟩,rfl⟩ ?_;refine Mg ?_;clear aO q1 aE aW bN aq aF aH aI;exact Yeo
  . obtain rfl:k=n.keys.length:=by omega
    have bw:Hid (An wr b 22 (BA (BN.FU t n (4*t+0)))):=Zh (by have ai:=an.out;rw [BN.XM bC.out] at ai;exact ai);have d2:=V.at' (i:=2) rfl;have aJ:=Zh Z.out;clear an V Z a7 a8 O;go_wp2_with fail
    go_loopw [53] (λay wr=> ∃k:Nat,k<=n.kids.length/\ay= .int .i64 k/\Hid (An wr b 22 (BA (BN.FU t n (4*t+k))))/\Hid (Below w.heap.size w wr)) (λay _=>n.kids.length-(intOf ay).toNat)
    case atStart=>exact⟨0,by omega,rfl,bw,aJ⟩
    case round=>
     obtain⟨k,ax,rfl,an,Z⟩:=hrel;clear d2 bw aJ;by_cases O:k<n.kids.length
     . skip
       obtain⟨bi,bW,bO,bX,bz⟩:=bB.out k O;have bY:=bz wr Z.out;have a3:Hid (n.Ds t (4*t+k)=n.kids[k]):=Zh (by rw [BN.MQ t1,List.getD_eq_getElem?_getD,List.getElem?_eq_getElem O];rfl);subst bO;generalize n.kids[k]=a4 at*;have aO:wr.cell? ⟨b,4*t+k,none⟩=some (.int .u64 0):=an.at' (i:=4*t+k) (by unfold BA;rw [List.getElem?_map,BN.Ho _ _ _ _ (by omega),if_neg (by omega)];rfl);have aE:wr.frozen? ⟨b,4*t+k,none⟩=false:=an.free _;have w1:IntKind.i64.wrap (4*(t:Int))=4*(t:Int):=(by rw [IntKind.wrap_i64];omega);have w2:IntKind.i64.wrap (4*(t:Int)+(k:Int))=4*(t:Int)+(k:Int):=(by rw [IntKind.wrap_i64];omega);have ae:Hid (An (wr.setCell ⟨b,4*t+k,none⟩ (.int .u64 a4)) b 22 (BA (BN.FU t n (4*t+(k+1))))):=Zh (by
        have ai:=an.set (4*t+k) (.int .u64 a4);rw [FG,<-a3.out,BN.Ht (by omega)] at ai;rw [a3.out] at ai;exact ai)
       have I:=Zh (Z.setCell (p:=⟨b,4*t+k,none⟩) aA (.int .u64 a4));clear bz an Z a3;exact Tx.Yez
     . obtain rfl:k=n.kids.length:=by omega
       have hA:=Zh (V1 (some ⟨b,0,none⟩) (6*t) (6*t));have ae:Hid (An wr b 22 (BA (n.wd t))):=Zh (by have ai:=an.out;rw [BN.XI t1] at ai;exact ai);have I:=Zh Z.out;clear an Z;go_wp2_with fail;refine(hA _).mono ?_;rintro e ao ⟨rfl,aX⟩;have aR:=Yke;have bA:ao.cell? ⟨wr.heap.size,0,none⟩=some (.slice (some ⟨b,0,none⟩) (6*t) (6*t)):=(by rw [aX];go_simp);have bP:Hid (RB w (n.wd t) (.returned (.func (.func 173) #[] #[.pointer (some ⟨wr.heap.size,0,none⟩)])) ao):=Zh ⟨b,wr.heap.size,rfl,aA,I.size,by rw [BN.B0];exact bA,λj u hu=>(ae.below aR).at' hu,(ae.below aR).lt,I.trans (aR.mono I.size)⟩;clear aX aR bA;go_wp2;go_ret;exact bP.out
attribute [local go_sem] Oper.semAt_some Ec
def BY(b bx:Nat)(A B:World):Prop:=A.heap.size<=B.heap.size/\B.heap[b]? =A.heap[b]? /\B.heap[bx]? =A.heap[bx]?
theorem BY.trans{C:World}(h:BY b bx A B)(k:BY b bx B C):BY b bx A C:=⟨Nat.le_trans h.1 k.1,k.2.1.trans h.2.1,k.2.2.trans h.2.2⟩
theorem BY.refl(b bx:Nat)(A:World):BY b bx A A:=⟨Nat.le_refl _,rfl,rfl⟩
theorem BY.Aq{F':Nat->Prop}(h:Ad A F B F')(h1:b<A.heap.size)(I:bx<A.heap.size)(f1: ¬F b)(f2: ¬F bx):BY b bx A B:=⟨h.size,h.keep b h1 f1,h.keep bx I f2⟩
theorem BY.put{l:Nat}(W:World)(o:Obj)(h1:b≠l)(I:bx≠l):BY b bx W (W.putObj l o):=⟨by simp,World.putObj_heap_other h1,World.putObj_heap_other I⟩
theorem Ns{ws:List Nat}(hx:w.cell? ⟨bx,0,none⟩=some (.slice (some ⟨b,0,none⟩) ws.length ws.length))(V: ∀j u,(BA ws)[j]? =some u->w.cell? ⟨b,j,none⟩=some u)(Z:b<w.heap.size)(az:ws.length<=1000):
 SeqStopsK Fence.wide 8 prog 173 #[.pointer (some ⟨bx,0,none⟩)] (λz:{z:Nat // z<ws.length}=> #[.int .i64 z.1, .int .u64 (ws[z.1]'z.2:Nat)]) (BY b bx) (λxs=>xs.map (·.1)=List.range ws.length) (λpre=> ∃t,List.range ws.length=pre.map (·.1)++t) ws.length w:=λl ai aA W J aB aC O h0=>by
 have aj:=(J.cell (p:=⟨bx,0,none⟩) (Am hx)).trans hx;have al:Hid (∀j (h:j<ws.length),W.cell? ⟨b,j,none⟩=some (.int .u64 (ws[j]:Nat))):=Zh (λj h=>(J.cell (p:=⟨b,j,none⟩) Z).trans (V j _ (by simp [BA,h])));have am:=Zh h0;clear J hx V Z h0;refine callsIn_of_wp func173 rfl trivial ?_ rfl;simp only [ntmps173,List.size_toArray,List.length_cons,List.length_nil,Nat.reduceAdd,Nat.reduceSub,Array.replicate_succ,Array.replicate_zero,List.push_toArray,List.append_toArray,List.nil_append,List.cons_append];gi_wp2_with fail
 gi_loopw [7] (λU wr=> ∃(pre:List {z:Nat // z<ws.length}) (i:Nat),i<=ws.length/\U= .int .i64 i/\Hid (pre.map (·.1)=List.range i)/\Hid (∀j (h:j<ws.length),wr.cell? ⟨b,j,none⟩=some (.int .u64 (ws[j]:Nat)))/\Hid (ai pre wr)) (λU _=>ws.length-(intOf U).toNat)
 case atStart=>exact⟨[],0,by omega,rfl,Zh rfl,al,am⟩
 case round=>
  obtain⟨pre,i,hi,rfl,hp,aa,ab⟩:=hrel;by_cases I:i<ws.length
  . have an:=aa.out i I
    have aD:pre.length=i:=(by have:=congrArg List.length hp.out;simpa using this);have ao:=Zh O;clear O aj;gi_wp2_with fail;obtain⟨fn,tmps,assign,body,aq,ac⟩:=ao.out pre ⟨i,I⟩ _ ab (by omega);have ar:=Zh ac;clear ac;rw [aq];gi_wp2;refine(ar).mono ?_;have ae:Hid ((pre++ [(⟨i,I⟩:{z:Nat // z<ws.length})]).map (·.1)=List.range (i+1)):=Zh (by rw [List.map_append,hp.out,List.range_succ];rfl);rintro e au (⟨rfl,af,ag⟩|⟨rfl,ah⟩)
    . have aw:Hid (∀j (h:j<ws.length),au.cell? ⟨b,j,none⟩=some (.int .u64 (ws[j]:Nat))):=Zh (λj h=>(World.cell?_of_block (a:=⟨b,j,none⟩) ag.2.1).trans (aa j h))
      have ax:=Zh af;clear af ag an;gi_wp2;go_roundw
      case rel=>exact⟨pre++ [⟨i,I⟩],i+1,by omega,by go_num,ae,aw,ax⟩
      case measure=>simp [intOf];omega
    . have ay:=Zh ah
      clear ah;gi_wp2;refine bodyPost_ret (results_none rfl _ _ _) rfl ?_;refine⟨⟨_,rfl⟩, .inr ⟨_,⟨(List.range ws.length).drop (i+1), ?_⟩,ay⟩⟩;rw [ae.out];have:=List.take_append_drop (i+1) (List.range ws.length);rw [List.take_range,Nat.min_eq_left (by omega)] at this;exact this.symm
  . obtain rfl:i=ws.length:=by omega
    clear O;gi_wp2;go_end0;exact⟨⟨_,rfl⟩, .inl ⟨_,hp,ab⟩⟩
end Go.Proofs.YtiopopoohglepaaGreatDoor
namespace Go.Proofs.YtiopopoohglepaaGreatDoor
open Go.Proofs.Tryz
open Go.RowKit Go.Shelf
variable {l:List Pr}
def E2(l:List Pr)(k:ByteArray):Int:=if (l[AE l k]?).map (·.1)=some k then ((AE l k:Nat):Int) else-1
theorem Wb{k:ByteArray}(h:AE l k<l.length):E2 l k=if (l[AE l k]'h).1=k then ((AE l k:Nat):Int) else-1:=by
 unfold E2;simp only [List.getElem?_eq_getElem h,Option.map_some,Option.some.injEq]
theorem WD{k:ByteArray}(h: ¬AE l k<l.length):E2 l k= -1:=by
 unfold E2;simp only [List.getElem?_eq_none (Nat.le_of_not_lt h),Option.map_none,reduceCtorEq,if_false]
def Yet{P}(h:P:=by
 clear az;go_wp2;go_ret;exact⟨by rw [ab.out];rfl,aB⟩):=h
theorem RD{w:World}{B c:Nat}{A:Option Addr}(h:D8 w B A l)(U:B<=w.heap.size)(Z:l.length<=4398046511104)(hs:JL l)(key:ByteArray)(aa:key.size<=9223372036854775807):
 Calls prog 23 #[.slice A l.length c, .string key] w λe w' =>e= .returned (.int .i64 (E2 l key))/\Below w.heap.size w w' :=by
 have V:=Zh (Mw (c:=c) h U Z hs key aa);have hle:=D0 l key;have ac:=Zh (λh=>Wb (l:=l) (k:=key) h);have ae:=Zh (λh=>WD (l:=l) (k:=key) h);have af:=Zh h;generalize AE l key=n at*;by_cases J:n<l.length
 . have O:=SW l[n].1 key
   have ab:=Zh (ac J);have hd:decide ((n:Int)<(l.length:Int))=true:=(by simp;omega);obtain⟨p,hp⟩: ∃p,l[n]=p:=⟨_,rfl⟩;have ag:=Zh (λW (ah:Below w.heap.size w W)=>by have:=(af.below (ah.mono U)).at' J;rw [hp] at this;exact this);rw [hp] at O ab;clear hp;by_cases I:p.1=key
   focus
    have ai:(p.1.toList==key.toList)=true:=(by rw [O];exact decide_eq_true I);rw [if_pos I] at ab
   rotate_left
   focus
    have ai:(p.1.toList==key.toList)=false:=(by rw [O];exact decide_eq_false I);rw [if_neg I] at ab
   all_goals
    clear O I h hs;go_enter func23,ntmps23;go_wp2_with fail;refine V.mono ?_;rintro e w1 ⟨rfl,az⟩;obtain⟨b,o,rfl,_,c1,_⟩:=ag.out w1 az;have aB:=Zh az;exact Yet
 . have hd:decide (n<l.length)=false:=by simp;omega
   have ab:=Zh (ae J);clear h hs J;go_enter func23,ntmps23;go_wp2_with fail;refine V.mono ?_;rintro e w1 ⟨rfl,az⟩;have aB:=Zh az;exact Yet
theorem GV{k:ByteArray}: ∀{l:List Pr},AZ l->(∀q∈l.take (AE l k),Tx.cmp q.1 k<0)/\(∀q∈l.drop (AE l k),¬Tx.cmp q.1 k<0)
 | [],_=>⟨λq I=>by simp at I,λq I=>by simp at I⟩
 |p::l,h=>by
  have J :=List.pairwise_cons.1 h;rw [GM];by_cases hp:Tx.cmp p.1 k<0
  . rw [if_pos hp,List.take_succ_cons,List.drop_succ_cons]
    obtain⟨h1,U⟩:=GV (k:=k) J.2;refine⟨λq I=> ?_,U⟩;rcases List.mem_cons.1 I with rfl|I
    . exact hp
    . exact h1 q I
  . have O: ∀q∈l,¬Tx.cmp q.1 k<0:=λq I e=>hp (Ee (J.1 q I) e)
    rw [if_neg hp,Ev O];refine⟨λq I=>by simp at I,λq I=> ?_⟩;rcases List.mem_cons.1 I with rfl|I
    . exact hp
    . exact O q I
theorem KY(h:AZ l)(p:Pr):AZ (Dc l p):=by
 obtain⟨h1,J⟩:=GV (k:=p.1) h;have hle:=D0 l p.1;unfold Dc;generalize AE l p.1=n at*;have Iw: ∀q∈l.drop (if (l[n]?).map (·.1)=some p.1 then n+1 else n),Tx.cmp p.1 q.1<0:=by
  intro q I;have ac:=Lf p.1 q.1;have V:AZ (l.drop n):=List.Pairwise.sublist (List.drop_sublist n l) h;by_cases Z:n<l.length
  . have hd:=List.drop_eq_getElem_cons Z
    rw [List.getElem?_eq_getElem Z] at I;simp only [Option.map_some,Option.some.injEq] at I;rw [hd] at V J;have aa :=List.pairwise_cons.1 V;by_cases he:l[n].1=p.1
    . rw [if_pos he] at I
      have:=aa.1 q I;rw [he] at this;exact this
    . rw [if_neg he,hd] at I
      have O:=J q I;have ae:=J l[n] List.mem_cons_self;rcases List.mem_cons.1 I with rfl|I
      . have:Tx.cmp l[n].1 p.1≠0:=λe=>he (Cp.1 e)
        omega
      . have ab:=aa.1 q I
        have:Tx.cmp l[n].1 p.1≠0:=(λe=>he (Cp.1 e));have af:=Lf p.1 l[n].1;exact Ee (b:=l[n].1) (by omega) ab
  . rw [List.getElem?_eq_none (by omega)] at I
    simp only [Option.map_none,reduceCtorEq,if_false] at I;rw [List.drop_eq_nil_of_le (by omega)] at I;simp at I
 unfold AZ;rw [List.pairwise_append,List.pairwise_cons];refine⟨List.Pairwise.sublist (List.take_sublist n l) h,⟨Iw,List.Pairwise.sublist (List.drop_sublist _ l) h⟩,λa ha b U=> ?_⟩;have O:=h1 a ha;rcases List.mem_cons.1 U with rfl|U
 . exact O
 . exact Ee O (Iw b U)
theorem K3.zero{R R' :Zr}{t:BT}(g:K3 R R' t)(h:R 0=none):R' 0=none:=by
 rw [g.old 0 (λe=>g.nz 0 e rfl),h]
structure It where
 kh:Nat
 vh:Nat
 k:ByteArray
 v:ByteArray
namespace It
def pr(i:It):Pr:=(i.k,i.v)
def hs(i:It):List Nat:= [i.kh,i.vh]
structure At(R:Zr)(i:It):Prop where
 kt:R i.kh=some (Tx.A9 i.k.data.toList)
 vt:R i.vh=some (Tx.A9 i.v.data.toList)
 ks:i.k.size<=1000
 vs:i.v.size<=1000
theorem At.congr{R R' :Zr}{i:It}(h:At R i)(e: ∀z∈i.hs,R' z=R z):At R' i:=
 ⟨(e _ (by simp [hs])).trans h.kt,(e _ (by simp [hs])).trans h.vt,h.ks,h.vs⟩
end It
structure Sb where
 h:Nat
 Aa:List It
 ns:List Nat
abbrev Lk:=It × Sb
namespace Bt
variable {R:Zr}{a b:List Pr}{lo t:Nat}{x:Pr}
def rest(l:List Lk):List It:=l.flatMap λp=>p.1::p.2.Aa
def Aj(c:Sb)(l:List Lk):List It:=c.Aa++rest l
def Ax(c:Sb)(l:List Lk):List Nat:=c.ns++l.flatMap λp=>p.2.ns
def Al(c:Sb)(l:List Lk):BN:=⟨l.map (·.1.kh),l.map (·.1.vh),c.h::l.map (·.2.h),(Aj c l).length⟩
def Ar(l:List It):BN:=⟨l.map (·.kh),l.map (·.vh),[],l.length⟩
def At(R:Zr)(t:Nat):Nat->Nat->Sb->Prop
 |0,lo,s=>s.ns= [s.h]/\lo<=s.Aa.length/\KP R t s.h (Ar s.Aa)
 |a+1,lo,s=> ∃c l,s.Aa=Aj c l/\s.ns=s.h::Ax c l/\lo<=l.length/\KP R t s.h (Al c l)/\At R t a (t-1) c/\ ∀p∈l,At R t a (t-1) p.2
theorem BU(p:Lk)(l:List Lk):rest (p::l)=p.1::(p.2.Aa++rest l):=by simp [rest]
theorem K6(l m:List Lk):rest (l++m)=rest l++rest m:=by simp [rest]
theorem BW(c:Sb)(p:Lk)(l:List Lk):Aj c (p::l)=c.Aa++(p.1::Aj p.2 l):=by simp [Aj,rest]
theorem BB(c:Sb)(p:Lk)(l:List Lk):Ax c (p::l)=c.ns++Ax p.2 l:=by simp [Ax]
theorem DE: ∀{a lo:Nat} {s:Sb},At R t a lo s->s.h∈s.ns
 |0,lo,s,h=>by rw [h.1];simp
 |a+1,lo,s,h=>by obtain⟨c,l,_,I,_⟩:=h;rw [I];simp
theorem At.congr{R':Zr}: ∀{a lo:Nat} {s:Sb},At R t a lo s->(∀x∈s.ns,R' x=R x)->At R' t a lo s
 |0,lo,s,h,e=>by
  obtain⟨h1,I,J,O⟩:=h;exact⟨h1,I,(e s.h (by rw [h1];simp)).trans J,O⟩
 |a+1,lo,s,h,e=>by
  obtain⟨c,l,h1,I,J,⟨O,U⟩,V,Z⟩:=h;rw [I] at e;refine⟨c,l,h1,I,J,⟨(e s.h (by simp)).trans O,U⟩,V.congr λx hx=>e x ?_,λp hp=>(Z p hp).congr λx hx=>e x ?_⟩
  . simp [Ax,hx]
  . simp only [Ax,List.mem_cons,List.mem_append,List.mem_flatMap]
    exact .inr (.inr ⟨p,hp,hx⟩)
theorem At.lower{a I:Nat}{s:Sb}(h:At R t a lo s)(J:I <=lo):At R t a I s:=by
 cases a with
 |zero=>exact⟨h.1,Nat.le_trans J h.2.1,h.2.2⟩
 |succ a=>obtain⟨c,l,h1,O,U,V⟩:=h;exact⟨c,l,h1,O,Nat.le_trans J U,V⟩
theorem At.node{a:Nat}{s:Sb}(h:At R t a lo s): ∃n,KP R t s.h n/\n.size=s.Aa.length:=by
 cases a with
 |zero=>exact⟨_,h.2.2,rfl⟩
 |succ a=>obtain⟨c,l,h1,J,O,I,_⟩:=h;exact⟨_,I,by rw [h1];rfl⟩
def Ap(c:Sb):List Lk->Nat->Sb
 |_,0=>c
 | [],_+1=>c
 |p::l,k+1=>Ap p.2 l k
def pre(c:Sb):List Lk->Nat->List It
 |_,0=> []
 | [],_+1=> []
 |p::l,k+1=>c.Aa++p.1::pre p.2 l k
def GH(c:Sb):List Lk->Nat->Nat
 |_,0=>0
 | [],_+1=>0
 |p::l,k+1=>c.Aa.length+GH p.2 l k
theorem Bu: ∀(c:Sb) (l:List Lk) (k:Nat),k<=l.length->Aj c l=pre c l k++((Ap c l k).Aa++rest (l.drop k))
 |c,l,0,_=>by cases l<;>rfl
 |c,[],k+1,h=>absurd h (by simp)
 |c,p::l,k+1,h=>by
  rw [BW,Bu p.2 l k (by simpa using h)];simp [pre,Ap]
theorem Oi: ∀(c:Sb) (l:List Lk) (k:Nat),k<=l.length->(pre c l k).length=k+GH c l k
 |c,l,0,_=>by cases l<;>rfl
 |c,[],k+1,h=>absurd h (by simp)
 |c,p::l,k+1,h=>by
  simp only [pre,GH,List.length_append,List.length_cons,Oi p.2 l k (by simpa using h)];omega
theorem ER: ∀(c:Sb) (l:List Lk) (k:Nat),k<=l.length->(c.h::l.map (·.2.h))[k]? =some (Ap c l k).h
 |c,l,0,_=>by cases l<;>rfl
 |c,[],k+1,h=>absurd h (by simp)
 |c,p::l,k+1,h=>ER p.2 l k (by simpa using h)
theorem Hy{p:Sb->Prop}: ∀{c:Sb} {l:List Lk} (k:Nat),p c->(∀x∈l,p x.2)->p (Ap c l k)
 |c,l,0,h,_=>by cases l<;>exact h
 |c,[],k+1,h,_=>h
 |c,x::l,k+1,h,h2=>Hy k (h2 x (by simp)) (λy I=>h2 y (by simp [I]))
theorem UO: ∀(c:Sb) (l:List Lk) (k:Nat),k<l.length->GH c l (k+1)=GH c l k+(Ap c l k).Aa.length
 |c,[],k,h=>absurd h (by simp)
 |c,p::l,0,_=>by cases l<;>simp [GH,Ap]
 |c,p::l,k+1,h=>by
  have:=UO p.2 l k (by simpa using h);simp only [GH,Ap] at this ⊢;omega
theorem Vr: ∀(c:Sb) (l:List Lk) (k:Nat),Ap c l k=c\/ ∃p∈l,Ap c l k=p.2
 |c,l,0=>by cases l<;>exact .inl rfl
 |c,[],k+1=> .inl rfl
 |c,p::l,k+1=>by
  rcases Vr p.2 l k with h|⟨q,I,h⟩
  . exact .inr ⟨p,by simp,h⟩
  . exact .inr ⟨q,by simp [I],h⟩
theorem Pt: ∀(c:Sb) (l:List Lk) (k:Nat) (I:k<l.length),∃u,pre c l (k+1)=u++ [l[k].1]/\u=pre c l k++(Ap c l k).Aa
 |c,[],k,I=>absurd I (by simp)
 |c,p::l,0,I=>by
  refine⟨c.Aa, ?_, ?_⟩
  . cases l<;>simp [pre]
  . cases l<;>simp [pre,Ap]
 |c,p::l,k+1,I=>by
  obtain⟨u,h1,J⟩:=Pt p.2 l k (by simpa using I);refine⟨c.Aa++p.1::u, ?_, ?_⟩
  . show c.Aa++p.1::pre p.2 l (k+1)=_
    rw [h1];simp
  . rw [J];simp [pre,Ap]
def AJ(l:List It):List Pr:=l.map It.pr
theorem Bq(l m:List It):AJ (l++m)=AJ l++AJ m:=by simp [AJ]
theorem Bz(l:List It):(AJ l).length=l.length:=by simp [AJ]
theorem CT(i:It)(l:List It):AJ (i::l)=i.pr::AJ l:=rfl
structure HB(l:List Lk)(key:ByteArray)(k:Nat):Prop where
 le:k<=l.length
 low: ∀i (h:i<l.length),i<k->Tx.cmp l[i].1.k key<0
 high: ∀i (h:i<l.length),k<=i-> ¬Tx.cmp l[i].1.k key<0
theorem NY{a b c:ByteArray}(h:Tx.cmp a b<0)(k: ¬0<Tx.cmp b c):Tx.cmp a c<0:=by
 by_cases h0:Tx.cmp b c=0
 . rw [<-Cp.1 h0];exact h
 . exact Ee h (by omega)
theorem IQ{key:ByteArray}(h:AZ (a++x::b))(hx: ¬0<Tx.cmp x.1 key): ∀p∈a,Tx.cmp p.1 key<0:=by
 intro p hp;have h1:=(List.pairwise_append.1 h).2.2 p hp x (by simp);exact NY h1 hx
theorem Kj{key:ByteArray}(h:AZ (a++x::b))(hx: ¬Tx.cmp x.1 key<0): ∀p∈b,¬Tx.cmp p.1 key<0:=by
 intro p hp;have h1:=(List.pairwise_cons.1 (List.pairwise_append.1 h).2.1).1 p hp;intro I;exact hx (NY h1 (by omega))
section
variable {c:Sb} {l:List Lk} {key:ByteArray} {k:Nat}
theorem HB.pre(hs:HB l key k)(I:AZ (AJ (Aj c l))): ∀p∈AJ (pre c l k),Tx.cmp p.1 key<0:=by
 have hle:=hs.le
 cases k with
 |zero=>intro p hp;cases l<;>simp [Bt.pre,AJ] at hp
 |succ j=>
  obtain⟨u,h1,O⟩:=Pt c l j (by omega);have J:=hs.low j (by omega) (by omega);have hd:AZ (AJ u++l[j].1.pr::AJ ((Ap c l (j+1)).Aa++rest (l.drop (j+1)))):=by
   rw [Bu c l (j+1) hle,h1] at I
   simpa [Bq,CT,AJ] using I
  rw [h1,Bq];intro p hp;rcases List.mem_append.1 hp with hp|hp
  . exact IQ hd (by show¬0<Tx.cmp l[j].1.k key;omega) p hp
  . simp only [AJ,List.map_cons,List.map_nil,List.mem_singleton] at hp
    rw [hp];exact J
theorem HB.post(hs:HB l key k)(J:AZ (AJ (Aj c l))): ∀p∈AJ (rest (l.drop k)),¬Tx.cmp p.1 key<0:=by
 have hle:=hs.le;by_cases I:k<l.length
 . have hh:=hs.high k I (Nat.le_refl _)
   rw [List.drop_eq_getElem_cons I,BU,CT];rw [Bu c l k hle,List.drop_eq_getElem_cons I,BU,<-List.append_assoc,Bq,CT] at J;intro p hp;rcases List.mem_cons.1 hp with rfl|hp
   . exact hh
   . exact Kj J hh p hp
 . rw [List.drop_eq_nil_of_le (by omega)]
   intro p hp;simp [rest,AJ] at hp
theorem HB.R9(hs:HB l key k)(I:AZ (AJ (Aj c l))):AE (AJ (Aj c l)) key=k+GH c l k+AE (AJ (Ap c l k).Aa) key:=by
 rw [Bu c l k hs.le,Bq,Bq,C8,C8,HU (hs.pre I),Ev (hs.post I),Bz,Oi c l k hs.le];omega
theorem HB.RX(hs:HB l key k)(I:AZ (AJ (Aj c l)))(J:k<l.length)(he:l[k].1.k=key): ∀p∈AJ (Ap c l k).Aa,Tx.cmp p.1 key<0:=by
 rw [Bu c l k hs.le,List.drop_eq_getElem_cons J,BU,<-List.append_assoc,Bq,CT] at I;intro p hp;refine IQ I ?_ p (by rw [Bq];exact List.mem_append.2 (.inr hp))
 show¬0<Tx.cmp l[k].1.k key
 rw [he,(Cp.2 rfl:Tx.cmp key key=0)];omega
end
def Bb(l:List It)(key:ByteArray):Option It:=l.find? λi=>decide (i.k=key)
theorem D9(a b:List It)(key:ByteArray):Bb (a++b) key=(Bb a key).or (Bb b key):=by
 unfold Bb;rw [List.find?_append]
theorem Et{l:List It}{key:ByteArray}(h: ∀i∈l,i.k≠key):Bb l key=none:=by
 unfold Bb;rw [List.find?_eq_none];intro i hi
 simpa using h i hi
theorem FY{l:List It}{key:ByteArray}(h: ∀p∈AJ l,Tx.cmp p.1 key<0): ∀i∈l,i.k≠key:=by
 intro i hi e;have:=h i.pr (List.mem_map.2 ⟨i,hi,rfl⟩);rw [show i.pr.1=key from e,(Cp.2 rfl:Tx.cmp key key=0)] at this;omega
section
variable {c:Sb} {l:List Lk} {key:ByteArray} {k:Nat}
theorem HB.here(hs:HB l key k)(I:AZ (AJ (Aj c l)))(J:k<l.length)(he:l[k].1.k=key):Bb (Aj c l) key=some l[k].1:=by
 rw [Bu c l k hs.le,D9,D9,Et (FY (hs.pre I)),Et (FY (hs.RX I J he)),List.drop_eq_getElem_cons J,BU];simp [Bb,he]
def Yny{P}(h:P:=by
 have h1:=(List.pairwise_cons.1 (List.pairwise_append.1 Z).2.1).1 i.pr (List.mem_map.2 ⟨i,hi,rfl⟩);exact h1):=h
theorem HB.gone(hs:HB l key k)(Z:AZ (AJ (Aj c l)))(he: ∀I:k<l.length,l[k].1.k≠key):Bb (Aj c l) key=Bb (Ap c l k).Aa key:=by
 rw [Bu c l k hs.le,D9,D9,Et (FY (hs.pre Z)),Option.none_or];rw [Et (l:=rest (l.drop k)),Option.or_none];intro i hi e;by_cases I:k<l.length
 . have hh:=hs.high k I (Nat.le_refl _)
   have J:=he I;rw [List.drop_eq_getElem_cons I,BU] at hi;rcases List.mem_cons.1 hi with rfl|hi
   . exact J e
   . rw [Bu c l k hs.le,List.drop_eq_getElem_cons I,BU,<-List.append_assoc,Bq,CT] at Z
     have h1:=Yny;have O:Tx.cmp l[k].1.k key<0:=(by rw [<-e];exact h1);exact hh O
 . rw [List.drop_eq_nil_of_le (by omega)] at hi
   simp [rest] at hi
end
theorem Ja: ∀{l:List It} {key:ByteArray},AZ (AJ l)->Bb l key=(l[AE (AJ l) key]?).filter λi=>decide (i.k=key)
 | [],key,_=>rfl
 |i::l,key,hr=>by
  obtain⟨h1,J⟩:=List.pairwise_cons.1 hr;rw [CT,GM];by_cases I:Tx.cmp i.k key<0
  . have O:i.k≠key:=λe=>by rw [e,(Cp.2 rfl:Tx.cmp key key=0)] at I;omega
    rw [if_pos (show Tx.cmp i.pr.1 key<0 from I),List.getElem?_cons_succ,<-Ja J];simp [Bb,O]
  . rw [if_neg (show¬Tx.cmp i.pr.1 key<0 from I),Nat.add_zero,show AE (AJ l) key=0 from Ev (λp hp U=>I (Ee (h1 p hp) U))]
    by_cases he:i.k=key
    . simp [Bb,he,Option.filter]
    . have V: ∀j∈l,j.k≠key:=λj Z e=>by
       have:=h1 j.pr (List.mem_map.2 ⟨j,Z,rfl⟩);rw [show j.pr.1=key from e] at this;exact I this
      have:=Et V;unfold Bb at this ⊢;simp [he,this,Option.filter]
theorem CO{l:List It}{key:ByteArray}(J:AZ (AJ l)):(E2 (AJ l) key=if (Bb l key).isSome then ((AE (AJ l) key:Nat):Int) else-1)/\ ∀i,Bb l key=some i->l[AE (AJ l) key]? =some i/\i.k=key:=by
 have h:=Ja (key:=key) J;constructor
 . unfold E2
   rw [h];have e:(AJ l)[AE (AJ l) key]? =(l[AE (AJ l) key]?).map It.pr:=(by unfold AJ;rw [List.getElem?_map]);rw [e]
   cases h1:l[AE (AJ l) key]? with
   |none=>simp
   |some i=>
    by_cases I:i.k=key
    . simp [I,It.pr]
    . simp [I,It.pr]
 . intro i hi
   rw [h] at hi;have:=Option.filter_eq_some_iff.1 hi;exact⟨this.1,by simpa using this.2⟩
end Bt
def GF(f:Nat->Int):Nat->Nat->Nat->Nat
 |0,lo,_=>lo
 |m+1,lo,hi=>if lo<hi then (if f ((lo+hi)/2)<0 then GF f m ((lo+hi)/2+1) hi else GF f m lo ((lo+hi)/2)) else lo
theorem MN(f:Nat->Int): ∀(m lo hi:Nat),lo<=hi->lo<=GF f m lo hi/\GF f m lo hi<=hi
 |0,lo,hi,h=>⟨Nat.le_refl _,h⟩
 |m+1,lo,hi,h=>by
  unfold GF
  split
  . split
    . have:=MN f m ((lo+hi)/2+1) hi (by omega);omega
    . have:=MN f m lo ((lo+hi)/2) (by omega);omega
  . omega
theorem LP(f:Nat->Int)(r:Nat): ∀(m lo hi:Nat),lo<=r->r<=hi->hi-lo<=m->(∀i,i<hi->i<r->f i<0)->(∀i,i<hi->r<=i-> ¬f i<0)->GF f m lo hi=r
 |0,lo,hi,h1,h2,h3,_,_=>by unfold GF;omega
 |m+1,lo,hi,h1,h2,h3,h4,h5=>by
  unfold GF
  split
  . next O=>
    split
    . next I=>
      have: ¬r<=(lo+hi)/2:=(λh=>h5 _ (by omega) h I);exact LP f r m _ hi (by omega) h2 (by omega) h4 h5
    . next I=>
      have: ¬(lo+hi)/2<r:=(λh=>I (h4 _ (by omega) h));exact LP f r m lo _ h1 (by omega) (by omega) (λi J =>h4 i (by omega)) (λi J =>h5 i (by omega))
  . omega
section
variable (R:Zr) (t:Nat)
def BG(x:Nat):ByteArray:=(G6 R x).getD ⟨#[]⟩
def JG(l:List Nat)(key:ByteArray)(i:Nat):Int:=Tx.cmp (BG R (l.getD i 0)) key
def DL(l:List Nat)(key:ByteArray):Nat:=GF (JG R l key) l.length 0 l.length
def Gw(l:List Nat)(key:ByteArray):Bool:=decide (DL R l key<l.length)&&decide (JG R l key (DL R l key)=0)
def Cq(x:Nat):Int:=wrap64 (Af R t x).size
def FM(l:List Nat)(below:Int):Int:=l.foldl (λb x=>wrap64 (b+Cq R t x)) below
def Bv(key:ByteArray):Nat->Nat->Int->Option (Nat × Nat) × Int
 |0,_,below=>(none,below)
 |f+1,x,below=>
  if Bk R t x≠0 then (none,below) else
  bstep (Af R t x) (DL R (Af R t x).keys key) (Gw R (Af R t x).keys key) below (Bv key f)
where
 bstep (n:BN) (k:Nat) (b:Bool) (below:Int) (rec:Nat->Int->Option (Nat × Nat) × Int):Option (Nat × Nat) × Int:=
  cond b
   (some (n.keys.getD k 0,n.Ab.getD k 0),if n.kids= [] then FM R t (n.kids.take k) (wrap64 (below+(k:Nat))) else wrap64 (FM R t (n.kids.take k) (wrap64 (below+(k:Nat)))+Cq R t (n.kids.getD k 0)))
   (if n.kids= [] then (none,FM R t (n.kids.take k) (wrap64 (below+(k:Nat)))) else rec (n.kids.getD k 0) (FM R t (n.kids.take k) (wrap64 (below+(k:Nat)))))
end
namespace Bt
variable {N a below i k lo r sk:Nat}{b:Bool}{ks:List It}{n:BN}
section
variable {R:Zr} {t:Nat}
theorem Kk{i:It}(h:i.At R):BG R i.kh=i.k:=by
 unfold BG G6;rw [h.kt];obtain⟨h1,I⟩:=Tx.Es i.k h.ks
 show(if Tx.Dj (Tx.A9 i.k.data.toList) then some (Tx.HO (Tx.A9 i.k.data.toList)) else none).getD ⟨#[]⟩=_
 rw [if_pos h1,I];rfl
theorem Pz{α:Type}{l:List α}(hi:i<l.length)(h:r<=i):l[i]∈l.drop r:=by
 rw [List.mem_iff_getElem];exact⟨i-r,by rw [List.length_drop];omega,by simp [List.getElem_drop,Nat.add_sub_of_le h]⟩
theorem HA{α:Type}{l:List α}(hi:i<l.length)(h:i<r):l[i]∈l.take r:=by
 rw [List.mem_iff_getElem];exact⟨i,by rw [List.length_take];omega,by simp⟩
theorem MU(h:i<ks.length):(AJ ks)[i]'(by rw [Bz];exact h)=ks[i].pr:=by simp [AJ]
def Ydc{P}(h:P:=by
 unfold JG;rw [List.getD_eq_getElem?_getD,List.getElem?_map,List.getElem?_eq_getElem h]
 show Tx.cmp (BG R ks[i].kh) key=_
 rw [Kk (hA _ (List.getElem_mem h))]):=h
theorem BZ{key:ByteArray}(hA: ∀i∈ks,i.At R)(O:AZ (AJ ks)):DL R (ks.map (·.kh)) key=AE (AJ ks) key:=by
 unfold DL;obtain⟨h1,U⟩:=GV (k:=key) O;have hle:=D0 (AJ ks) key;rw [Bz] at hle;have J: ∀i (h:i<ks.length),JG R (ks.map (·.kh)) key i=Tx.cmp ks[i].k key:=λi h=>by
  exact Ydc
 refine LP _ _ _ _ _ (Nat.zero_le _) (by simpa using hle) (by simp) (λi hi I=> ?_) (λi hi I=> ?_)
 . rw [List.length_map] at hi
   rw [J i hi];exact h1 ks[i].pr (MU hi▸HA (by rw [Bz];exact hi) I)
 . rw [List.length_map] at hi
   rw [J i hi];exact U ks[i].pr (MU hi▸Pz (by rw [Bz];exact hi) I)
theorem Sw{key:ByteArray}(hA: ∀i∈ks,i.At R)(h:i<ks.length):JG R (ks.map (·.kh)) key i=Tx.cmp ks[i].k key:=by
 exact Ydc
theorem Ew{key:ByteArray}(hA: ∀i∈ks,i.At R)(I:AZ (AJ ks)):Gw R (ks.map (·.kh)) key=(Bb ks key).isSome:=by
 unfold Gw;rw [BZ hA I,Ja I,List.length_map];by_cases h:AE (AJ ks) key<ks.length
 . rw [List.getElem?_eq_getElem h,decide_eq_true h,Bool.true_and,Sw hA h]
   by_cases he:ks[AE (AJ ks) key].k=key
   . simp [Option.filter,he,Cp.2]
   . have:Tx.cmp ks[AE (AJ ks) key].k key≠0:=λe=>he (Cp.1 e)
     simp [Option.filter,he,this]
 . rw [List.getElem?_eq_none (by omega),decide_eq_false h]
   rfl
theorem At.get(I:BN.A0 t){s:Sb}(h:At R t a lo s):Bk R t s.h=0/\(Af R t s.h).size=s.Aa.length:=by
 obtain⟨n,h1,J⟩:=h.node;obtain⟨O,U⟩:=h1.get I;exact⟨U,by rw [O];exact J⟩
theorem At.ZT(I:BN.A0 t){s:Sb}(h:At R t a lo s)(J:s.Aa.length<4611686018427387904):Cq R t s.h=(s.Aa.length:Nat):=by
 unfold Cq;rw [(h.get I).2];exact IntWalk.wrap64_in _ (by omega)
theorem Qi(c:Sb): ∀(l:List Lk),c.Aa.length<=(Aj c l).length/\ ∀p∈l,p.2.Aa.length+1<=(Aj c l).length
 | []=>⟨by simp [Aj,rest],by simp⟩
 |q::l=>by
  obtain⟨h1,I⟩:=Qi q.2 l;rw [BW];simp only [List.length_append,List.length_cons];refine⟨by omega,λp hp=> ?_⟩;rcases List.mem_cons.1 hp with rfl|hp
  . omega
  . have:=I p hp;omega
theorem Mt: ∀(c:Sb) (l:List Lk) (k:Nat) (b:Nat),k<=l.length->Cq R t c.h=(c.Aa.length:Nat)->(∀p∈l,Cq R t p.2.h=(p.2.Aa.length:Nat))->b+GH c l k<4611686018427387904->
 FM R t ((c.h::l.map (·.2.h)).take k) (b:Nat)=((b+GH c l k:Nat):Int)
 |c,l,0,b,_,_,_,_=>by cases l<;>rfl
 |c,[],k+1,b,h,_,_,_=>absurd h (by simp)
 |c,p::l,k+1,b,h,h1,h2,h3=>by
  simp only [GH] at h3;have I:=Mt p.2 l k (b+c.Aa.length) (by simpa using h) (h2 p (by simp)) (λq J=>h2 q (by simp [J])) (by omega);unfold FM at I ⊢;rw [List.take_succ_cons,List.foldl_cons,h1,<-Int.natCast_add,IntWalk.wrap64_in _ (by omega)];rw [show((p.2.h::l.map (·.2.h)).take k)=(((p::l).map (·.2.h))).take k from rfl] at I;rw [I];simp only [GH]
  congr 1
  omega
theorem HQ: ∀{c:Sb} {l:List Lk},AZ (AJ (Aj c l))->AZ (AJ (l.map (·.1)))
 |c,[],_=>List.Pairwise.nil
 |c,p::l,h=>by
  rw [BW,Bq,CT] at h;have h1:=(List.pairwise_append.1 h).2.1;obtain⟨I,J⟩:=List.pairwise_cons.1 h1;rw [List.map_cons,CT];refine List.pairwise_cons.2 ⟨λq O=> ?_,HQ J⟩;refine I q ?_;obtain⟨i,hi,rfl⟩:=List.mem_map.1 O;obtain⟨x,hx,rfl⟩:=List.mem_map.1 hi;refine List.mem_map.2 ⟨x.1, ?_,rfl⟩;refine List.mem_append.2 (.inr ?_);exact List.mem_flatMap.2 ⟨x,hx,by simp⟩
theorem keys_in{c:Sb}{l:List Lk}{i:It}(h:i∈l.map (·.1)):i∈Aj c l:=by
 obtain⟨x,hx,rfl⟩:=List.mem_map.1 h;exact List.mem_append.2 (.inr (List.mem_flatMap.2 ⟨x,hx,by simp⟩))
def Yqh{P}(h:P:=by
 have I:i<(l.map (·.1)).length:=by rw [List.length_map];exact hi
 exact I):=h
theorem N3{l:List Lk}{key:ByteArray}(U:AZ (AJ (l.map (·.1)))):HB l key (AE (AJ (l.map (·.1))) key):=by
 obtain⟨h1,V⟩:=GV (k:=key) U;have hle:=D0 (AJ (l.map (·.1))) key;rw [Bz,List.length_map] at hle;refine⟨hle,λi hi O=> ?_,λi hi O=> ?_⟩
 . have I:=Yqh
   have J:=h1 _ (HA (l:=AJ (l.map (·.1))) (i:=i) (by rw [Bz];exact I) O);rw [MU I,List.getElem_map] at J;exact J
 . have I:=Yqh
   have J:=V _ (Pz (l:=AJ (l.map (·.1))) (i:=i) (by rw [Bz];exact I) O);rw [MU I,List.getElem_map] at J;exact J
theorem Hg{c:Sb}{l:List Lk}(I:k<=l.length){i:It}(h:i∈(Ap c l k).Aa):i∈Aj c l:=by
 rw [Bu c l k I];exact List.mem_append.2 (.inr (List.mem_append.2 (.inl h)))
theorem DJ{c:Sb}{l:List Lk}(J:k<=l.length)(I:AZ (AJ (Aj c l))):AZ (AJ (Ap c l k).Aa):=by
 rw [Bu c l k J,Bq,Bq] at I;exact(List.pairwise_append.1 (List.pairwise_append.1 I).2.1).1
theorem Rx{c:Sb}{l:List Lk}(I:k<=l.length):k+GH c l k+(Ap c l k).Aa.length<=(Aj c l).length:=by
 rw [Bu c l k I,List.length_append,List.length_append,Oi c l k I];omega
theorem Mi{key:ByteArray}{f x:Nat}{below:Int}(I:Af R t x=n)(J:Bk R t x=0)(O:DL R n.keys key=k)(U:Gw R n.keys key=b):Bv R t key (f+1) x below=Bv.bstep R t n k b below (Bv R t key f):=by
 subst I O U
 conv=>lhs;unfold Bv
 rw [if_neg (by rw [J];simp)]
theorem SP{rec:Nat->Int->Option (Nat × Nat) × Int}(h:n.kids= [])(I:below+k<4611686018427387904):Bv.bstep R t n k b below rec=(cond b (some (n.keys.getD k 0,n.Ab.getD k 0)) none,((below+k:Nat):Int)):=by
 unfold Bv.bstep;rw [h,if_pos rfl,if_pos rfl,List.take_nil];have:FM R t [] (wrap64 ((below:Int)+(k:Nat)))=((below+k:Nat):Int):=by
  unfold FM;rw [List.foldl_nil,<-Int.natCast_add,IntWalk.wrap64_in _ (by omega)]
 rw [this]
 cases b<;>rfl
theorem QL{sz Ap:Nat}{rec:Nat->Int->Option (Nat × Nat) × Int}(h:n.kids≠ [])(hs:FM R t (n.kids.take k) ((below+k:Nat):Int)=(sk:Int))(hg:n.kids.getD k 0=Ap)(I:Cq R t Ap=(sz:Int))(J:sk+sz<4611686018427387904)(O:below+k<4611686018427387904):
 Bv.bstep R t n k b below rec=cond b (some (n.keys.getD k 0,n.Ab.getD k 0),((sk+sz:Nat):Int)) (rec Ap (sk:Int)):=by
 unfold Bv.bstep;rw [if_neg h,if_neg h,<-Int.natCast_add,IntWalk.wrap64_in ((below+k:Nat):Int) (by omega),hs,hg,I,<-Int.natCast_add,IntWalk.wrap64_in ((sk+sz:Nat):Int) (by omega)]
theorem Xg{n:Nat}(h1:k+sk+n<=N)(I:below+N<4611686018427387904):n<4611686018427387904/\below+k<4611686018427387904/\below+k+sk<4611686018427387904/\below+k+sk+n<4611686018427387904:=by omega
theorem NG{m:Nat}(h1:m<=N)(I:below+N<4611686018427387904):m<4611686018427387904:=by omega
def Ybp{P}(h:P:=by
 unfold Bb at U;rw [List.find?_eq_none] at U;exact absurd (U l[k].1 (List.mem_map.2 ⟨l[k],List.getElem_mem aa,rfl⟩)) (by simpa using e)):=h
def Yee{P}(h:P:=by
 rw [List.getElem?_eq_none (Nat.le_of_not_lt J)] at g1
 cases g1):=h
def Zw{P}(h:P:=by
 have J:=HQ I;have O: ∀i∈l.map (·.1),i.At R:=λi hi=>hA i (keys_in hi)
 have U:=N3 (key:=key) J;have V:=BZ (key:=key) O J;exact And.intro J (And.intro O (And.intro U V))):=h
def Yrv{P}(h:P:=by
 have I: ∀aa :k<l.length,l[k].1.k≠key:=λaa e=>by
  exact Ybp
 exact I):=h
theorem QU(V:BN.A0 t)(key:ByteArray): ∀(a lo f:Nat) (s:Sb) (below:Nat),At R t a lo s->(∀i∈s.Aa,i.At R)->AZ (AJ s.Aa)->a<f->below+s.Aa.length<4611686018427387904->
 Bv R t key f s.h (below:Nat)=((Bb s.Aa key).map (λi=>(i.kh,i.vh)),((below+AE (AJ s.Aa) key:Nat):Int)):=by
 intro a
 induction a with
 |zero=>
  intro lo f s below h hA I ag Z;obtain⟨f,rfl⟩: ∃g,f=g+1:=⟨f-1,by omega⟩;obtain⟨ac,ae⟩:=h.2.2.get V;have hle:=D0 (AJ s.Aa) key;rw [Bz] at hle;rw [Mi ac ae (BZ hA I) (Ew hA I),SP rfl (by omega)]
  cases U:Bb s.Aa key with
  |none=>rfl
  |some i=>
   obtain⟨h1,_⟩:=(CO I).2 i U;simp only [Ar,Option.isSome_some,cond_true,Option.map_some,List.getD_eq_getElem?_getD,List.getElem?_map,h1,Option.getD_some]
 |succ a ih=>
  intro lo f s below h hA I ag Z;obtain⟨f,rfl⟩: ∃g,f=g+1:=⟨f-1,by omega⟩;obtain⟨c,l,h1,aE,aF,au,ah,ai⟩:=h;obtain⟨ac,ae⟩:=au.get V;rw [h1] at hA I Z ⊢;obtain⟨aj,aw,O,af⟩:=Zw;have al:=Ew (key:=key) aw aj;rw [List.map_map] at af al;have am:=λi=>(CO (key:=key) aj).2 i
  generalize AE (AJ (l.map (·.1))) key=k at O af am;have ab:=O.le;have an:=Hy k ah ai;have ax:=Rx (c:=c) ab;have hlen:=Qi c l;obtain⟨b1,b2,ay,ao⟩:=Xg ax Z;have aq:Cq R t c.h=(c.Aa.length:Nat):=ah.ZT V (NG hlen.1 Z);have ar: ∀p∈l,Cq R t p.2.h=(p.2.Aa.length:Nat):=λp hp=>(ai p hp).ZT V (NG (Nat.le_trans (Nat.le_succ _) (hlen.2 p hp)) Z)
  have az:=Mt c l k (below+k) ab aq ar ay;have aA:=ER c l k ab;have aB:=an.ZT V b1;have aC:=ih (t-1) f (Ap c l k) (below+k+GH c l k) an (λi hi=>hA i (Hg ab hi)) (DJ ab I) (Nat.lt_of_succ_lt_succ ag) ao;clear aq ar hlen ih;rw [Mi ac ae af al,QL (by simp [Al]) az (by show(c.h::l.map (·.2.h)).getD k 0=_;rw [List.getD_eq_getElem?_getD,aA];rfl) aB ao b2]
  cases U:Bb (l.map (·.1)) key with
  |some i=>
   obtain⟨g1,g2⟩:=am i U;rw [List.getElem?_map] at g1;by_cases J:k<l.length
   . rw [List.getElem?_eq_getElem J] at g1
     simp only [Option.map_some,Option.some.injEq] at g1;rw [O.here I J (by rw [g1];exact g2),O.R9 I,HU (O.RX I J (by rw [g1];exact g2)),Bz];simp only [Al,Option.isSome_some,cond_true,List.getD_eq_getElem?_getD,List.getElem?_map,List.getElem?_eq_getElem J,Option.map_some,Option.getD_some];rw [Nat.add_assoc below k,Nat.add_assoc below]
   . exact Yee
  |none=>
   have aD:=Yrv;rw [O.gone I aD,O.R9 I];simp only [Option.isSome_none,cond_false];rw [aC];rw [Nat.add_assoc below k,Nat.add_assoc below]
end
end Bt
section
variable (R:Zr) (t:Nat)
def ES(x:Nat)(n:BN):Nat:=if¬n.Fits t then 2 else match R x with|none=>7|some ws=>if ws.length=6*t then 0 else 8
def Bp(x:Nat)(n:BN):Zr:=if ES R t x n=0 then AQ R x (some (n.wd t)) else R
end
namespace BN
def DC(n:BN)(k a b:Nat):BN:=⟨n.keys.take k++a::n.keys.drop k,n.Ab.take k++b::n.Ab.drop k,n.kids,n.size⟩
def FZ(n:BN)(k r:Nat):BN:=⟨n.keys,n.Ab,n.kids.take k++r::n.kids.drop k,n.size⟩
def more(n:BN):BN:=⟨n.keys,n.Ab,n.kids,(n.size+1)%18446744073709551616⟩
end BN
def DI(R:Zr)(t:Nat)(st:List Nat)(n:BN):(Zr) × List Nat × Nat:=
 match st with
 | []=>(R,[],0)
 |x::st=>(Bp R t x n,st,x)
def DO(R:Zr)(t:Nat)(kids:List Nat)(b:Nat):Nat:=kids.foldl (λb x=>(b+(Af R t x).size)%18446744073709551616) b
def Eg(R:Zr)(t:Nat)(n:BN):BN:=⟨n.keys.drop (t+1),n.Ab.drop (t+1),n.kids.drop (t+1),DO R t (n.kids.drop (t+1)) (n.keys.length-(t+1))⟩
def leftOf(t:Nat)(n:BN)(rs:Nat):BN:=⟨n.keys.take t,n.Ab.take t,n.kids.take (t+1),(n.size+36893488147419103232-rs-1)%18446744073709551616⟩
def B4(R:Zr)(t h:Nat)(st:List Nat)(n:BN):(Zr) × List Nat × Option (Nat × Nat × Nat):=
 if n.keys.length<2*t then (Bp R t h n,st,none)
 else
  let p:=DI (Bp R t h (leftOf t n (Eg R t n).size)) t st (Eg R t n)
  (p.1,p.2.1,some (n.keys.getD t 0,n.Ab.getD t 0,p.2.2))
def D6(t:Nat)(key:ByteArray)(ak av:Nat):Nat->(Zr)->List Nat->Nat->(Zr) × List Nat × Option (Nat × Nat × Nat)
 |0,R,st,_=>(R,st,none)
 |f+1,R,st,h=>
  if Bk R t h≠0 then (R,st,none)
  else if (Af R t h).kids= [] then B4 R t h st ((Af R t h).DC (DL R (Af R t h).keys key) ak av).more
  else
   let p:=D6 t key ak av f R st ((Af R t h).kids.getD (DL R (Af R t h).keys key) 0)
   match p.2.2 with
   |none=>B4 p.1 t h p.2.1 (Af R t h).more
   |some (a,b,r)=>B4 p.1 t h p.2.1 (((Af R t h).DC (DL R (Af R t h).keys key) a b).FZ (DL R (Af R t h).keys key+1) r).more
def Ca(R:Zr)(t:Nat)(key:ByteArray):Nat->Nat->List Bool
 |0,_=> []
 |f+1,h=>
  if Bk R t h≠0 then []
  else decide (2*t-1<=(Af R t h).keys.length)::if (Af R t h).kids= [] then [] else Ca R t key f ((Af R t h).kids.getD (DL R (Af R t h).keys key) 0)
def CN:List Bool->Nat
 | []=>0
 |b::p=>if p.all id then p.length+(if b then 1 else 0) else CN p
theorem B8{R:Zr}{t x:Nat}{n:BN}(I:n.Fits t){ws:List Nat}(J:R x=some ws)(O:ws.length=6*t):Bp R t x n=AQ R x (some (n.wd t)):=by
 have e:ES R t x n=0:=by
  unfold ES;rw [if_neg (by simpa using I),J];simp [O]
 unfold Bp;rw [if_pos e]
namespace Bt
variable {i:It}
def AM(c:Sb):List Lk->Nat->Sb->Sb × List Lk
 |l,0,s=>(s,l)
 | [],_+1,_=>(c,[])
 |p::l,k+1,s=>(c,(p.1,(AM p.2 l k s).1)::(AM p.2 l k s).2)
def Cg(c:Sb):List Lk->Nat->Sb->It->Sb->Sb × List Lk
 |l,0,s,m,r=>(s,(m,r)::l)
 | [],_+1,_,_,_=>(c,[])
 |p::l,k+1,s,m,r=>(c,(p.1,(Cg p.2 l k s m r).1)::(Cg p.2 l k s m r).2)
theorem Ex: ∀(c:Sb) (l:List Lk) (k:Nat) (s:Sb),k<=l.length->Aj (AM c l k s).1 (AM c l k s).2=pre c l k++(s.Aa++rest (l.drop k))
 |c,l,0,s,_=>by cases l<;>rfl
 |c,[],k+1,s,h=>absurd h (by simp)
 |c,p::l,k+1,s,h=>by
  show Aj c ((p.1,(AM p.2 l k s).1)::(AM p.2 l k s).2)=_
  rw [BW,Ex p.2 l k s (by simpa using h)];simp [pre]
theorem Ly: ∀(c:Sb) (l:List Lk) (k:Nat) (s:Sb) (m:It) (r:Sb),k<=l.length->Aj (Cg c l k s m r).1 (Cg c l k s m r).2=pre c l k++((s.Aa++m::r.Aa)++rest (l.drop k))
 |c,l,0,s,m,r,_=>by cases l<;>simp [Cg,Aj,rest,pre]
 |c,[],k+1,s,m,r,h=>absurd h (by simp)
 |c,p::l,k+1,s,m,r,h=>by
  show Aj c ((p.1,(Cg p.2 l k s m r).1)::(Cg p.2 l k s m r).2)=_
  rw [BW,Ly p.2 l k s m r (by simpa using h)];simp [pre]
theorem CU: ∀(c:Sb) (l:List Lk) (k:Nat) (s:Sb),k<=l.length->(AM c l k s).2.length=l.length
 |c,l,0,s,_=>by cases l<;>rfl
 |c,[],k+1,s,h=>absurd h (by simp)
 |c,p::l,k+1,s,h=>by
  show((p.1,(AM p.2 l k s).1)::(AM p.2 l k s).2).length=_
  rw [List.length_cons,CU p.2 l k s (by simpa using h),List.length_cons]
theorem PY: ∀(c:Sb) (l:List Lk) (k:Nat) (s:Sb) (m:It) (r:Sb),k<=l.length->(Cg c l k s m r).2.length=l.length+1
 |c,l,0,s,m,r,_=>by cases l<;>rfl
 |c,[],k+1,s,m,r,h=>absurd h (by simp)
 |c,p::l,k+1,s,m,r,h=>by
  show((p.1,(Cg p.2 l k s m r).1)::(Cg p.2 l k s m r).2).length=_
  rw [List.length_cons,PY p.2 l k s m r (by simpa using h),List.length_cons]
theorem DZ: ∀(c:Sb) (l:List Lk) (k:Nat) (s:Sb),k<=l.length->(AM c l k s).2.map (·.1)=l.map (·.1)
 |c,l,0,s,_=>by cases l<;>rfl
 |c,[],k+1,s,h=>absurd h (by simp)
 |c,p::l,k+1,s,h=>by
  show((p.1,(AM p.2 l k s).1)::(AM p.2 l k s).2).map (·.1)=_
  rw [List.map_cons,DZ p.2 l k s (by simpa using h),List.map_cons]
theorem JW: ∀(c:Sb) (l:List Lk) (k:Nat) (s:Sb) (m:It) (r:Sb),k<=l.length->(Cg c l k s m r).2.map (·.1)=(l.map (·.1)).take k++m::(l.map (·.1)).drop k
 |c,l,0,s,m,r,_=>by cases l<;>rfl
 |c,[],k+1,s,m,r,h=>absurd h (by simp)
 |c,p::l,k+1,s,m,r,h=>by
  show((p.1,(Cg p.2 l k s m r).1)::(Cg p.2 l k s m r).2).map (·.1)=_
  rw [List.map_cons,JW p.2 l k s m r (by simpa using h)];rfl
theorem EZ: ∀(c:Sb) (l:List Lk) (k:Nat) (s:Sb),k<=l.length->s.h=(Ap c l k).h->(AM c l k s).1.h::(AM c l k s).2.map (·.2.h)=c.h::l.map (·.2.h)
 |c,l,0,s,_,e=>by cases l<;>simp [AM,e,Ap]
 |c,[],k+1,s,h,_=>absurd h (by simp)
 |c,p::l,k+1,s,h,e=>by
  show c.h::((p.1,(AM p.2 l k s).1)::(AM p.2 l k s).2).map (·.2.h)=_
  rw [List.map_cons,EZ p.2 l k s (by simpa using h) e,List.map_cons]
theorem M3: ∀(c:Sb) (l:List Lk) (k:Nat) (s:Sb) (m:It) (r:Sb),k<=l.length->s.h=(Ap c l k).h->(Cg c l k s m r).1.h::(Cg c l k s m r).2.map (·.2.h)=(c.h::l.map (·.2.h)).take (k+1)++r.h::(c.h::l.map (·.2.h)).drop (k+1)
 |c,l,0,s,m,r,_,e=>by cases l<;>simp [Cg,e,Ap]
 |c,[],k+1,s,m,r,h,_=>absurd h (by simp)
 |c,p::l,k+1,s,m,r,h,e=>by
  show c.h::((p.1,(Cg p.2 l k s m r).1)::(Cg p.2 l k s m r).2).map (·.2.h)=_
  rw [List.map_cons,M3 p.2 l k s m r (by simpa using h) e];rfl
theorem Gi: ∀(c:Sb) (l:List Lk) (k:Nat) (s:Sb) (x:Nat),k<=l.length->(Ax (AM c l k s).1 (AM c l k s).2).count x+(Ap c l k).ns.count x=(Ax c l).count x+s.ns.count x
 |c,l,0,s,x,_=>by cases l<;>simp [AM,Ax,Ap]<;>omega
 |c,[],k+1,s,x,h=>absurd h (by simp)
 |c,p::l,k+1,s,x,h=>by
  have:=Gi p.2 l k s x (by simpa using h)
  show(Ax c ((p.1,(AM p.2 l k s).1)::(AM p.2 l k s).2)).count x+(Ap p.2 l k).ns.count x=_
  rw [BB,BB];simp only [List.count_append] at this ⊢;omega
theorem SU: ∀(c:Sb) (l:List Lk) (k:Nat) (s:Sb) (m:It) (r:Sb) (x:Nat),k<=l.length->(Ax (Cg c l k s m r).1 (Cg c l k s m r).2).count x+(Ap c l k).ns.count x=(Ax c l).count x+(s.ns.count x+r.ns.count x)
 |c,l,0,s,m,r,x,_=>by cases l<;>simp [Cg,Ax,Ap,List.count_append]<;>omega
 |c,[],k+1,s,m,r,x,h=>absurd h (by simp)
 |c,p::l,k+1,s,m,r,x,h=>by
  have:=SU p.2 l k s m r x (by simpa using h)
  show(Ax c ((p.1,(Cg p.2 l k s m r).1)::(Cg p.2 l k s m r).2)).count x+(Ap p.2 l k).ns.count x=_
  rw [BB,BB];simp only [List.count_append] at this ⊢;omega
def BL(l:List It)(i:It):List It:=l.take (AE (AJ l) i.k)++i::l.drop (AE (AJ l) i.k)
theorem E8(l:List It)(i:It):(BL l i).length=l.length+1:=by
 unfold BL;have:=D0 (AJ l) i.k;rw [Bz] at this;simp only [List.length_append,List.length_take,List.length_cons,List.length_drop];omega
theorem R5{a b c:List It}(h1: ∀p∈AJ a,Tx.cmp p.1 i.k<0)(J: ∀p∈AJ c,¬Tx.cmp p.1 i.k<0):BL (a++(b++c)) i=a++(BL b i++c):=by
 unfold BL;have O:AE (AJ (a++(b++c))) i.k=a.length+AE (AJ b) i.k:=by
  rw [Bq,Bq,C8,C8,HU h1,Ev J,Bz];rfl
 have I:=D0 (AJ b) i.k;rw [Bz] at I;rw [O,List.take_length_add_append,List.drop_length_add_append,List.take_append_of_le_length I,List.drop_append_of_le_length I];simp
theorem LS{l:List It}(I:AZ (AJ l))(J:Bb l i.k=none):AJ (BL l i)=Dc (AJ l) i.pr:=by
 have hh: ¬(AJ l)[AE (AJ l) i.pr.1]?.map (·.1)=some i.pr.1:=by
  intro e;have h1:=(CO (key:=i.k) I).1;rw [J] at h1;unfold E2 at h1;rw [if_pos (show(AJ l)[AE (AJ l) i.k]?.map (·.1)=some i.k from e)] at h1;simp only [Option.isSome_none,Bool.false_eq_true,if_false] at h1;omega
 unfold Dc BL;rw [if_neg hh];simp only [AJ,List.map_append,List.map_cons,List.map_take,List.map_drop];rfl
end Bt
variable {A B w:World}{F F':Nat->Prop}{N:Nat}{ws ws0:List Nat}
def Aac(l:List Pr)(k:ByteArray):Prop:=(l[AE l k]?).map (·.1)=some k
instance (l:List Pr) (k:ByteArray):Decidable (Aac l k):=by unfold Aac;infer_instance
section
variable {w':World} {s:Nat} {R:Zr} {n:Nat} {t:BT} {l:List Pr}
end
theorem AK.AJ{A:Option Addr}{l:List Pr}(h:AK w F A (B5 l)):D8 w w.heap.size A l:=by
 rcases h with h|⟨b,o,h1,I,O,J⟩
 . left
   cases l with
   |nil=>rfl
   |cons p l=>simp [B5] at h
 . exact .inr ⟨b,o,h1,I,J⟩
abbrev ID(w:World):Ending->World->Prop:=λe w' =>e= .returned (.bool true)/\Below w.heap.size w w'
section
variable {w':World} {s:Nat}  {R R':Zr} {H:List Nat} {P q most last G n:Nat}
theorem Ah.kb{Cs:Nat->Prop}(h:Ah w s F R H P q most last G)(I:KB Cs w w')(U: ∀k,Cs k-> ¬F k)(hs: ¬Cs s)(hp: ∀k,Cs k-> ∀p,w.cell? ⟨k,0,none⟩≠some (.pointer p))(Z: ¬Cs 1):Ah w' s F R H P q most last G:=by
 obtain⟨a,ha,t,v,L,mem,sl,Fh,h⟩:=h;have V:=h.Gu;have aa: ¬Cs ha:=λJ=>by
  obtain⟨⟨mb,D,k1,rfl⟩,_,_⟩:=h.heap;exact hp ha J _ k1.hs
 exact⟨a,ha,t,v,L,mem,sl,Fh,{ h with
  ca:=I.cell h.ca hs
  ch:=I.cell h.ch hs
  ct:=I.cell h.ct hs
  heap:=h.heap.kb I (λk O J=>U k J (by rw [V];exact .inl O)) aa Z
  tab:=h.tab.kb I (λb O J=>U b J (by rw [V];exact .inr O)) }⟩
end
attribute [local go_sem] Oper.semAt_some Ec
structure BN.Ok(n:BN):Prop where
 keys: ∀x∈n.keys,x<18446744073709551616
 Ab: ∀x∈n.Ab,x<18446744073709551616
 kids: ∀x∈n.kids,x<18446744073709551616
 size:n.size<18446744073709551616
theorem M4{l:List Nat}(h: ∀x∈l,x<18446744073709551616)(i:Nat):l.getD i 0<18446744073709551616:=by
 rw [List.getD_eq_getElem?_getD]
 cases hi:l[i]? with
 |none=>simp
 |some x=>exact h x (List.mem_of_getElem? hi)
theorem BN.Ok.at' {n:BN}(h:n.Ok){t:Nat}(I:n.keys.length<18446744073709551616)(i:Nat):n.Ds t i<18446744073709551616:=by
 unfold BN.Ds
 split
 . exact I
 . split
   . exact h.size
   . split
     . split
       . exact M4 h.keys _
       . exact M4 h.Ab _
     . exact M4 h.kids _
def setW(ws ws0 l:List Nat):List Nat:=(List.range ws0.length).map λi=>if i∈l then ws.getD i 0 else ws0.getD i 0
theorem V2(ws ws0 l:List Nat):(setW ws ws0 l).length=ws0.length:=by simp [setW]
theorem VW(ws ws0:List Nat):setW ws ws0 []=ws0:=by
 refine List.ext_getElem (by simp [setW]) λi h1 I=> ?_
 simp [setW,I]
theorem UU{l:List Nat}{z:Nat}(I:z<ws.length):(setW ws ws0 l).set z (ws[z])=setW ws ws0 (l++ [z]):=by
 refine List.ext_getElem (by simp [setW]) λi h1 J=> ?_
 rw [List.getElem_set];simp only [setW,List.getElem_map,List.getElem_range,List.mem_append,List.mem_singleton];by_cases e:z=i
 . subst e;simp [I]
 . rw [if_neg e]
   have:i≠z:=(λh=>e h.symm);simp [this]
theorem Wp(h:ws.length=ws0.length):setW ws ws0 (List.range ws.length)=ws:=by
 refine List.ext_getElem (by simp [setW,h]) λi h1 I=> ?_
 simp [setW,I]
theorem Ah.own{row:Option Nat}{s:Nat}{R:Zr}{H:List Nat}{P q most last G:Nat}(h:Ah A s F R H P q most last G)(aa: ∀b,F b->b<N)(hg:A.grownBy B row)(O: ∀r,row=some r->N<=r/\ ∃o:Obj,A.heap[r]? =some o/\o.isCells=false):Ah B s F R H P q most last G:=by
 have I: ∀{p:Addr} {v:Value},A.cell? p=some v->row≠some p.block:=λJ e=>by
  obtain⟨o,h1,ab⟩:=Hk J;obtain⟨_,af,U,V⟩:=O _ e;rw [h1] at U
  cases U
  rw [ab] at V
  cases V
 refine h.kb (Cs:=λk=>row=some k) ⟨hg.size,λk o Z _ ac=>(hg.block k (Array.getElem?_eq_some_iff.1 Z).1 (λe=>ac e.symm)).trans Z⟩ (λk e ae=>by have:=aa k ae;have:=(O k e).1;omega) ?_ (λk e p J=>I J e) ?_
 . obtain⟨a,ha,t,v,L,mem,sl,Fh,h⟩:=h
   exact I (p:=⟨s,2,none⟩) h.ca
 . obtain⟨a,ha,t,v,L,mem,sl,Fh,h⟩:=h
   obtain⟨⟨mb,D,k1,rfl⟩,k2,ag⟩:=h.heap;exact I (p:=⟨1,0,none⟩) (k1.tab 0 (by decide))
theorem Ad.own{row:Option Nat}(h:Ad w F A F')(hN:w.heap.size<=N)(hg:A.grownBy B row)(J: ∀r,row=some r->N<=r):Ad w F B F' :=
 ⟨hg.os.trans h.os,hg.tape.trans h.tape,hg.output.trans h.output,Nat.le_trans h.size hg.size,λk I O=>(hg.block k (Nat.lt_of_lt_of_le I h.size) (λe=>by have:=J k e.symm;omega)).trans (h.keep k I O),h.grow⟩
theorem KeepsFrom.Aq(h:Ad A F B F')(J: ∀b,F b->b<N):KeepsFrom N A B:=
 ⟨h.size,λk o U I _=>(h.keep k (Array.getElem?_eq_some_iff.1 I).1 (λO=>by have:=J k O;omega)).trans I⟩
def Kl(w:World)(s:Nat)(F:Nat->Prop)(R:Zr)(H:List Nat)(P q most last G t x:Nat)(n:BN)(e:Ending)(w' :World):Prop:=
 e= .returned (.int .i64 (ES R t x n:Nat))/\Ah w' s F (Bp R t x n) H P q most last G/\Ad w F w' F
section
variable {w':World} {s:Nat}  {R:Zr} {H:List Nat} {P q most last G:Nat}
def Y4{P}(h:P:=by
 rintro l pre ⟨z,J⟩ W K hi I;dsimp only at I ⊢;gi_wp2;exact I _ W (KeepsOthers.refl _ |>.from _) (BY.refl _ _ _) hi rfl):=h
def Yep{P}(h:P:=by
 refine⟨by rw [e];rfl, ?_,Ad.below af⟩;unfold Bp;rw [if_neg (by rw [e];simp)];exact O.below af):=h
def Qz{P}(h:P:=by
 have d1:((lb:Int)==1)=false:=by simp;omega
 have I:=Zh ai;exact And.intro d1 I):=h
theorem Gb(h:Ah w s F R H P q most last G)(t:Nat)(aw:BN.A0 t)(x:Nat)(hx:x<18446744073709551616){v:Value}{n:BN}(a3:C3 w F v n)(aO:n.Ok):
 Calls prog 85 #[.pointer (some ⟨s,0,none⟩), .int .i64 t, .int .u64 x,v] w (Kl w s F R H P q most last G t x n):=by
 refine(callsIn_wide (n:=9)).1 ?_;obtain⟨⟨ac,ag,ah,al,an,ci,rfl,k1,k2,aP⟩,aQ⟩:=a3;have a4:=Zh (λi=>aO.at' (t:=t) (by have:=aQ.1;omega) i);have aD:=Zh (λW (V:Below w.heap.size w W)=>(⟨⟨ac,ag,ah,al,an,ci,rfl,k1.Aq (Ad.below V),k2.Aq (Ad.below V),aP.Aq (Ad.below V)⟩,aQ⟩:C3 W F _ n));have ai:=λW (V:Below w.heap.size w W)=>(callsIn_wide (n:=8)).2 (IT (h.below V) 0 (by decide))
 obtain⟨ay,lb,aR,a5⟩:=C9 R 0;rw [aR] at ai;obtain⟨_,aS⟩:=Qz;have ar:=Zh (λW (V:Below w.heap.size w W)=>(callsIn_wide (n:=8)).2 (IT (h.below V) x hx));have aT:=Zh (λW (V:Below w.heap.size w W)=>(callsIn_wide (n:=8)).2 (JO (aD W V) t aw));have aU:=Zh (λW (V:Below w.heap.size w W) (U:n.Fits t)=>(callsIn_wide (n:=8)).2 (NN (aD W V) t aw U));have O:=Zh h;have t1:=aw.1;have t2:=aw.2;have aE:=((((Below.refl _ w).alloc (Nat.le_refl _) (Obj.cells #[.pointer (some ⟨s,0,none⟩)] 24)).alloc (by simp) (Obj.cells #[.int .u64 x] 23)).alloc (by simp;omega) (Obj.cells #[.slice ac n.keys.length ag, .slice ah n.Ab.length al, .slice an n.kids.length ci, .int .u64 n.size] 100));obtain⟨ao,Z⟩:=Zx (((w.alloc (Obj.cells #[.pointer (some ⟨s,0,none⟩)] 24)).alloc (Obj.cells #[.int .u64 x] 23)).alloc (Obj.cells #[.slice ac n.keys.length ag, .slice ah n.Ab.length al, .slice an n.kids.length ci, .int .u64 n.size] 100));rw [<-Z] at aE;have c1:ao.cell? ⟨w.heap.size,0,none⟩=some (.pointer (some ⟨s,0,none⟩)):=by rw [Z];go_simp
 have c2:ao.cell? ⟨w.heap.size+1,0,none⟩=some (.int .u64 x):=by rw [Z];go_simp
 have aF:ao.cell? ⟨w.heap.size+1+1,0,none⟩=some (.slice ac n.keys.length ag):=by rw [Z];go_simp
 have aG:ao.cell? ⟨w.heap.size+1+1,1,none⟩=some (.slice ah n.Ab.length al):=by rw [Z];go_simp
 have aH:ao.cell? ⟨w.heap.size+1+1,2,none⟩=some (.slice an n.kids.length ci):=by rw [Z];go_simp
 have aI:ao.cell? ⟨w.heap.size+1+1,3,none⟩=some (.int .u64 n.size):=by rw [Z];go_simp
 have ae:=Zh aE;have aV:=Zh Z;have aW:w.heap.size+3<=ao.heap.size:=by rw [Z];simp
 clear k1 k2 aP ai a5 aR h aO aE Z aw;refine callsIn_of_wp_marks func85 rfl trivial ?_ rfl;simp only [ntmps85,List.size_toArray,List.length_cons,List.length_nil,Nat.reduceAdd,Nat.reduceSub,Array.replicate_succ,Array.replicate_zero,List.push_toArray,List.append_toArray,List.nil_append,List.cons_append];gi_wp2_with fail;rw [<-aV.out];refine(aS _ ae).mono ?_;rintro e w1 ⟨rfl,rfl⟩;gi_wp2_with fail;refine(aT _ ae).mono ?_;rintro e w2 ⟨rfl,I⟩;have aj :=(I.cell (p:=⟨w.heap.size,0,none⟩) (Am c1)).trans c1;have J :=(I.cell (p:=⟨w.heap.size+1,0,none⟩) (Am c2)).trans c2;have d30:=(I.cell (p:=⟨w.heap.size+1+1,0,none⟩) (Am aF)).trans aF;have d31:=(I.cell (p:=⟨w.heap.size+1+1,1,none⟩) (Am aG)).trans aG;have d32:=(I.cell (p:=⟨w.heap.size+1+1,2,none⟩) (Am aH)).trans aH;have d33:=(I.cell (p:=⟨w.heap.size+1+1,3,none⟩) (Am aI)).trans aI;have af:=Dt;have bi:w.heap.size+3<=w2.heap.size:=Nat.le_trans aW I.size;clear c1 c2 aF aG aH aI I aT aS aW aV;by_cases U:n.Fits t
 . rw [decide_eq_true U]
   cases au:R x with
   |none=>
    rw [J4 au] at ar;have ab:Hid (Kl w s F R H P q most last G t x n (.returned (.int .i64 7)) w2):=Zh (by
     have e:ES R t x n=7:=(by unfold ES;rw [if_neg (λh=>h U),au]);exact Yep)
    gi_wp2_with fail;refine(ar _ af).mono ?_;rintro e w3 ⟨rfl,rfl⟩;gi_wp2;refine⟨.int .i64 7, ?_,ab⟩;simp [results,f85,go_sem]
   |some ws0=>
    rw [H9 au] at ar;by_cases ax:ws0.length=6*t
    . have dl:((ws0.length:Int) !=6*(t:Int))=false:=by simp;omega
      gi_wp2_with fail;refine(ar _ af).mono ?_;rintro e w3 ⟨rfl,rfl⟩;gi_wp2_with fail;refine(aU _ af U).mono ?_;rintro e w4 ⟨b,bx,rfl,bj,I,aJ,aX,a6,aa⟩;have a7:=Y2;have a8:=Ypg;have aY:=K8;have bk:bx<w4.heap.size:=Am aJ;have a9:=Zh (Ns aJ aX a6 (by rw [BN.B0];omega));have aZ:=Zh (O.below aY);have aK:=Zh (λb (U:F b)=>aZ.lt U);have az:=Zh (λb (U:F b)=>O.lt U);clear aj J d30 d31 d32 d33 aa af aX ar aU aD aJ;gi_wp2_with fail;have ba:Ah w4 s F (AQ R x (some (setW (n.wd t) ws0 (([]:List {z:Nat // z<(n.wd t).length}).map (λ(z:{z:Nat // z<(n.wd t).length})=>z.1))))) H P q most last G/\Ad w4 F w4 F:=by
       refine⟨?_,Ad.refl _ _⟩;rw [List.map_nil,VW,show AQ R x (some ws0)=R from by
        funext y;unfold AQ;split
        . next h=>rw [h,au]
        . rfl]
       exact aZ.out
      refine wpIn_rangeFunc_ownH (α:={z:Nat // z<(n.wd t).length}) rfl (by omega) (gf:=173) (lb:= #[.pointer (some ⟨bx,0,none⟩)]) rfl trivial (enters_of func173 (by kernel_rfl) rfl)
       a9 (λh k=>h.trans k) (λW l o bm bb ax h1 bo=>BY.put W _ (by omega) (by omega)) (Below.refl _ _) (λ_=>rfl)
       (λ(pre:List {z:Nat // z<(n.wd t).length}) W=>Ah W s F (AQ R x (some (setW (n.wd t) ws0 (pre.map (λ(z:{z:Nat // z<(n.wd t).length})=>z.1))))) H P q most last G/\Ad w4 F W F)
       (λbc pre W=>False)
       (λpre A B row hs hg aL=>⟨hs.1.own aK hg aL,hs.2.own (Nat.le_refl _) hg (λr e=>(aL r e).1)⟩)
       (λ_ _ _ _ _ hs _ _=>hs)
       ba
       (λz a' W=>a' ={ tmps:= #[ .pointer (some ⟨s,0,none⟩), .int .i64 (t:Int), .int .u64 (x:Int), .agg #[ .slice ac n.keys.length ag, .slice ah n.Ab.length al, .slice an n.kids.length ci, .int .u64 (n.size:Int)], .pointer (some ⟨w.heap.size,0,none⟩),undef, .pointer (some ⟨w.heap.size+1,0,none⟩), .pointer (some ⟨w.heap.size+1+1,0,none⟩), .int .i64 0, .int .i64 (ay:Int), .int .i64 (lb:Int), .int .i64 (6*(t:Int)), .int .i64 0, .int .i64 (z.1:Nat), .int .u64 ((n.wd t)[z.1]'z.2:Nat), .tuple #[ .int .i64 (ay:Int), .int .i64 (lb:Int)], .pointer (some ⟨s,0,none⟩), .tuple #[ .int .i64 (ay:Int), .int .i64 (lb:Int)], .int .i64 (ay:Int), .int .i64 (lb:Int), .int .i64 (lb:Int), .bool false,undef, .int .i64 (t:Int), .agg #[ .slice ac n.keys.length ag, .slice ah n.Ab.length al, .slice an n.kids.length ci, .int .u64 (n.size:Int)], .bool true, .bool false, .tuple #[ .int .i64 (6*(t:Int)), .int .i64 0], .pointer (some ⟨s,0,none⟩), .int .u64 (x:Int), .tuple #[ .int .i64 (6*(t:Int)), .int .i64 0], .int .i64 (6*(t:Int)), .int .i64 0, .bool false, .int .i64 0, .bool false,undef, .bool false, .int .i64 (6*(t:Int)), .int .i64 (t:Int), .int .i64 (6*(t:Int)), .bool false, .int .i64 (t:Int), .agg #[ .slice ac n.keys.length ag, .slice ah n.Ab.length al, .slice an n.kids.length ci, .int .u64 (n.size:Int)], .func (.func 173) #[] #[ .pointer (some ⟨bx,0,none⟩)], .int .i64 (z.1:Nat), .int .u64 ((n.wd t)[z.1]'z.2:Nat),undef,undef,undef,undef,undef],defers:= [] })
       (λ_ _ _ _ _ _ hs _ _=>hs)
       ?assign ?body ?done ?stop
      case assign=>
       exact Y4
      case body=>
       rintro l pre ⟨z,aA⟩ a' W bb ⟨r,aL⟩ ⟨hs,aq⟩ rfl hlen;dsimp only;have q1:=aq.cell a7 (λU=>by have:=az.out _ U;simp only at this;omega);have bd:=aq.cell a8 (λU=>by have:=az.out _ U;simp only at this;omega);have be :z<ws0.length:=(by rw [ax,<-BN.B0 t n];exact aA);have aM:=Sd hs (x:=x) (i:=z) (u:=(n.wd t)[z]) (ws:=setW (n.wd t) ws0 (pre.map (·.1))) (AT _ _ _) (by rw [V2];exact be) (by rw [BN.Vm];exact a4.out z);rw [Jb,UU aA] at aM;have bf:=Zh (CallsIn.inRound l ((callsIn_wide (n:=6)).2 aM));have a0:=Zh aq;have bg:Hid ((pre++ [(⟨z,aA⟩:{z:Nat // z<(n.wd t).length})]).map (·.1)=pre.map (·.1)++ [z]):=Zh (by rw [List.map_append];rfl);clear aM hs aq;generalize (n.wd t)[z]=wz at*;gi_wp2_with fail;refine bf.mono ?_;rintro e aB ⟨rfl,a1,aC⟩;have ab:Hid (KeepsFrom w4.heap.size W aB/\BY b bx W aB/\Ah aB s F (AQ R x (some (setW (n.wd t) ws0 ((pre++ [(⟨z,aA⟩:{z:Nat // z<(n.wd t).length})]).map (·.1))))) H P q most last G/\Ad w4 F aB F):=Zh (by
        have bp:=a0.size;refine⟨KeepsFrom.Aq aC aK,BY.Aq aC (by omega) (by omega) (λU=>by have:=az.out _ U;omega) (λU=>by have:=az.out _ U;omega), ?_,a0.trans aC⟩;rw [bg.out];exact a1)
       clear a1 aC q1 bd;gi_wp2;exact ab.out
      case done=>
       rintro D' xs W aN bh ⟨hs,aq⟩ a2;rw [bh,Wp (by rw [BN.B0,ax])] at hs;have ab:Hid (Kl w s F R H P q most last G t x n (.returned (.int .i64 0)) (W.putObj D' (.deferred none))):=Zh (by
        have e:ES R t x n=0:=(by unfold ES;rw [if_neg (λh=>h U),au];simp [ax]);have hg:=grownBy_putObj' W D' (.deferred none);refine⟨by rw [e];rfl, ?_,(Ad.below aY).trans (aq.own (Nat.le_refl _) hg (λr e=>by cases e;exact aN))⟩;unfold Bp;rw [if_pos e];exact hs.own aK hg (λr e=>by cases e;exact⟨aN,_,a2,rfl⟩))
       clear hs aq;gi_wp2;refine⟨by simp, .inl ⟨_,_,rfl,run_takeDeferred a2, ?_⟩⟩;exact⟨.int .i64 0,by simp [results,f85,go_sem],ab⟩
      case stop=>
       rintro D' bc pre W aN bq U;exact U.elim
    . have ab:Hid (Kl w s F R H P q most last G t x n (.returned (.int .i64 8)) w2):=Zh (by
       have e:ES R t x n=8:=(by unfold ES;rw [if_neg (λh=>h U),au];simp [ax]);refine⟨by rw [e];rfl, ?_,Ad.below af⟩;unfold Bp;rw [if_neg (by rw [e];simp)];exact O.below af)
      have dl:((ws0.length:Int) !=6*(t:Int))=true:=(by simp;omega);have w1:IntKind.i64.wrap (6*(t:Int))=6*(t:Int):=(by rw [IntKind.wrap_i64];omega);gi_wp2_with fail;refine(ar _ af).mono ?_;rintro e w3 ⟨rfl,rfl⟩;gi_wp2;refine⟨.int .i64 8, ?_,ab⟩;simp [results,f85,go_sem]
 . rw [decide_eq_false U]
   have ab:Hid (Kl w s F R H P q most last G t x n (.returned (.int .i64 2)) w2):=Zh (by
    have e:ES R t x n=2:=(by unfold ES;rw [if_pos U]);exact Yep)
   gi_wp2;refine⟨.int .i64 2, ?_,ab⟩;simp [results,f85,go_sem]
end
end Go.Proofs.YtiopopoohglepaaGreatDoor
namespace Go.Proofs.YtiopopoohglepaaGreatDoor
open Go.Proofs.Tryz
open Go.RowKit Go.Shelf
section
variable {w w' :World} {s:Nat} {F:Nat->Prop} {R:Zr} {H:List Nat} {P q most last G:Nat}
def Uk{P}(h:P:=by
 have I:=Zh ((Ad.below (F:=F) aM).trans am);exact I):=h
def Ypd{P}(h:P:=by
 have wt:IntKind.i64.wrap (6*(t:Int))=6*(t:Int):=by rw [IntKind.wrap_i64];omega
 exact wt):=h
theorem TB(h:Ah w s F R H P q most last G)(t:Nat)(Z:BN.A0 t){v:Value}{n:BN}(ar:C3 w F v n)(au:n.Ok)(V:n.Fits t):
 Calls prog 86 #[.pointer (some ⟨s,0,none⟩), .int .i64 t,v] w (MW w s F R H P q most last G (n.wd t)):=by
 have aI:=Zh au;have aw:=Zh ar;obtain⟨⟨ag,af,aa,ac,U,ci,rfl,k1,k2,aJ⟩,aX⟩:=ar;have t1:=Z.1;have t2:=Z.2;have J:=Yji;have ax:=Ymz;obtain⟨aK,ab⟩:=Zx (w.alloc (Obj.cells #[.slice ag n.keys.length af, .slice aa n.Ab.length ac, .slice U n.kids.length ci, .int .u64 n.size] 100));rw [<-ab] at J;have aj:An aK w.heap.size 100 [.slice ag n.keys.length af, .slice aa n.Ab.length ac, .slice U n.kids.length ci, .int .u64 n.size]:=by rw [ab];exact ax
 have ai:=IT (h.below J) 0 (by decide);obtain⟨aY,lb,ay,aL⟩:=C9 R 0;rw [ay] at ai;obtain⟨_,aN⟩:=Qz;have al:=JO (aw.Aq (Ad.below (F:=F) J)) t Z;rw [decide_eq_true V] at al;have aO:=Zh al;have aP:=Zh h;obtain⟨ae,aQ,aR⟩:=EA;have aS:Hid (¬F w.heap.size):=Zh (λV=>by have:=h.lt V;omega);obtain⟨c0,c1,c2,c3⟩:=C5 aj;have aT:=Zh aj;have wt:=Ypd;clear ax aj J ay aL ai al h au k1 k2 aJ ab V;go_enter func86,ntmps86;go_wp2_with fail;rw [<-aQ.out];refine aN.mono ?_;rintro e w1 ⟨rfl,rfl⟩;go_wp2_with fail;refine aO.mono ?_;rintro e w2 ⟨rfl,I⟩;have an:=Pu (aP.below (ae.trans (I.mono ae.size))) (6*t) (by omega);push_cast at an;have ao:=Zh an;have aM:=Dt;have aU:=Zh (aT.below I);clear an I c0 c1 c2 c3;go_wp2_with fail;refine ao.mono ?_;rintro e w3 (⟨x,F',az,aV,aA,rfl,O,am⟩|⟨er,F',rfl,aB,O,am⟩)
 . have aC:=Uk
   have aD:=aU.Aq am aS.out;obtain⟨c0,c1,c2,c3⟩:=C5 aD;have aE:=Zh (Gb O t Z x aA (aw.Aq aC) aI);have aW:=Zh az;clear O am aD az ao;go_wp2_with fail;refine aE.mono ?_;rintro e w4 ⟨rfl,ah,aF⟩;have aG:ES (AQ R x (some (List.replicate (6*t) 0))) t x n=0:=by
    unfold ES;rw [if_neg (λh=>h aR.out),AT];simp
   have aH:Ah w4 s F' (AQ R x (some (n.wd t))) (x::H) (P+CD ((n.wd t).length+2)) q most last (G+1):=by
    rw [BN.B0];unfold Bp at ah;rw [if_pos aG,Jb] at ah;exact ah
   have aq:Hid (MW w s F R H P q most last G (n.wd t) (.returned (.tuple #[.int .u64 x, .int .i64 0])) w4):=Zh (.inl ⟨x,F',aW,aV,aA,rfl,aH,aC.trans aF⟩);rw [aG];clear ah aH aF aE;go_wp2
   go_ret2
   exact aq.out
 . have d2:((er:Int) !=0)=true:=by simp;omega
   have aq:Hid (MW w s F R H P q most last G (n.wd t) (.returned (.tuple #[.int .u64 0, .int .i64 er])) w3):=Zh (.inr ⟨er,F',rfl,by rw [BN.B0];exact aB,by rw [BN.B0];exact O,(Ad.below (F:=F) aM).trans am⟩);clear O am ao aB;go_wp2
   go_ret2
   exact aq.out
end
section
variable {w w' :World} {s N:Nat} {R:Zr} {n:Nat}
theorem Vk(h:Rd N w s R n){x i J O:Nat}{ws:List Nat}(U:R x=some ws)(hi:i<ws.length)(h1:w.cell? ⟨J,0,none⟩=some (.pointer (some ⟨s,0,none⟩)))(V:w.cell? ⟨O,0,none⟩=some (.int .u64 x)):
 Calls prog 120 #[.int .i64 i, .pointer (some ⟨J,0,none⟩), .pointer (some ⟨O,0,none⟩)] w λe w' =>e= .returned (.int .u64 (ws[i]:Nat))/\w=w' :=by
 have I:=Zh (Rb h U hi);generalize ws[i]=u at*;clear h U hi;go_enter func120,ntmps120;exact Ycv
end
namespace BT
variable {a b:BT}
def mk:BT->Nat
 |nil=>0
 |node _ _ _ m _ _ _ _=>m
def Iw:BT->Nat
 |nil=>0
 |node _ _ _ _ _ _ l r=>max l.Iw r.Iw+1
structure Xr(t t' :BT):Prop where
 hs:t'.hs=t.hs
 nodes:t'.nodes=t.nodes
 AJ:t'.AJ=t.AJ
theorem Xr.trans{c:BT}(h:Xr a b)(k:Xr b c):Xr a c:=⟨k.hs.trans h.hs,k.nodes.trans h.nodes,k.AJ.trans h.AJ⟩
theorem Xr.size(h:Xr a b):b.size=a.size:=by rw [<-Ic,<-Ic,h.nodes]
section
variable {R:Zr}
end
end BT
namespace BT
end BT
namespace BT
section
variable {R:Zr} {x kx vx mx y ky vy my z kz vz mz:Nat} {k v k' v' k2 v2:ByteArray} {A B C D E G:BT}
end
end BT
namespace BT
section
variable {R:Zr}
end
end BT
section
variable {R0 R1 R2 R3 R4:Zr} {tl tr t:BT} {x kx vx m m0:Nat} {k v:ByteArray}
end
