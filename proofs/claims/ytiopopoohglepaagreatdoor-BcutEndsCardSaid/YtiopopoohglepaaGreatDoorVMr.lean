/- A part. -/
import Derived.Test.YtiopopoohglepaaGreatDoorVMq
import Derived.Laws.MakeOwn
set_option linter.all false
set_option maxRecDepth 100000
set_option maxHeartbeats 4000000
namespace Go.Proofs.YtiopopoohglepaaGreatDoor
open Go.Proofs.Tryz
open Go.RowKit Go.Shelf
namespace BN
variable {n:BN}{t:Nat}
def FR(t:Nat)(n:BN)(m:Nat):List Nat:=(List.range (6*t)).map λi=>if i<m then n.Dm t i else 0
theorem Hq (t:Nat)(n:BN)(m i:Nat)(h:i<6*t):(FR t n m)[i]? =some (if i<m then n.Dm t i else 0):=by simp [FR,h]
theorem WT(t:Nat)(n:BN):FR t n 0=List.replicate (6*t) 0:=by
 refine List.ext_getElem (by simp [FR]) λi h1 d=> ?_
 simp [FR]
theorem Hw{m:Nat}(h:m<6*t):(FR t n m).set m (n.Dm t m)=FR t n (m+1):=by
 refine List.ext_getElem (by simp [FR]) λi h1 I=> ?_
 rw [List.getElem_set];simp only [FR,List.getElem_map,List.getElem_range];by_cases e:m=i
 . subst e;simp
 . rw [if_neg e]
   by_cases d:i<m
   . rw [if_pos d,if_pos (by omega)]
   . rw [if_neg d,if_neg (by omega)]
theorem Xl(h:n.Fits t):FR t n (2+2*n.keys.length)=FR t n (4*t):=by
 refine List.ext_getElem (by simp [FR]) λi h1 O=> ?_
 simp only [FR,List.getElem_map,List.getElem_range];obtain⟨g1,g2,g3⟩:=h;by_cases I:i<2+2*n.keys.length
 . rw [if_pos I,if_pos (by simp [FR] at h1;omega)]
 . rw [if_neg I]
   by_cases d:i<4*t
   . rw [if_pos d]
     unfold Dm;rw [if_neg (by omega),if_neg (by omega),if_pos d];have J:n.keys.length<=(i-2)/2:=by omega
     split
     . rw [List.getD_eq_getElem?_getD,List.getElem?_eq_none J];rfl
     . rw [List.getD_eq_getElem?_getD,List.getElem?_eq_none (by omega)];rfl
   . rw [if_neg d]
theorem Xi(I:2<=t):FR t n (4*t+n.kids.length)=n.wd t:=by
 refine List.ext_getElem (by simp [FR,wd]) λi h1 J=> ?_
 simp only [FR,wd,List.getElem_map,List.getElem_range];by_cases d:i<4*t+n.kids.length
 . rw [if_pos d]
 . rw [if_neg d]
   unfold Dm;rw [if_neg (by omega),if_neg (by omega),if_neg (by omega),List.getD_eq_getElem?_getD,List.getElem?_eq_none (by omega)];rfl
end BN
variable {A B w:World}{F:Nat->Prop}{b bx:Nat}
theorem WS(n:Nat)(U:n<=1000)(W:World):(Instr.makeSlice 149 (.int .i64 (n:Int)) (.int .i64 (n:Int))).run prog W= .ok (.slice (some ⟨W.heap.size,0,none⟩) n n) (W.alloc (.cells (Array.replicate n (Value.int .u64 0)) 22)):=by
 obtain⟨i0,hi,I,J,O⟩:=info_parts Tryz.N2;have d:=run_make (P:=prog) (w:=W) 149 22 i0 (.int .u64 0) (by kernel_rfl) hi I .i64 .i64 (n:Int) (n:Int) (by omega) (by omega) (by rw [O];omega) (by omega);simp only [Int.toNat_natCast] at d;rw [d,J,Nat.mul_one];have e:madeCells (Value.cells (.int .u64 0)) n=Array.replicate n (Value.int .u64 0):=by
  apply Array.toList_inj.1;rw [show Value.cells (.int .u64 0)= [Value.int .u64 0].toArray from rfl,toList_madeCells_one];simp
 rw [e]
theorem SW(W:World)(n:Nat):An (W.alloc (.cells (Array.replicate n (Value.int .u64 0)) 22)) W.heap.size 22 (BB (List.replicate n 0)):=by
 have h:=An.new W 22 (BB (List.replicate n 0));have e:(BB (List.replicate n 0)).toArray=Array.replicate n (Value.int .u64 0):=by
  apply Array.toList_inj.1;simp [BB]
 rw [e] at h;exact h
theorem FC(l:List Nat)(i x:Nat):(BB l).set i (.int .u64 x)=BB (l.set i x):=by
 unfold BB;rw [List.map_set]
def Rn(w:World)(ws:List Nat)(e:Ending)(w' :World):Prop:=
 ∃b bx,e= .returned (.func (.func 173) #[] #[.pointer (some ⟨bx,0,none⟩)])/\w.heap.size<=b/\w.heap.size<=bx/\w'.cell? ⟨bx,0,none⟩=some (.slice (some ⟨b,0,none⟩) ws.length ws.length)/\(∀j u,(BB ws)[j]? =some u->w'.cell? ⟨b,j,none⟩=some u)/\b<w'.heap.size/\Below w.heap.size w w'
theorem VG(A:Option Addr)(n c:Nat)(w:World):Calls prog 159 #[.slice A n c] w λe w' =>e= .returned (.func (.func 173) #[] #[.pointer (some ⟨w.heap.size,0,none⟩)])/\w' =w.alloc (.cells #[.slice A n c] 149):=by
 go_enter func159,ntmps159;go_wp2;go_ret;exact⟨rfl,rfl⟩
def Yfu{P}(h:P:=by
 have d:=congrArg List.length h;rw [Da] at d;have I:l.length=0:=d;omega):=h
theorem AJ.num{A:Option Addr}{l:List Nat}(h:AJ w F A (AG l)){k:Nat}(I:k<l.length): ∃b o,A=some ⟨b,o,none⟩/\b<w.heap.size/\ ∀W,Below w.heap.size w W->W.cell? ⟨b,o+k,none⟩=some (.int .u64 (l[k]:Nat)):=by
 rcases h with h|⟨b,o,h1,d,U,J⟩
 . exact Yfu
 . exact⟨b,o,h1,d,λW O=>(O.cell (p:=⟨b,o+k,none⟩) d).trans (J k _ (EK I))⟩
theorem Ad.LX(d:F b)(j:Nat)(v:Value):Ad w F (w.setCell ⟨b,j,none⟩ v) F:=
 ⟨rfl,rfl,rfl,by simp,λk J I=>Below.heap_setCell w ⟨b,j,none⟩ v k (λe=>I (e▸d)),λ_ h=> .inl h⟩
def Ykj{P}(h:P:=by
 have w1:IntKind.i64.wrap (2*(k:Int))=2*(k:Int):=by rw [IntKind.wrap_i64];omega
 have w2:IntKind.i64.wrap (2+2*(k:Int))=2+2*(k:Int):=by rw [IntKind.wrap_i64];omega
 have w3:IntKind.i64.wrap (2+2*(k:Int)+1)=2+2*(k:Int)+1:=by rw [IntKind.wrap_i64];omega
 exact And.intro w1 (And.intro w2 w3)):=h
def YO{P}(h:P:=by
 have d:k<n.Ab.length:=by rw [aX.out];exact ae
 exact d):=h
def Ymm{P}(h:P:=by
 have d:=An.new w 100 [.slice V n.keys.length ag, .slice O n.Ab.length af, .slice aa n.kids.length ci, .int .u64 n.size];exact d):=h
def Ynl{P}(h:P:=by
 have d:=aP wr U.out;have I:=aH wr U.out;exact And.intro d I):=h
theorem NK{v:Value}{n:BN}(h:CX w F v n)(t:Nat)(aR:BN.A1 t)(aC:n.Fits t):
 Calls prog 123 #[.int .i64 t,v] w (Rn w (n.wd t)):=by
 obtain⟨⟨V,ag,O,af,aa,ci,rfl,k1,k2,a5⟩,l1,l2,l3⟩:=h;have a6:=OM;have a7:=Zh (λk (aw:k<n.keys.length)=>k1.num aw);have a8:=Zh (λk (aw:k<n.Ab.length)=>k2.num aw);have bB:=Zh (λk (aw:k<n.kids.length)=>a5.num aw);have bC:=Zh aC;have t2:=aR.2;have t1:=aR.1;have bR:=aC.1;have aX:=Zh aC.2.1;have bS:n.kids.length<=2*t:=by
  rcases aC.2.2 with h|h
  . rw [h];simp
  . have:=h.1;omega
 have bT:IntKind.u64.wrap (n.keys.length:Int)=(n.keys.length:Int):=Js (by omega);have aS:=Ymm;have aT:=Yjk;have a9:=WS (6*t) (by omega);push_cast at a9;obtain⟨aK,J⟩:=Zx (w.alloc (Obj.cells #[.slice V n.keys.length ag, .slice O n.Ab.length af, .slice aa n.kids.length ci, .int .u64 n.size] 100));rw [show(Obj.cells ([.slice V n.keys.length ag, .slice O n.Ab.length af, .slice aa n.kids.length ci, .int .u64 n.size]:List Value).toArray 100)=(Obj.cells #[.slice V n.keys.length ag, .slice O n.Ab.length af, .slice aa n.kids.length ci, .int .u64 n.size] 100) from rfl,<-J] at aS;rw [<-J] at aT;have bD:aK.heap.size=w.heap.size+1:=by rw [J];simp
 have au:=SW aK (6*t);obtain⟨aj,ab⟩:=Zx (aK.alloc (.cells (Array.replicate (6*t) (Value.int .u64 0)) 22));rw [<-ab] at au;have ar:An aj w.heap.size 100 [.slice V n.keys.length ag, .slice O n.Ab.length af, .slice aa n.kids.length ci, .int .u64 n.size]:=by rw [ab];exact aS.alloc _
 have aJ:Below w.heap.size w aj:=by rw [ab];exact aT.alloc (by omega) _
 obtain⟨bn,Z⟩:=Zx w.heap.size;obtain⟨b,ba⟩:=Zx aK.heap.size;rw [<-Z] at ar;rw [<-ba] at au;have bb :Hid (b=w.heap.size+1):=Zh (by omega);have ae:b<aj.heap.size:=au.lt;have az:w.heap.size<=b:=by omega
 have aq:bn≠b:=by omega
 have bc:BN.FR t n 0=List.replicate (6*t) 0:=BN.WT t n;rw [<-bc] at au;obtain⟨bd,be,bf⟩:=EW;obtain⟨bg,aL,aU⟩:=OT;clear k1 k2 a5 aS aT bD J ab Z ba au ar aJ bc aC aR;go_enter func123,ntmps123;go_wp2;rw [<-bd.out,<-be.out,<-bb.out,<-bf.out];have c0:=λX:Kp aj (λk=>k=b)=>Kp.cell (aL.at' (i:=0) rfl) aq X
 have c3:=λX:Kp aj (λk=>k=b)=>Kp.cell (aL.at' (i:=3) rfl) aq X
 clear bd be bf bb a9;refine IH (λw' => ∃X:Kp aj (λk=>k=b),w' =X.W) [0,1,2,3,4,5,6,7,8] [9,10,11] a6 (by kernel_rfl) rfl (by kernel_rfl) (Kp.start _ _) (λ_ _ d _ _ h=>by cases d<;>exact h) ?_
 iterate 8 (refine CJ _ _ rfl rfl (by rintro _ ⟨X,rfl⟩;go_simp;exact rfl) ?_;go_simp)
 refine CJ _ _ rfl rfl (by rintro _ ⟨X,rfl⟩;go_simp;first|exact rfl|rw [if_pos (by omega)]) ?_
 go_simp;refine KP ?_;clear c0 c3;have am:Below aj.heap.size aj aj.drew:=Ac aj
 change FQ _ _ _ _ _ _ aj.drew
 have aA:=bg.below am;have bh:=aL.below am;have bj:=aU.trans (am.mono aU.size);have bk:Ad aj (λk=>k=b) aj.drew (λk=>k=b):=Ad.below am;clear am;generalize aj.drew=al at*;have aM:al.cell? ⟨b,0,none⟩=some (.int .u64 0):=aA.at' (i:=0) (by unfold BB;rw [List.getElem?_map,BN.Hq _ _ _ _ (by omega)];rfl);have q1:al.cell? ⟨b,1,none⟩=some (.int .u64 0):=aA.at' (i:=1) (by unfold BB;rw [List.getElem?_map,BN.Hq _ _ _ _ (by omega)];rfl);have aD:al.frozen? ⟨b,0,none⟩=false:=aA.free 0;have aV:al.frozen? ⟨b,1,none⟩=false:=aA.free 1;have aW:=Zh ((aA.set 0 (.int .u64 n.keys.length)).set 1 (.int .u64 n.size));have aN:=Zh ((bh.other (p:=⟨b,0,none⟩) aq (.int .u64 n.keys.length)).other (p:=⟨b,1,none⟩) aq (.int .u64 n.size));have aY:=Zh ((bj.setCell (p:=⟨b,0,none⟩) az (.int .u64 n.keys.length)).setCell (p:=⟨b,1,none⟩) az (.int .u64 n.size));have ao:=Zh bk;clear aA bh bj bk bg aL aU;refine DX _ rfl (λbE aE=> ?_);go_wp2;refine aE _ _ ⟨⟨_,_,ao.trans (Ad.LX (F:=λk=>k=b) rfl 0 _)⟩,rfl⟩ ?_;refine DX _ rfl (λbF aF=> ?_);go_wp2;refine aF _ _ ⟨⟨_,_,ao.trans (Ad.LX (F:=λk=>k=b) rfl 0 _)⟩,rfl⟩ ?_;refine DX _ rfl (λbG aG=> ?_);go_wp2;refine aG _ _ ⟨⟨_,_,(ao.trans (Ad.LX (F:=λk=>k=b) rfl 0 _)).trans (Ad.LX (F:=λk=>k=b) rfl 1 _)⟩,rfl⟩ ?_;refine Mb ?_;obtain⟨bH,bm⟩:=Zx ((al.setCell ⟨b,0,none⟩ (.int .u64 n.keys.length)).setCell ⟨b,1,none⟩ (.int .u64 n.size));rw [<-bm] at aW aN aY ⊢;have bo:Hid (An bH b 22 (BB (BN.FR t n (2+2*0)))):=Zh (by
  have ai:=aW.out;rw [FC,FC,show n.keys.length=n.Dm t 0 from rfl,BN.Hw (by omega),show n.size=n.Dm t 1 from rfl,BN.Hw (by omega)] at ai;exact ai)
 have d0:=aN.at' (i:=0) rfl;clear aW bm aM q1 aD aV ao aE aF aG;go_wp2_with fail
 go_loopw [25] (λax wr=> ∃k:Nat,k<=n.keys.length/\ax= .int .i64 k/\Hid (An wr b 22 (BB (BN.FR t n (2+2*k))))/\Hid (An wr bn 100 [.slice V n.keys.length ag, .slice O n.Ab.length af, .slice aa n.kids.length ci, .int .u64 n.size])/\Hid (Below w.heap.size w wr)) (λax _=>n.keys.length-(intOf ax).toNat)
 case atStart=>exact⟨0,by omega,rfl,bo,aN,aY⟩
 case round=>
  obtain⟨k,aw,rfl,an,Z,U⟩:=hrel;clear d0 bo aN aY;by_cases ae:k<n.keys.length
  . have bp:=YO
    obtain⟨bI,ok,bJ,bU,aP⟩:=a7.out k ae;obtain⟨bv,bV,bK,bW,aH⟩:=a8.out k bp;obtain⟨bq,br⟩:=Ynl;have aZ:Hid (n.Dm t (2+2*k)=n.keys[k]):=Zh (by rw [BN.QA (by omega),List.getD_eq_getElem?_getD,List.getElem?_eq_getElem ae];rfl);have a0:Hid (n.Dm t (2+2*k+1)=n.Ab[k]):=Zh (by rw [BN.Qj (by omega),List.getD_eq_getElem?_getD,List.getElem?_eq_getElem bp];rfl);subst bJ bK;generalize n.keys[k]=aB at*;generalize n.Ab[k]=aO at*;have c0:=(λX:Kp wr (λk=>k=b)=>Kp.cell (Z.at' (i:=0) rfl) aq X);have c1:=(λX:Kp wr (λk=>k=b)=>Kp.cell (Z.at' (i:=1) rfl) aq X);obtain⟨w1,w2,_⟩:=Ykj;have bL:bI≠b:=(by omega);have bM:bv≠b:=(by omega);have c2:=(λX:Kp wr (λk=>k=b)=>Kp.cell bq bL X);have c3:=(λX:Kp wr (λk=>k=b)=>Kp.cell br bM X);clear aP aH bq br;go_wp2;refine IH (λw' => ∃X:Kp wr (λk=>k=b),w' =X.W) [0,1,2,3,4,5,6,7,8,9,10,11,12,13,14,15,16,17,18,19] [20,21,22] a6 (by kernel_rfl) rfl (by kernel_rfl) (Kp.start _ _) (λ_ _ d _ _ h=>by cases d<;>exact h) ?_
    iterate 12 (refine CJ _ _ rfl rfl (by rintro _ ⟨X,rfl⟩;go_simp;exact rfl) ?_;go_simp)
    refine CJ _ _ rfl rfl (by rintro _ ⟨X,rfl⟩;go_simp;first|exact rfl|rw [if_pos (by omega)]) ?_
    go_simp
    iterate 4 (refine CJ _ _ rfl rfl (by rintro _ ⟨X,rfl⟩;go_simp;exact rfl) ?_;go_simp)
    refine CJ _ _ rfl rfl (by rintro _ ⟨X,rfl⟩;go_simp;first|exact rfl|rw [if_pos (by omega)]) ?_
    go_simp;refine CJ _ _ rfl rfl (by rintro _ ⟨X,rfl⟩;go_simp;exact rfl) ?_;go_simp;refine CJ _ _ rfl rfl (by rintro _ ⟨X,rfl⟩;go_simp;first|exact rfl|rw [if_pos (by omega)]) ?_
    go_simp;refine KP ?_;clear c0 c1 c2 c3;have am:Below wr.heap.size wr wr.drew:=Ac wr
    change FQ _ _ _ _ _ _ wr.drew
    have ay:=an.below am;have bs:=Z.below am;have aI:=U.trans (am.mono U.size);have bu:Ad wr (λk=>k=b) wr.drew (λk=>k=b):=Ad.below am;clear am;generalize wr.drew=al at*;have aM:al.cell? ⟨b,2+2*k,none⟩=some (.int .u64 0):=ay.at' (i:=2+2*k) (by unfold BB;rw [List.getElem?_map,BN.Hq _ _ _ _ (by omega),if_neg (by omega)];rfl);have q1:al.cell? ⟨b,2+2*k+1,none⟩=some (.int .u64 0):=ay.at' (i:=2+2*k+1) (by unfold BB;rw [List.getElem?_map,BN.Hq _ _ _ _ (by omega),if_neg (by omega)];rfl);have aD:al.frozen? ⟨b,2+2*k,none⟩=false:=ay.free _;have aV:al.frozen? ⟨b,2+2*k+1,none⟩=false:=ay.free _;have bN:(al.setCell ⟨b,2+2*k,none⟩ (.int .u64 aB)).frozen? ⟨b,2+2*k+1,none⟩=false:=(ay.set (2+2*k) (.int .u64 aB)).free (2+2*k+1);have ac:Hid (An ((al.setCell ⟨b,2+2*k,none⟩ (.int .u64 aB)).setCell ⟨b,2+2*k+1,none⟩ (.int .u64 aO)) b 22 (BB (BN.FR t n (2+2*(k+1))))):=Zh (by
     have ai:=(ay.set (2+2*k) (.int .u64 aB)).set (2+2*k+1) (.int .u64 aO);rw [FC,FC,<-aZ.out,BN.Hw (by omega),<-a0.out,BN.Hw (by omega)] at ai;rw [aZ.out,a0.out] at ai;exact ai)
    have ah:=Zh ((bs.other (p:=⟨b,2+2*k,none⟩) aq (.int .u64 aB)).other (p:=⟨b,2+2*k+1,none⟩) aq (.int .u64 aO));have I:=Zh ((aI.setCell (p:=⟨b,2+2*k,none⟩) az (.int .u64 aB)).setCell (p:=⟨b,2+2*k+1,none⟩) az (.int .u64 aO));have ao:=Zh bu;clear ay bs aI bu an Z U aZ a0;refine DX _ rfl (λbE aE=> ?_);go_wp2
    . exact absurd (‹al.frozen? ⟨b,2+2*k,none⟩=true›) (by rw [aD];simp)
    refine aE _ _ ⟨⟨_,_,ao.trans (Ad.LX (F:=λk=>k=b) rfl (2+2*k) _)⟩,rfl⟩ ?_;refine DX _ rfl (λbF aF=> ?_);go_wp2;refine aF _ _ ⟨⟨_,_,ao.trans (Ad.LX (F:=λk=>k=b) rfl (2+2*k) _)⟩,rfl⟩ ?_;refine DX _ rfl (λbG aG=> ?_);go_wp2;refine aG _ _ ⟨⟨_,_,(ao.trans (Ad.LX (F:=λk=>k=b) rfl (2+2*k) _)).trans (Ad.LX (F:=λk=>k=b) rfl (2+2*k+1) _)⟩,rfl⟩ ?_;refine Mb ?_;clear aM q1 aD aV bN ao aE aF aG;exact Yek
  . obtain rfl:k=n.keys.length:=by omega
    have bw:Hid (An wr b 22 (BB (BN.FR t n (4*t+0)))):=Zh (by have ai:=an.out;rw [BN.Xl bC.out] at ai;exact ai);have d2:=Z.at' (i:=2) rfl;have aI:=Zh U.out;clear an Z U a7 a8 ae;go_wp2_with fail
    go_loopw [53] (λax wr=> ∃k:Nat,k<=n.kids.length/\ax= .int .i64 k/\Hid (An wr b 22 (BB (BN.FR t n (4*t+k))))/\Hid (Below w.heap.size w wr)) (λax _=>n.kids.length-(intOf ax).toNat)
    case atStart=>exact⟨0,by omega,rfl,bw,aI⟩
    case round=>
     obtain⟨k,aw,rfl,an,U⟩:=hrel;clear d2 bw aI;by_cases ae:k<n.kids.length
     . skip
       obtain⟨bi,bX,bO,bY,bz⟩:=bB.out k ae;have bZ:=bz wr U.out;have a1:Hid (n.Dm t (4*t+k)=n.kids[k]):=Zh (by rw [BN.MN t1,List.getD_eq_getElem?_getD,List.getElem?_eq_getElem ae];rfl);subst bO;generalize n.kids[k]=a2 at*;have aM:wr.cell? ⟨b,4*t+k,none⟩=some (.int .u64 0):=an.at' (i:=4*t+k) (by unfold BB;rw [List.getElem?_map,BN.Hq _ _ _ _ (by omega),if_neg (by omega)];rfl);have aD:wr.frozen? ⟨b,4*t+k,none⟩=false:=an.free _;have w1:IntKind.i64.wrap (4*(t:Int))=4*(t:Int):=(by rw [IntKind.wrap_i64];omega);have w2:IntKind.i64.wrap (4*(t:Int)+(k:Int))=4*(t:Int)+(k:Int):=(by rw [IntKind.wrap_i64];omega);have ac:Hid (An (wr.setCell ⟨b,4*t+k,none⟩ (.int .u64 a2)) b 22 (BB (BN.FR t n (4*t+(k+1))))):=Zh (by
        have ai:=an.set (4*t+k) (.int .u64 a2);rw [FC,<-a1.out,BN.Hw (by omega)] at ai;rw [a1.out] at ai;exact ai)
       have I:=Zh (U.setCell (p:=⟨b,4*t+k,none⟩) az (.int .u64 a2));clear bz an U a1;go_wp2;exact Ycu
     . obtain rfl:k=n.kids.length:=by omega
       have bP:=Zh (VG (some ⟨b,0,none⟩) (6*t) (6*t));have ac:Hid (An wr b 22 (BB (n.wd t))):=Zh (by have ai:=an.out;rw [BN.Xi t1] at ai;exact ai);have I:=Zh U.out;clear an U;go_wp2_with fail;refine(bP _).mono ?_;rintro e a3 ⟨rfl,a4⟩;have aQ:Below wr.heap.size wr a3:=(by rw [a4];exact(Below.refl _ _).alloc (Nat.le_refl _) _);have bA:a3.cell? ⟨wr.heap.size,0,none⟩=some (.slice (some ⟨b,0,none⟩) (6*t) (6*t)):=(by rw [a4];go_simp);have bQ:Hid (Rn w (n.wd t) (.returned (.func (.func 173) #[] #[.pointer (some ⟨wr.heap.size,0,none⟩)])) a3):=Zh ⟨b,wr.heap.size,rfl,az,I.size,by rw [BN.B6];exact bA,λj u hu=>(ac.below aQ).at' hu,(ac.below aQ).lt,I.trans (aQ.mono I.size)⟩;clear a4 aQ bA;go_wp2;go_ret;exact bQ.out
attribute [local go_sem] Oper.semAt_some Ea
def B0(b bx:Nat)(A B:World):Prop:=A.heap.size<=B.heap.size/\B.heap[b]? =A.heap[b]? /\B.heap[bx]? =A.heap[bx]?
theorem B0.trans{C:World}(h:B0 b bx A B)(k:B0 b bx B C):B0 b bx A C:=⟨Nat.le_trans h.1 k.1,k.2.1.trans h.2.1,k.2.2.trans h.2.2⟩
theorem B0.refl(b bx:Nat)(A:World):B0 b bx A A:=⟨Nat.le_refl _,rfl,rfl⟩
theorem B0.Ar{F':Nat->Prop}(h:Ad A F B F')(h1:b<A.heap.size)(d:bx<A.heap.size)(f1: ¬F b)(f2: ¬F bx):B0 b bx A B:=⟨h.size,h.keep b h1 f1,h.keep bx d f2⟩
theorem B0.put{l:Nat}(W:World)(o:Obj)(h1:b≠l)(d:bx≠l):B0 b bx W (W.putObj l o):=⟨by simp,World.putObj_heap_other h1,World.putObj_heap_other d⟩
theorem Np{ws:List Nat}(hx:w.cell? ⟨bx,0,none⟩=some (.slice (some ⟨b,0,none⟩) ws.length ws.length))(U: ∀j u,(BB ws)[j]? =some u->w.cell? ⟨b,j,none⟩=some u)(V:b<w.heap.size)(ay:ws.length<=1000):
 SeqStopsK Fence.wide 8 prog 173 #[.pointer (some ⟨bx,0,none⟩)] (λz:{z:Nat // z<ws.length}=> #[.int .i64 z.1, .int .u64 (ws[z.1]'z.2:Nat)]) (B0 b bx) (λxs=>xs.map (·.1)=List.range ws.length) (λpre=> ∃t,List.range ws.length=pre.map (·.1)++t) ws.length w:=λl ah az W I aA aB J h0=>by
 have ai:=(I.cell (p:=⟨bx,0,none⟩) (Al hx)).trans hx;have aj:Hid (∀j (h:j<ws.length),W.cell? ⟨b,j,none⟩=some (.int .u64 (ws[j]:Nat))):=Zh (λj h=>(I.cell (p:=⟨b,j,none⟩) V).trans (U j _ (by simp [BB,h])));have al:=Zh h0;clear I hx U V h0;refine callsIn_of_wp func173 rfl trivial ?_ rfl;simp only [ntmps173,List.size_toArray,List.length_cons,List.length_nil,Nat.reduceAdd,Nat.reduceSub,Array.replicate_succ,Array.replicate_zero,List.push_toArray,List.append_toArray,List.nil_append,List.cons_append];gi_wp2_with fail
 gi_loopw [7] (λO wr=> ∃(pre:List {z:Nat // z<ws.length}) (i:Nat),i<=ws.length/\O= .int .i64 i/\Hid (pre.map (·.1)=List.range i)/\Hid (∀j (h:j<ws.length),wr.cell? ⟨b,j,none⟩=some (.int .u64 (ws[j]:Nat)))/\Hid (ah pre wr)) (λO _=>ws.length-(intOf O).toNat)
 case atStart=>exact⟨[],0,by omega,rfl,Zh rfl,aj,al⟩
 case round=>
  obtain⟨pre,i,hi,rfl,hp,Z,aa⟩:=hrel;by_cases d:i<ws.length
  . have am:=Z.out i d
    have aC:pre.length=i:=(by have:=congrArg List.length hp.out;simpa using this);have an:=Zh J;clear J ai;gi_wp2_with fail;obtain⟨fn,tmps,assign,body,ao,ab⟩:=an.out pre ⟨i,d⟩ _ aa (by omega);have aq:=Zh ab;clear ab;rw [ao];gi_wp2;refine(aq).mono ?_;have ac:Hid ((pre++ [(⟨i,d⟩:{z:Nat // z<ws.length})]).map (·.1)=List.range (i+1)):=Zh (by rw [List.map_append,hp.out,List.range_succ];rfl);rintro e ar (⟨rfl,ae,af⟩|⟨rfl,ag⟩)
    . have au:Hid (∀j (h:j<ws.length),ar.cell? ⟨b,j,none⟩=some (.int .u64 (ws[j]:Nat))):=Zh (λj h=>(World.cell?_of_block (a:=⟨b,j,none⟩) af.2.1).trans (Z j h))
      have aw:=Zh ae;clear ae af am;gi_wp2;go_roundw
      case rel=>exact⟨pre++ [⟨i,d⟩],i+1,by omega,by go_num,ac,au,aw⟩
      case measure=>simp [intOf];omega
    . have ax:=Zh ag
      clear ag;gi_wp2;refine bodyPost_ret (results_none rfl _ _ _) rfl ?_;refine⟨⟨_,rfl⟩, .inr ⟨_,⟨(List.range ws.length).drop (i+1), ?_⟩,ax⟩⟩;rw [ac.out];have:=List.take_append_drop (i+1) (List.range ws.length);rw [List.take_range,Nat.min_eq_left (by omega)] at this;exact this.symm
  . obtain rfl:i=ws.length:=by omega
    clear J;gi_wp2;go_end0;exact⟨⟨_,rfl⟩, .inl ⟨_,hp,aa⟩⟩
end Go.Proofs.YtiopopoohglepaaGreatDoor
namespace Go.Proofs.YtiopopoohglepaaGreatDoor
open Go.Proofs.Tryz
open Go.RowKit Go.Shelf
variable {l:List Pr}
def EG(l:List Pr)(k:ByteArray):Int:=if (l[AH l k]?).map (·.1)=some k then ((AH l k:Nat):Int) else-1
theorem VN{k:ByteArray}(h:AH l k<l.length):EG l k=if (l[AH l k]'h).1=k then ((AH l k:Nat):Int) else-1:=by
 unfold EG;simp only [List.getElem?_eq_getElem h,Option.map_some,Option.some.injEq]
theorem Wj{k:ByteArray}(h: ¬AH l k<l.length):EG l k= -1:=by
 unfold EG;simp only [List.getElem?_eq_none (Nat.le_of_not_lt h),Option.map_none,reduceCtorEq,if_false]
def Yep{P}(h:P:=by
 clear Z;go_wp2;go_ret;exact⟨by rw [d.out];rfl,ab⟩):=h
theorem Rp{w:World}{B c:Nat}{A:Option Addr}(h:DE w B A l)(U:B<=w.heap.size)(aa:l.length<=4398046511104)(hs:D5 l)(key:ByteArray)(ac:key.size<=9223372036854775807):
 Calls prog 23 #[.slice A l.length c, .string key] w λe w' =>e= .returned (.int .i64 (EG l key))/\Below w.heap.size w w' :=by
 have V:=Zh (Ms (c:=c) h U aa hs key ac);have hle:=Ds l key;have ae:=Zh (λh=>VN (l:=l) (k:=key) h);have af:=Zh (λh=>Wj (l:=l) (k:=key) h);have ag:=Zh h;generalize AH l key=n at*;by_cases J:n<l.length
 . have O:=SC l[n].1 key
   have d:=Zh (ae J);have hd:decide ((n:Int)<(l.length:Int))=true:=(by simp;omega);obtain⟨p,hp⟩: ∃p,l[n]=p:=⟨_,rfl⟩;have ah:=Zh (λW (ai:Below w.heap.size w W)=>by have:=(ag.below (ai.mono U)).at' J;rw [hp] at this;exact this);rw [hp] at O d;clear hp;by_cases I:p.1=key
   focus
    have aj:(p.1.toList==key.toList)=true:=(by rw [O];exact decide_eq_true I);rw [if_pos I] at d
   rotate_left
   focus
    have aj:(p.1.toList==key.toList)=false:=(by rw [O];exact decide_eq_false I);rw [if_neg I] at d
   all_goals
    clear O I h hs;go_enter func23,ntmps23;go_wp2_with fail;refine V.mono ?_;rintro e w1 ⟨rfl,Z⟩;obtain⟨b,o,rfl,_,c1,_⟩:=ah.out w1 Z;have ab:=Zh Z;exact Yep
 . have hd:decide (n<l.length)=false:=by simp;omega
   have d:=Zh (af J);clear h hs J;go_enter func23,ntmps23;go_wp2_with fail;refine V.mono ?_;rintro e w1 ⟨rfl,Z⟩;have ab:=Zh Z;exact Yep
theorem GY{k:ByteArray}: ∀{l:List Pr},AY l->(∀q∈l.take (AH l k),Tx.cmp q.1 k<0)/\(∀q∈l.drop (AH l k),¬Tx.cmp q.1 k<0)
 | [],_=>⟨λq d=>by simp at d,λq d=>by simp at d⟩
 |p::l,h=>by
  have I :=List.pairwise_cons.1 h;rw [GO];by_cases hp:Tx.cmp p.1 k<0
  . rw [if_pos hp,List.take_succ_cons,List.drop_succ_cons]
    obtain⟨h1,O⟩:=GY (k:=k) I.2;refine⟨λq d=> ?_,O⟩;rcases List.mem_cons.1 d with rfl|d
    . exact hp
    . exact h1 q d
  . have J: ∀q∈l,¬Tx.cmp q.1 k<0:=λq d e=>hp (Ec (I.1 q d) e)
    rw [if_neg hp,Eu J];refine⟨λq d=>by simp at d,λq d=> ?_⟩;rcases List.mem_cons.1 d with rfl|d
    . exact hp
    . exact J q d
theorem H9(h:AY l)(p:Pr):AY (C4 l p):=by
 obtain⟨h1,I⟩:=GY (k:=p.1) h;have hle:=Ds l p.1;unfold C4;generalize AH l p.1=n at*;have ID: ∀q∈l.drop (if (l[n]?).map (·.1)=some p.1 then n+1 else n),Tx.cmp p.1 q.1<0:=by
  intro q d;have ab:=K9 p.1 q.1;have U:AY (l.drop n):=List.Pairwise.sublist (List.drop_sublist n l) h;by_cases V:n<l.length
  . have hd:=List.drop_eq_getElem_cons V
    rw [List.getElem?_eq_getElem V] at d;simp only [Option.map_some,Option.some.injEq] at d;rw [hd] at U I;have Z :=List.pairwise_cons.1 U;by_cases he:l[n].1=p.1
    . rw [if_pos he] at d
      have:=Z.1 q d;rw [he] at this;exact this
    . rw [if_neg he,hd] at d
      have J:=I q d;have ac:=I l[n] List.mem_cons_self;rcases List.mem_cons.1 d with rfl|d
      . have:Tx.cmp l[n].1 p.1≠0:=λe=>he (Cp.1 e)
        omega
      . have aa:=Z.1 q d
        have:Tx.cmp l[n].1 p.1≠0:=(λe=>he (Cp.1 e));have ae:=K9 p.1 l[n].1;exact Ec (b:=l[n].1) (by omega) aa
  . rw [List.getElem?_eq_none (by omega)] at d
    simp only [Option.map_none,reduceCtorEq,if_false] at d;rw [List.drop_eq_nil_of_le (by omega)] at d;simp at d
 unfold AY;rw [List.pairwise_append,List.pairwise_cons];refine⟨List.Pairwise.sublist (List.take_sublist n l) h,⟨ID,List.Pairwise.sublist (List.drop_sublist _ l) h⟩,λa ha b O=> ?_⟩;have J:=h1 a ha;rcases List.mem_cons.1 O with rfl|O
 . exact J
 . exact Ec J (ID b O)
theorem Ip(l:List Pr):AY (BX l):=by
 unfold BX
 suffices h: ∀(l m:List Pr),AY m->AY (l.foldl C4 m) from h l [] List.Pairwise.nil
 intro l
 induction l with
 |nil=>exact λm h=>h
 |cons p l ih=>exact λm h=>ih (C4 m p) (H9 h p)
theorem K1.zero{R R' :Zr}{t:BT}(g:K1 R R' t)(h:R 0=none):R' 0=none:=by
 rw [g.old 0 (λe=>g.nz 0 e rfl),h]
structure It where
 kh:Nat
 vh:Nat
 k:ByteArray
 v:ByteArray
namespace It
def pr(i:It):Pr:=(i.k,i.v)
def hs(i:It):List Nat:= [i.kh,i.vh]
structure At(R:Zr)(i:It):Prop where
 kt:R i.kh=some (Tx.A8 i.k.data.toList)
 vt:R i.vh=some (Tx.A8 i.v.data.toList)
 ks:i.k.size<=1000
 vs:i.v.size<=1000
theorem At.congr{R R' :Zr}{i:It}(h:At R i)(e: ∀z∈i.hs,R' z=R z):At R' i:=
 ⟨(e _ (by simp [hs])).trans h.kt,(e _ (by simp [hs])).trans h.vt,h.ks,h.vs⟩
end It
structure Sb where
 h:Nat
 Aa:List It
 ns:List Nat
abbrev Lk:=It × Sb
namespace Bt
variable {R:Zr}{a b:List Pr}{lo t:Nat}{x:Pr}
def rest(l:List Lk):List It:=l.flatMap λp=>p.1::p.2.Aa
def Ah(c:Sb)(l:List Lk):List It:=c.Aa++rest l
def Ax(c:Sb)(l:List Lk):List Nat:=c.ns++l.flatMap λp=>p.2.ns
def Aj(c:Sb)(l:List Lk):BN:=⟨l.map (·.1.kh),l.map (·.1.vh),c.h::l.map (·.2.h),(Ah c l).length⟩
def Aq(l:List It):BN:=⟨l.map (·.kh),l.map (·.vh),[],l.length⟩
def At(R:Zr)(t:Nat):Nat->Nat->Sb->Prop
 |0,lo,s=>s.ns= [s.h]/\lo<=s.Aa.length/\KO R t s.h (Aq s.Aa)
 |a+1,lo,s=> ∃c l,s.Aa=Ah c l/\s.ns=s.h::Ax c l/\lo<=l.length/\KO R t s.h (Aj c l)/\At R t a (t-1) c/\ ∀p∈l,At R t a (t-1) p.2
theorem BU(p:Lk)(l:List Lk):rest (p::l)=p.1::(p.2.Aa++rest l):=by simp [rest]
theorem K4(l m:List Lk):rest (l++m)=rest l++rest m:=by simp [rest]
theorem BW(c:Sb)(p:Lk)(l:List Lk):Ah c (p::l)=c.Aa++(p.1::Ah p.2 l):=by simp [Ah,rest]
theorem BC(c:Sb)(p:Lk)(l:List Lk):Ax c (p::l)=c.ns++Ax p.2 l:=by simp [Ax]
theorem DA: ∀{a lo:Nat} {s:Sb},At R t a lo s->s.h∈s.ns
 |0,lo,s,h=>by rw [h.1];simp
 |a+1,lo,s,h=>by obtain⟨c,l,_,d,_⟩:=h;rw [d];simp
theorem At.congr{R':Zr}: ∀{a lo:Nat} {s:Sb},At R t a lo s->(∀x∈s.ns,R' x=R x)->At R' t a lo s
 |0,lo,s,h,e=>by
  obtain⟨h1,d,I,J⟩:=h;exact⟨h1,d,(e s.h (by rw [h1];simp)).trans I,J⟩
 |a+1,lo,s,h,e=>by
  obtain⟨c,l,h1,d,I,⟨J,O⟩,U,V⟩:=h;rw [d] at e;refine⟨c,l,h1,d,I,⟨(e s.h (by simp)).trans J,O⟩,U.congr λx hx=>e x ?_,λp hp=>(V p hp).congr λx hx=>e x ?_⟩
  . simp [Ax,hx]
  . simp only [Ax,List.mem_cons,List.mem_append,List.mem_flatMap]
    exact .inr (.inr ⟨p,hp,hx⟩)
theorem At.lower{a d:Nat}{s:Sb}(h:At R t a lo s)(I:d <=lo):At R t a d s:=by
 cases a with
 |zero=>exact⟨h.1,Nat.le_trans I h.2.1,h.2.2⟩
 |succ a=>obtain⟨c,l,h1,J,O,U⟩:=h;exact⟨c,l,h1,J,Nat.le_trans I O,U⟩
theorem At.node{a:Nat}{s:Sb}(h:At R t a lo s): ∃n,KO R t s.h n/\n.size=s.Aa.length:=by
 cases a with
 |zero=>exact⟨_,h.2.2,rfl⟩
 |succ a=>obtain⟨c,l,h1,I,J,d,_⟩:=h;exact⟨_,d,by rw [h1];rfl⟩
def Ap(c:Sb):List Lk->Nat->Sb
 |_,0=>c
 | [],_+1=>c
 |p::l,k+1=>Ap p.2 l k
def pre(c:Sb):List Lk->Nat->List It
 |_,0=> []
 | [],_+1=> []
 |p::l,k+1=>c.Aa++p.1::pre p.2 l k
def GJ(c:Sb):List Lk->Nat->Nat
 |_,0=>0
 | [],_+1=>0
 |p::l,k+1=>c.Aa.length+GJ p.2 l k
theorem Bw: ∀(c:Sb) (l:List Lk) (k:Nat),k<=l.length->Ah c l=pre c l k++((Ap c l k).Aa++rest (l.drop k))
 |c,l,0,_=>by cases l<;>rfl
 |c,[],k+1,h=>absurd h (by simp)
 |c,p::l,k+1,h=>by
  rw [BW,Bw p.2 l k (by simpa using h)];simp [pre,Ap]
theorem Of: ∀(c:Sb) (l:List Lk) (k:Nat),k<=l.length->(pre c l k).length=k+GJ c l k
 |c,l,0,_=>by cases l<;>rfl
 |c,[],k+1,h=>absurd h (by simp)
 |c,p::l,k+1,h=>by
  simp only [pre,GJ,List.length_append,List.length_cons,Of p.2 l k (by simpa using h)];omega
theorem EN: ∀(c:Sb) (l:List Lk) (k:Nat),k<=l.length->(c.h::l.map (·.2.h))[k]? =some (Ap c l k).h
 |c,l,0,_=>by cases l<;>rfl
 |c,[],k+1,h=>absurd h (by simp)
 |c,p::l,k+1,h=>EN p.2 l k (by simpa using h)
theorem HB{p:Sb->Prop}: ∀{c:Sb} {l:List Lk} (k:Nat),p c->(∀x∈l,p x.2)->p (Ap c l k)
 |c,l,0,h,_=>by cases l<;>exact h
 |c,[],k+1,h,_=>h
 |c,x::l,k+1,h,h2=>HB k (h2 x (by simp)) (λy d=>h2 y (by simp [d]))
theorem Ut: ∀(c:Sb) (l:List Lk) (k:Nat),k<l.length->GJ c l (k+1)=GJ c l k+(Ap c l k).Aa.length
 |c,[],k,h=>absurd h (by simp)
 |c,p::l,0,_=>by cases l<;>simp [GJ,Ap]
 |c,p::l,k+1,h=>by
  have:=Ut p.2 l k (by simpa using h);simp only [GJ,Ap] at this ⊢;omega
theorem U4: ∀(c:Sb) (l:List Lk) (k:Nat),Ap c l k=c\/ ∃p∈l,Ap c l k=p.2
 |c,l,0=>by cases l<;>exact .inl rfl
 |c,[],k+1=> .inl rfl
 |c,p::l,k+1=>by
  rcases U4 p.2 l k with h|⟨q,d,h⟩
  . exact .inr ⟨p,by simp,h⟩
  . exact .inr ⟨q,by simp [d],h⟩
theorem Pn: ∀(c:Sb) (l:List Lk) (k:Nat) (d:k<l.length),∃u,pre c l (k+1)=u++ [l[k].1]/\u=pre c l k++(Ap c l k).Aa
 |c,[],k,d=>absurd d (by simp)
 |c,p::l,0,d=>by
  refine⟨c.Aa, ?_, ?_⟩
  . cases l<;>simp [pre]
  . cases l<;>simp [pre,Ap]
 |c,p::l,k+1,d=>by
  obtain⟨u,h1,I⟩:=Pn p.2 l k (by simpa using d);refine⟨c.Aa++p.1::u, ?_, ?_⟩
  . show c.Aa++p.1::pre p.2 l (k+1)=_
    rw [h1];simp
  . rw [I];simp [pre,Ap]
def AI(l:List It):List Pr:=l.map It.pr
theorem Br(l m:List It):AI (l++m)=AI l++AI m:=by simp [AI]
theorem Bn(l:List It):(AI l).length=l.length:=by simp [AI]
theorem CQ(i:It)(l:List It):AI (i::l)=i.pr::AI l:=rfl
structure HH(l:List Lk)(key:ByteArray)(k:Nat):Prop where
 le:k<=l.length
 low: ∀i (h:i<l.length),i<k->Tx.cmp l[i].1.k key<0
 high: ∀i (h:i<l.length),k<=i-> ¬Tx.cmp l[i].1.k key<0
theorem NT{a b c:ByteArray}(h:Tx.cmp a b<0)(k: ¬0<Tx.cmp b c):Tx.cmp a c<0:=by
 by_cases h0:Tx.cmp b c=0
 . rw [<-Cp.1 h0];exact h
 . exact Ec h (by omega)
theorem IV{key:ByteArray}(h:AY (a++x::b))(hx: ¬0<Tx.cmp x.1 key): ∀p∈a,Tx.cmp p.1 key<0:=by
 intro p hp;have h1:=(List.pairwise_append.1 h).2.2 p hp x (by simp);exact NT h1 hx
theorem Ki{key:ByteArray}(h:AY (a++x::b))(hx: ¬Tx.cmp x.1 key<0): ∀p∈b,¬Tx.cmp p.1 key<0:=by
 intro p hp;have h1:=(List.pairwise_cons.1 (List.pairwise_append.1 h).2.1).1 p hp;intro d;exact hx (NT h1 (by omega))
section
variable {c:Sb} {l:List Lk} {key:ByteArray} {k:Nat}
theorem HH.pre(hs:HH l key k)(d:AY (AI (Ah c l))): ∀p∈AI (pre c l k),Tx.cmp p.1 key<0:=by
 have hle:=hs.le
 cases k with
 |zero=>intro p hp;cases l<;>simp [Bt.pre,AI] at hp
 |succ j=>
  obtain⟨u,h1,J⟩:=Pn c l j (by omega);have I:=hs.low j (by omega) (by omega);have hd:AY (AI u++l[j].1.pr::AI ((Ap c l (j+1)).Aa++rest (l.drop (j+1)))):=by
   rw [Bw c l (j+1) hle,h1] at d
   simpa [Br,CQ,AI] using d
  rw [h1,Br];intro p hp;rcases List.mem_append.1 hp with hp|hp
  . exact IV hd (by show¬0<Tx.cmp l[j].1.k key;omega) p hp
  . simp only [AI,List.map_cons,List.map_nil,List.mem_singleton] at hp
    rw [hp];exact I
theorem HH.post(hs:HH l key k)(I:AY (AI (Ah c l))): ∀p∈AI (rest (l.drop k)),¬Tx.cmp p.1 key<0:=by
 have hle:=hs.le;by_cases d:k<l.length
 . have hh:=hs.high k d (Nat.le_refl _)
   rw [List.drop_eq_getElem_cons d,BU,CQ];rw [Bw c l k hle,List.drop_eq_getElem_cons d,BU,<-List.append_assoc,Br,CQ] at I;intro p hp;rcases List.mem_cons.1 hp with rfl|hp
   . exact hh
   . exact Ki I hh p hp
 . rw [List.drop_eq_nil_of_le (by omega)]
   intro p hp;simp [rest,AI] at hp
theorem HH.Po(hs:HH l key k)(d:AY (AI (Ah c l))):AH (AI (Ah c l)) key=k+GJ c l k+AH (AI (Ap c l k).Aa) key:=by
 rw [Bw c l k hs.le,Br,Br,C3,C3,HX (hs.pre d),Eu (hs.post d),Bn,Of c l k hs.le];omega
theorem HH.RJ(hs:HH l key k)(d:AY (AI (Ah c l)))(I:k<l.length)(he:l[k].1.k=key): ∀p∈AI (Ap c l k).Aa,Tx.cmp p.1 key<0:=by
 rw [Bw c l k hs.le,List.drop_eq_getElem_cons I,BU,<-List.append_assoc,Br,CQ] at d;intro p hp;refine IV d ?_ p (by rw [Br];exact List.mem_append.2 (.inr hp))
 show¬0<Tx.cmp l[k].1.k key
 rw [he,(Cp.2 rfl:Tx.cmp key key=0)];omega
end
def Bb(l:List It)(key:ByteArray):Option It:=l.find? λi=>decide (i.k=key)
theorem D7(a b:List It)(key:ByteArray):Bb (a++b) key=(Bb a key).or (Bb b key):=by
 unfold Bb;rw [List.find?_append]
theorem Es{l:List It}{key:ByteArray}(h: ∀i∈l,i.k≠key):Bb l key=none:=by
 unfold Bb;rw [List.find?_eq_none];intro i hi
 simpa using h i hi
theorem FW{l:List It}{key:ByteArray}(h: ∀p∈AI l,Tx.cmp p.1 key<0): ∀i∈l,i.k≠key:=by
 intro i hi e;have:=h i.pr (List.mem_map.2 ⟨i,hi,rfl⟩);rw [show i.pr.1=key from e,(Cp.2 rfl:Tx.cmp key key=0)] at this;omega
section
variable {c:Sb} {l:List Lk} {key:ByteArray} {k:Nat}
theorem HH.here(hs:HH l key k)(d:AY (AI (Ah c l)))(I:k<l.length)(he:l[k].1.k=key):Bb (Ah c l) key=some l[k].1:=by
 rw [Bw c l k hs.le,D7,D7,Es (FW (hs.pre d)),Es (FW (hs.RJ d I he)),List.drop_eq_getElem_cons I,BU];simp [Bb,he]
def Ynk{P}(h:P:=by
 have h1:=(List.pairwise_cons.1 (List.pairwise_append.1 Z).2.1).1 i.pr (List.mem_map.2 ⟨i,hi,rfl⟩);exact h1):=h
theorem HH.gone(hs:HH l key k)(Z:AY (AI (Ah c l)))(he: ∀d:k<l.length,l[k].1.k≠key):Bb (Ah c l) key=Bb (Ap c l k).Aa key:=by
 rw [Bw c l k hs.le,D7,D7,Es (FW (hs.pre Z)),Option.none_or];rw [Es (l:=rest (l.drop k)),Option.or_none];intro i hi e;by_cases d:k<l.length
 . have hh:=hs.high k d (Nat.le_refl _)
   have I:=he d;rw [List.drop_eq_getElem_cons d,BU] at hi;rcases List.mem_cons.1 hi with rfl|hi
   . exact I e
   . rw [Bw c l k hs.le,List.drop_eq_getElem_cons d,BU,<-List.append_assoc,Br,CQ] at Z
     have h1:=Ynk;have J:Tx.cmp l[k].1.k key<0:=(by rw [<-e];exact h1);exact hh J
 . rw [List.drop_eq_nil_of_le (by omega)] at hi
   simp [rest] at hi
end
theorem Jb: ∀{l:List It} {key:ByteArray},AY (AI l)->Bb l key=(l[AH (AI l) key]?).filter λi=>decide (i.k=key)
 | [],key,_=>rfl
 |i::l,key,hr=>by
  obtain⟨h1,I⟩:=List.pairwise_cons.1 hr;rw [CQ,GO];by_cases d:Tx.cmp i.k key<0
  . have J:i.k≠key:=λe=>by rw [e,(Cp.2 rfl:Tx.cmp key key=0)] at d;omega
    rw [if_pos (show Tx.cmp i.pr.1 key<0 from d),List.getElem?_cons_succ,<-Jb I];simp [Bb,J]
  . rw [if_neg (show¬Tx.cmp i.pr.1 key<0 from d),Nat.add_zero,show AH (AI l) key=0 from Eu (λp hp O=>d (Ec (h1 p hp) O))]
    by_cases he:i.k=key
    . simp [Bb,he,Option.filter]
    . have U: ∀j∈l,j.k≠key:=λj V e=>by
       have:=h1 j.pr (List.mem_map.2 ⟨j,V,rfl⟩);rw [show j.pr.1=key from e] at this;exact d this
      have:=Es U;unfold Bb at this ⊢;simp [he,this,Option.filter]
theorem Df{l:List It}{key:ByteArray}(I:AY (AI l)):(EG (AI l) key=if (Bb l key).isSome then ((AH (AI l) key:Nat):Int) else-1)/\ ∀i,Bb l key=some i->l[AH (AI l) key]? =some i/\i.k=key:=by
 have h:=Jb (key:=key) I;constructor
 . unfold EG
   rw [h];have e:(AI l)[AH (AI l) key]? =(l[AH (AI l) key]?).map It.pr:=(by unfold AI;rw [List.getElem?_map]);rw [e]
   cases h1:l[AH (AI l) key]? with
   |none=>simp
   |some i=>
    by_cases d:i.k=key
    . simp [d,It.pr]
    . simp [d,It.pr]
 . intro i hi
   rw [h] at hi;have:=Option.filter_eq_some_iff.1 hi;exact⟨this.1,by simpa using this.2⟩
end Bt
def GF(f:Nat->Int):Nat->Nat->Nat->Nat
 |0,lo,_=>lo
 |m+1,lo,hi=>if lo<hi then (if f ((lo+hi)/2)<0 then GF f m ((lo+hi)/2+1) hi else GF f m lo ((lo+hi)/2)) else lo
theorem MJ(f:Nat->Int): ∀(m lo hi:Nat),lo<=hi->lo<=GF f m lo hi/\GF f m lo hi<=hi
 |0,lo,hi,h=>⟨Nat.le_refl _,h⟩
 |m+1,lo,hi,h=>by
  unfold GF
  split
  . split
    . have:=MJ f m ((lo+hi)/2+1) hi (by omega);omega
    . have:=MJ f m lo ((lo+hi)/2) (by omega);omega
  . omega
theorem LI(f:Nat->Int)(r:Nat): ∀(m lo hi:Nat),lo<=r->r<=hi->hi-lo<=m->(∀i,i<hi->i<r->f i<0)->(∀i,i<hi->r<=i-> ¬f i<0)->GF f m lo hi=r
 |0,lo,hi,h1,h2,h3,_,_=>by unfold GF;omega
 |m+1,lo,hi,h1,h2,h3,h4,h5=>by
  unfold GF
  split
  . next J=>
    split
    . next d=>
      have: ¬r<=(lo+hi)/2:=(λh=>h5 _ (by omega) h d);exact LI f r m _ hi (by omega) h2 (by omega) h4 h5
    . next d=>
      have: ¬(lo+hi)/2<r:=(λh=>d (h4 _ (by omega) h));exact LI f r m lo _ h1 (by omega) (by omega) (λi I =>h4 i (by omega)) (λi I =>h5 i (by omega))
  . omega
section
variable (R:Zr) (t:Nat)
def BH(x:Nat):ByteArray:=(G8 R x).getD ⟨#[]⟩
def JI(l:List Nat)(key:ByteArray)(i:Nat):Int:=Tx.cmp (BH R (l.getD i 0)) key
def DJ(l:List Nat)(key:ByteArray):Nat:=GF (JI R l key) l.length 0 l.length
def Gx(l:List Nat)(key:ByteArray):Bool:=decide (DJ R l key<l.length)&&decide (JI R l key (DJ R l key)=0)
def Cq(x:Nat):Int:=wrap64 (Ag R t x).size
def FK(l:List Nat)(below:Int):Int:=l.foldl (λb x=>wrap64 (b+Cq R t x)) below
def Bx(key:ByteArray):Nat->Nat->Int->Option (Nat × Nat) × Int
 |0,_,below=>(none,below)
 |f+1,x,below=>
  if Bm R t x≠0 then (none,below) else
  bstep (Ag R t x) (DJ R (Ag R t x).keys key) (Gx R (Ag R t x).keys key) below (Bx key f)
where
 bstep (n:BN) (k:Nat) (b:Bool) (below:Int) (rec:Nat->Int->Option (Nat × Nat) × Int):Option (Nat × Nat) × Int:=
  cond b
   (some (n.keys.getD k 0,n.Ab.getD k 0),if n.kids= [] then FK R t (n.kids.take k) (wrap64 (below+(k:Nat))) else wrap64 (FK R t (n.kids.take k) (wrap64 (below+(k:Nat)))+Cq R t (n.kids.getD k 0)))
   (if n.kids= [] then (none,FK R t (n.kids.take k) (wrap64 (below+(k:Nat)))) else rec (n.kids.getD k 0) (FK R t (n.kids.take k) (wrap64 (below+(k:Nat)))))
end
namespace Bt
variable {N a below i k lo r sk:Nat}{b:Bool}{ks:List It}{n:BN}
section
variable {R:Zr} {t:Nat}
theorem Kj{i:It}(h:i.At R):BH R i.kh=i.k:=by
 unfold BH G8;rw [h.kt];obtain⟨h1,d⟩:=Tx.GI i.k h.ks
 show(if Tx.Dd (Tx.A8 i.k.data.toList) then some (Tx.HQ (Tx.A8 i.k.data.toList)) else none).getD ⟨#[]⟩=_
 rw [if_pos h1,d];rfl
theorem Pv{α:Type}{l:List α}(hi:i<l.length)(h:r<=i):l[i]∈l.drop r:=by
 rw [List.mem_iff_getElem];exact⟨i-r,by rw [List.length_drop];omega,by simp [List.getElem_drop,Nat.add_sub_of_le h]⟩
theorem HD{α:Type}{l:List α}(hi:i<l.length)(h:i<r):l[i]∈l.take r:=by
 rw [List.mem_iff_getElem];exact⟨i,by rw [List.length_take];omega,by simp⟩
theorem MR(h:i<ks.length):(AI ks)[i]'(by rw [Bn];exact h)=ks[i].pr:=by simp [AI]
def Ycz{P}(h:P:=by
 unfold JI;rw [List.getD_eq_getElem?_getD,List.getElem?_map,List.getElem?_eq_getElem h]
 show Tx.cmp (BH R ks[i].kh) key=_
 rw [Kj (d _ (List.getElem_mem h))]):=h
theorem B4{key:ByteArray}(d: ∀i∈ks,i.At R)(O:AY (AI ks)):DJ R (ks.map (·.kh)) key=AH (AI ks) key:=by
 unfold DJ;obtain⟨h1,U⟩:=GY (k:=key) O;have hle:=Ds (AI ks) key;rw [Bn] at hle;have J: ∀i (h:i<ks.length),JI R (ks.map (·.kh)) key i=Tx.cmp ks[i].k key:=λi h=>by
  exact Ycz
 refine LI _ _ _ _ _ (Nat.zero_le _) (by simpa using hle) (by simp) (λi hi I=> ?_) (λi hi I=> ?_)
 . rw [List.length_map] at hi
   rw [J i hi];exact h1 ks[i].pr (MR hi▸HD (by rw [Bn];exact hi) I)
 . rw [List.length_map] at hi
   rw [J i hi];exact U ks[i].pr (MR hi▸Pv (by rw [Bn];exact hi) I)
theorem R7{key:ByteArray}(d: ∀i∈ks,i.At R)(h:i<ks.length):JI R (ks.map (·.kh)) key i=Tx.cmp ks[i].k key:=by
 exact Ycz
theorem Ev{key:ByteArray}(d: ∀i∈ks,i.At R)(I:AY (AI ks)):Gx R (ks.map (·.kh)) key=(Bb ks key).isSome:=by
 unfold Gx;rw [B4 d I,Jb I,List.length_map];by_cases h:AH (AI ks) key<ks.length
 . rw [List.getElem?_eq_getElem h,decide_eq_true h,Bool.true_and,R7 d h]
   by_cases he:ks[AH (AI ks) key].k=key
   . simp [Option.filter,he,Cp.2]
   . have:Tx.cmp ks[AH (AI ks) key].k key≠0:=λe=>he (Cp.1 e)
     simp [Option.filter,he,this]
 . rw [List.getElem?_eq_none (by omega),decide_eq_false h]
   rfl
theorem At.get(d:BN.A1 t){s:Sb}(h:At R t a lo s):Bm R t s.h=0/\(Ag R t s.h).size=s.Aa.length:=by
 obtain⟨n,h1,I⟩:=h.node;obtain⟨J,O⟩:=h1.get d;exact⟨O,by rw [J];exact I⟩
theorem At.Zm(d:BN.A1 t){s:Sb}(h:At R t a lo s)(I:s.Aa.length<4611686018427387904):Cq R t s.h=(s.Aa.length:Nat):=by
 unfold Cq;rw [(h.get d).2];exact IntWalk.wrap64_in _ (by omega)
theorem Qa(c:Sb): ∀(l:List Lk),c.Aa.length<=(Ah c l).length/\ ∀p∈l,p.2.Aa.length+1<=(Ah c l).length
 | []=>⟨by simp [Ah,rest],by simp⟩
 |q::l=>by
  obtain⟨h1,d⟩:=Qa q.2 l;rw [BW];simp only [List.length_append,List.length_cons];refine⟨by omega,λp hp=> ?_⟩;rcases List.mem_cons.1 hp with rfl|hp
  . omega
  . have:=d p hp;omega
theorem Mp: ∀(c:Sb) (l:List Lk) (k:Nat) (b:Nat),k<=l.length->Cq R t c.h=(c.Aa.length:Nat)->(∀p∈l,Cq R t p.2.h=(p.2.Aa.length:Nat))->b+GJ c l k<4611686018427387904->
 FK R t ((c.h::l.map (·.2.h)).take k) (b:Nat)=((b+GJ c l k:Nat):Int)
 |c,l,0,b,_,_,_,_=>by cases l<;>rfl
 |c,[],k+1,b,h,_,_,_=>absurd h (by simp)
 |c,p::l,k+1,b,h,h1,h2,h3=>by
  simp only [GJ] at h3;have d:=Mp p.2 l k (b+c.Aa.length) (by simpa using h) (h2 p (by simp)) (λq I=>h2 q (by simp [I])) (by omega);unfold FK at d ⊢;rw [List.take_succ_cons,List.foldl_cons,h1,<-Int.natCast_add,IntWalk.wrap64_in _ (by omega)];rw [show((p.2.h::l.map (·.2.h)).take k)=(((p::l).map (·.2.h))).take k from rfl] at d;rw [d];simp only [GJ]
  congr 1
  omega
theorem HS: ∀{c:Sb} {l:List Lk},AY (AI (Ah c l))->AY (AI (l.map (·.1)))
 |c,[],_=>List.Pairwise.nil
 |c,p::l,h=>by
  rw [BW,Br,CQ] at h;have h1:=(List.pairwise_append.1 h).2.1;obtain⟨d,I⟩:=List.pairwise_cons.1 h1;rw [List.map_cons,CQ];refine List.pairwise_cons.2 ⟨λq J=> ?_,HS I⟩;refine d q ?_;obtain⟨i,hi,rfl⟩:=List.mem_map.1 J;obtain⟨x,hx,rfl⟩:=List.mem_map.1 hi;refine List.mem_map.2 ⟨x.1, ?_,rfl⟩;refine List.mem_append.2 (.inr ?_);exact List.mem_flatMap.2 ⟨x,hx,by simp⟩
theorem keys_in{c:Sb}{l:List Lk}{i:It}(h:i∈l.map (·.1)):i∈Ah c l:=by
 obtain⟨x,hx,rfl⟩:=List.mem_map.1 h;exact List.mem_append.2 (.inr (List.mem_flatMap.2 ⟨x,hx,by simp⟩))
def Ypr{P}(h:P:=by
 have d:i<(l.map (·.1)).length:=by rw [List.length_map];exact hi
 exact d):=h
theorem N0{l:List Lk}{key:ByteArray}(O:AY (AI (l.map (·.1)))):HH l key (AH (AI (l.map (·.1))) key):=by
 obtain⟨h1,U⟩:=GY (k:=key) O;have hle:=Ds (AI (l.map (·.1))) key;rw [Bn,List.length_map] at hle;refine⟨hle,λi hi J=> ?_,λi hi J=> ?_⟩
 . have d:=Ypr
   have I:=h1 _ (HD (l:=AI (l.map (·.1))) (i:=i) (by rw [Bn];exact d) J);rw [MR d,List.getElem_map] at I;exact I
 . have d:=Ypr
   have I:=U _ (Pv (l:=AI (l.map (·.1))) (i:=i) (by rw [Bn];exact d) J);rw [MR d,List.getElem_map] at I;exact I
theorem Hj{c:Sb}{l:List Lk}(d:k<=l.length){i:It}(h:i∈(Ap c l k).Aa):i∈Ah c l:=by
 rw [Bw c l k d];exact List.mem_append.2 (.inr (List.mem_append.2 (.inl h)))
theorem DH{c:Sb}{l:List Lk}(I:k<=l.length)(d:AY (AI (Ah c l))):AY (AI (Ap c l k).Aa):=by
 rw [Bw c l k I,Br,Br] at d;exact(List.pairwise_append.1 (List.pairwise_append.1 d).2.1).1
theorem Rj{c:Sb}{l:List Lk}(d:k<=l.length):k+GJ c l k+(Ap c l k).Aa.length<=(Ah c l).length:=by
 rw [Bw c l k d,List.length_append,List.length_append,Of c l k d];omega
theorem Md{key:ByteArray}{f x:Nat}{below:Int}(d:Ag R t x=n)(I:Bm R t x=0)(J:DJ R n.keys key=k)(O:Gx R n.keys key=b):Bx R t key (f+1) x below=Bx.bstep R t n k b below (Bx R t key f):=by
 subst d J O
 conv=>lhs;unfold Bx
 rw [if_neg (by rw [I];simp)]
theorem Sv{rec:Nat->Int->Option (Nat × Nat) × Int}(h:n.kids= [])(d:below+k<4611686018427387904):Bx.bstep R t n k b below rec=(cond b (some (n.keys.getD k 0,n.Ab.getD k 0)) none,((below+k:Nat):Int)):=by
 unfold Bx.bstep;rw [h,if_pos rfl,if_pos rfl,List.take_nil];have:FK R t [] (wrap64 ((below:Int)+(k:Nat)))=((below+k:Nat):Int):=by
  unfold FK;rw [List.foldl_nil,<-Int.natCast_add,IntWalk.wrap64_in _ (by omega)]
 rw [this]
 cases b<;>rfl
theorem QD{sz Ap:Nat}{rec:Nat->Int->Option (Nat × Nat) × Int}(h:n.kids≠ [])(hs:FK R t (n.kids.take k) ((below+k:Nat):Int)=(sk:Int))(hg:n.kids.getD k 0=Ap)(d:Cq R t Ap=(sz:Int))(I:sk+sz<4611686018427387904)(J:below+k<4611686018427387904):
 Bx.bstep R t n k b below rec=cond b (some (n.keys.getD k 0,n.Ab.getD k 0),((sk+sz:Nat):Int)) (rec Ap (sk:Int)):=by
 unfold Bx.bstep;rw [if_neg h,if_neg h,<-Int.natCast_add,IntWalk.wrap64_in ((below+k:Nat):Int) (by omega),hs,hg,d,<-Int.natCast_add,IntWalk.wrap64_in ((sk+sz:Nat):Int) (by omega)]
theorem WO{n:Nat}(h1:k+sk+n<=N)(d:below+N<4611686018427387904):n<4611686018427387904/\below+k<4611686018427387904/\below+k+sk<4611686018427387904/\below+k+sk+n<4611686018427387904:=by omega
theorem NC{m:Nat}(h1:m<=N)(d:below+N<4611686018427387904):m<4611686018427387904:=by omega
def Ybq{P}(h:P:=by
 unfold Bb at V;rw [List.find?_eq_none] at V;exact absurd (V l[k].1 (List.mem_map.2 ⟨l[k],List.getElem_mem aa,rfl⟩)) (by simpa using e)):=h
def Ydz{P}(h:P:=by
 rw [List.getElem?_eq_none (Nat.le_of_not_lt I)] at g1
 cases g1):=h
def Y3{P}(h:P:=by
 have I:=HS d;have O: ∀i∈l.map (·.1),i.At R:=λi hi=>J i (keys_in hi)
 have U:=N0 (key:=key) I;have V:=B4 (key:=key) O I;exact And.intro I (And.intro O (And.intro U V))):=h
def Yra{P}(h:P:=by
 have d: ∀aa :k<l.length,l[k].1.k≠key:=λaa e=>by
  exact Ybq
 exact d):=h
theorem QN(U:BN.A1 t)(key:ByteArray): ∀(a lo f:Nat) (s:Sb) (below:Nat),At R t a lo s->(∀i∈s.Aa,i.At R)->AY (AI s.Aa)->a<f->below+s.Aa.length<4611686018427387904->
 Bx R t key f s.h (below:Nat)=((Bb s.Aa key).map (λi=>(i.kh,i.vh)),((below+AH (AI s.Aa) key:Nat):Int)):=by
 intro a
 induction a with
 |zero=>
  intro lo f s below h J d ag Z;obtain⟨f,rfl⟩: ∃g,f=g+1:=⟨f-1,by omega⟩;obtain⟨ac,ae⟩:=h.2.2.get U;have hle:=Ds (AI s.Aa) key;rw [Bn] at hle;rw [Md ac ae (B4 J d) (Ev J d),Sv rfl (by omega)]
  cases V:Bb s.Aa key with
  |none=>rfl
  |some i=>
   obtain⟨h1,_⟩:=(Df d).2 i V;simp only [Aq,Option.isSome_some,cond_true,Option.map_some,List.getD_eq_getElem?_getD,List.getElem?_map,h1,Option.getD_some]
 |succ a ih=>
  intro lo f s below h J d ag Z;obtain⟨f,rfl⟩: ∃g,f=g+1:=⟨f-1,by omega⟩;obtain⟨c,l,h1,aE,aF,au,ah,ai⟩:=h;obtain⟨ac,ae⟩:=au.get U;rw [h1] at J d Z ⊢;obtain⟨aj,aw,O,af⟩:=Y3;have al:=Ev (key:=key) aw aj;rw [List.map_map] at af al;have am:=λi=>(Df (key:=key) aj).2 i
  generalize AH (AI (l.map (·.1))) key=k at O af am;have ab:=O.le;have an:=HB k ah ai;have ax:=Rj (c:=c) ab;have hlen:=Qa c l;obtain⟨b1,b2,ay,ao⟩:=WO ax Z;have aq:Cq R t c.h=(c.Aa.length:Nat):=ah.Zm U (NC hlen.1 Z);have ar: ∀p∈l,Cq R t p.2.h=(p.2.Aa.length:Nat):=λp hp=>(ai p hp).Zm U (NC (Nat.le_trans (Nat.le_succ _) (hlen.2 p hp)) Z)
  have az:=Mp c l k (below+k) ab aq ar ay;have aA:=EN c l k ab;have aB:=an.Zm U b1;have aC:=ih (t-1) f (Ap c l k) (below+k+GJ c l k) an (λi hi=>J i (Hj ab hi)) (DH ab d) (Nat.lt_of_succ_lt_succ ag) ao;clear aq ar hlen ih;rw [Md ac ae af al,QD (by simp [Aj]) az (by show(c.h::l.map (·.2.h)).getD k 0=_;rw [List.getD_eq_getElem?_getD,aA];rfl) aB ao b2]
  cases V:Bb (l.map (·.1)) key with
  |some i=>
   obtain⟨g1,g2⟩:=am i V;rw [List.getElem?_map] at g1;by_cases I:k<l.length
   . rw [List.getElem?_eq_getElem I] at g1
     simp only [Option.map_some,Option.some.injEq] at g1;rw [O.here d I (by rw [g1];exact g2),O.Po d,HX (O.RJ d I (by rw [g1];exact g2)),Bn];simp only [Aj,Option.isSome_some,cond_true,List.getD_eq_getElem?_getD,List.getElem?_map,List.getElem?_eq_getElem I,Option.map_some,Option.getD_some];rw [Nat.add_assoc below k,Nat.add_assoc below]
   . exact Ydz
  |none=>
   have aD:=Yra;rw [O.gone d aD,O.Po d];simp only [Option.isSome_none,cond_false];rw [aC];rw [Nat.add_assoc below k,Nat.add_assoc below]
end
end Bt
section
variable (R:Zr) (t:Nat)
def EO(x:Nat)(n:BN):Nat:=if¬n.Fits t then 2 else match R x with|none=>7|some ws=>if ws.length=6*t then 0 else 8
def Bq(x:Nat)(n:BN):Zr:=if EO R t x n=0 then AT R x (some (n.wd t)) else R
end
namespace BN
def Dy(n:BN)(k a b:Nat):BN:=⟨n.keys.take k++a::n.keys.drop k,n.Ab.take k++b::n.Ab.drop k,n.kids,n.size⟩
def FX(n:BN)(k r:Nat):BN:=⟨n.keys,n.Ab,n.kids.take k++r::n.kids.drop k,n.size⟩
def more(n:BN):BN:=⟨n.keys,n.Ab,n.kids,(n.size+1)%18446744073709551616⟩
end BN
def DG(R:Zr)(t:Nat)(st:List Nat)(n:BN):(Zr) × List Nat × Nat:=
 match st with
 | []=>(R,[],0)
 |x::st=>(Bq R t x n,st,x)
def DM(R:Zr)(t:Nat)(kids:List Nat)(b:Nat):Nat:=kids.foldl (λb x=>(b+(Ag R t x).size)%18446744073709551616) b
def Ee(R:Zr)(t:Nat)(n:BN):BN:=⟨n.keys.drop (t+1),n.Ab.drop (t+1),n.kids.drop (t+1),DM R t (n.kids.drop (t+1)) (n.keys.length-(t+1))⟩
def leftOf(t:Nat)(n:BN)(rs:Nat):BN:=⟨n.keys.take t,n.Ab.take t,n.kids.take (t+1),(n.size+36893488147419103232-rs-1)%18446744073709551616⟩
def B7(R:Zr)(t h:Nat)(st:List Nat)(n:BN):(Zr) × List Nat × Option (Nat × Nat × Nat):=
 if n.keys.length<2*t then (Bq R t h n,st,none)
 else
  let p:=DG (Bq R t h (leftOf t n (Ee R t n).size)) t st (Ee R t n)
  (p.1,p.2.1,some (n.keys.getD t 0,n.Ab.getD t 0,p.2.2))
def D4(t:Nat)(key:ByteArray)(ak av:Nat):Nat->(Zr)->List Nat->Nat->(Zr) × List Nat × Option (Nat × Nat × Nat)
 |0,R,st,_=>(R,st,none)
 |f+1,R,st,h=>
  if Bm R t h≠0 then (R,st,none)
  else if (Ag R t h).kids= [] then B7 R t h st ((Ag R t h).Dy (DJ R (Ag R t h).keys key) ak av).more
  else
   let p:=D4 t key ak av f R st ((Ag R t h).kids.getD (DJ R (Ag R t h).keys key) 0)
   match p.2.2 with
   |none=>B7 p.1 t h p.2.1 (Ag R t h).more
   |some (a,b,r)=>B7 p.1 t h p.2.1 (((Ag R t h).Dy (DJ R (Ag R t h).keys key) a b).FX (DJ R (Ag R t h).keys key+1) r).more
def Cb(R:Zr)(t:Nat)(key:ByteArray):Nat->Nat->List Bool
 |0,_=> []
 |f+1,h=>
  if Bm R t h≠0 then []
  else decide (2*t-1<=(Ag R t h).keys.length)::if (Ag R t h).kids= [] then [] else Cb R t key f ((Ag R t h).kids.getD (DJ R (Ag R t h).keys key) 0)
def CM:List Bool->Nat
 | []=>0
 |b::p=>if p.all id then p.length+(if b then 1 else 0) else CM p
theorem B9{R:Zr}{t x:Nat}{n:BN}(d:n.Fits t){ws:List Nat}(I:R x=some ws)(J:ws.length=6*t):Bq R t x n=AT R x (some (n.wd t)):=by
 have e:EO R t x n=0:=by
  unfold EO;rw [if_neg (by simpa using d),I];simp [J]
 unfold Bq;rw [if_pos e]
namespace Bt
variable {i:It}
def AM(c:Sb):List Lk->Nat->Sb->Sb × List Lk
 |l,0,s=>(s,l)
 | [],_+1,_=>(c,[])
 |p::l,k+1,s=>(c,(p.1,(AM p.2 l k s).1)::(AM p.2 l k s).2)
def Cg(c:Sb):List Lk->Nat->Sb->It->Sb->Sb × List Lk
 |l,0,s,m,r=>(s,(m,r)::l)
 | [],_+1,_,_,_=>(c,[])
 |p::l,k+1,s,m,r=>(c,(p.1,(Cg p.2 l k s m r).1)::(Cg p.2 l k s m r).2)
theorem Ew: ∀(c:Sb) (l:List Lk) (k:Nat) (s:Sb),k<=l.length->Ah (AM c l k s).1 (AM c l k s).2=pre c l k++(s.Aa++rest (l.drop k))
 |c,l,0,s,_=>by cases l<;>rfl
 |c,[],k+1,s,h=>absurd h (by simp)
 |c,p::l,k+1,s,h=>by
  show Ah c ((p.1,(AM p.2 l k s).1)::(AM p.2 l k s).2)=_
  rw [BW,Ew p.2 l k s (by simpa using h)];simp [pre]
theorem Lm: ∀(c:Sb) (l:List Lk) (k:Nat) (s:Sb) (m:It) (r:Sb),k<=l.length->Ah (Cg c l k s m r).1 (Cg c l k s m r).2=pre c l k++((s.Aa++m::r.Aa)++rest (l.drop k))
 |c,l,0,s,m,r,_=>by cases l<;>simp [Cg,Ah,rest,pre]
 |c,[],k+1,s,m,r,h=>absurd h (by simp)
 |c,p::l,k+1,s,m,r,h=>by
  show Ah c ((p.1,(Cg p.2 l k s m r).1)::(Cg p.2 l k s m r).2)=_
  rw [BW,Lm p.2 l k s m r (by simpa using h)];simp [pre]
theorem CR: ∀(c:Sb) (l:List Lk) (k:Nat) (s:Sb),k<=l.length->(AM c l k s).2.length=l.length
 |c,l,0,s,_=>by cases l<;>rfl
 |c,[],k+1,s,h=>absurd h (by simp)
 |c,p::l,k+1,s,h=>by
  show((p.1,(AM p.2 l k s).1)::(AM p.2 l k s).2).length=_
  rw [List.length_cons,CR p.2 l k s (by simpa using h),List.length_cons]
theorem PQ: ∀(c:Sb) (l:List Lk) (k:Nat) (s:Sb) (m:It) (r:Sb),k<=l.length->(Cg c l k s m r).2.length=l.length+1
 |c,l,0,s,m,r,_=>by cases l<;>rfl
 |c,[],k+1,s,m,r,h=>absurd h (by simp)
 |c,p::l,k+1,s,m,r,h=>by
  show((p.1,(Cg p.2 l k s m r).1)::(Cg p.2 l k s m r).2).length=_
  rw [List.length_cons,PQ p.2 l k s m r (by simpa using h),List.length_cons]
theorem DY: ∀(c:Sb) (l:List Lk) (k:Nat) (s:Sb),k<=l.length->(AM c l k s).2.map (·.1)=l.map (·.1)
 |c,l,0,s,_=>by cases l<;>rfl
 |c,[],k+1,s,h=>absurd h (by simp)
 |c,p::l,k+1,s,h=>by
  show((p.1,(AM p.2 l k s).1)::(AM p.2 l k s).2).map (·.1)=_
  rw [List.map_cons,DY p.2 l k s (by simpa using h),List.map_cons]
theorem JW: ∀(c:Sb) (l:List Lk) (k:Nat) (s:Sb) (m:It) (r:Sb),k<=l.length->(Cg c l k s m r).2.map (·.1)=(l.map (·.1)).take k++m::(l.map (·.1)).drop k
 |c,l,0,s,m,r,_=>by cases l<;>rfl
 |c,[],k+1,s,m,r,h=>absurd h (by simp)
 |c,p::l,k+1,s,m,r,h=>by
  show((p.1,(Cg p.2 l k s m r).1)::(Cg p.2 l k s m r).2).map (·.1)=_
  rw [List.map_cons,JW p.2 l k s m r (by simpa using h)];rfl
theorem EX: ∀(c:Sb) (l:List Lk) (k:Nat) (s:Sb),k<=l.length->s.h=(Ap c l k).h->(AM c l k s).1.h::(AM c l k s).2.map (·.2.h)=c.h::l.map (·.2.h)
 |c,l,0,s,_,e=>by cases l<;>simp [AM,e,Ap]
 |c,[],k+1,s,h,_=>absurd h (by simp)
 |c,p::l,k+1,s,h,e=>by
  show c.h::((p.1,(AM p.2 l k s).1)::(AM p.2 l k s).2).map (·.2.h)=_
  rw [List.map_cons,EX p.2 l k s (by simpa using h) e,List.map_cons]
theorem M0: ∀(c:Sb) (l:List Lk) (k:Nat) (s:Sb) (m:It) (r:Sb),k<=l.length->s.h=(Ap c l k).h->(Cg c l k s m r).1.h::(Cg c l k s m r).2.map (·.2.h)=(c.h::l.map (·.2.h)).take (k+1)++r.h::(c.h::l.map (·.2.h)).drop (k+1)
 |c,l,0,s,m,r,_,e=>by cases l<;>simp [Cg,e,Ap]
 |c,[],k+1,s,m,r,h,_=>absurd h (by simp)
 |c,p::l,k+1,s,m,r,h,e=>by
  show c.h::((p.1,(Cg p.2 l k s m r).1)::(Cg p.2 l k s m r).2).map (·.2.h)=_
  rw [List.map_cons,M0 p.2 l k s m r (by simpa using h) e];rfl
theorem Gf: ∀(c:Sb) (l:List Lk) (k:Nat) (s:Sb) (x:Nat),k<=l.length->(Ax (AM c l k s).1 (AM c l k s).2).count x+(Ap c l k).ns.count x=(Ax c l).count x+s.ns.count x
 |c,l,0,s,x,_=>by cases l<;>simp [AM,Ax,Ap]<;>omega
 |c,[],k+1,s,x,h=>absurd h (by simp)
 |c,p::l,k+1,s,x,h=>by
  have:=Gf p.2 l k s x (by simpa using h)
  show(Ax c ((p.1,(AM p.2 l k s).1)::(AM p.2 l k s).2)).count x+(Ap p.2 l k).ns.count x=_
  rw [BC,BC];simp only [List.count_append] at this ⊢;omega
theorem Sz: ∀(c:Sb) (l:List Lk) (k:Nat) (s:Sb) (m:It) (r:Sb) (x:Nat),k<=l.length->(Ax (Cg c l k s m r).1 (Cg c l k s m r).2).count x+(Ap c l k).ns.count x=(Ax c l).count x+(s.ns.count x+r.ns.count x)
 |c,l,0,s,m,r,x,_=>by cases l<;>simp [Cg,Ax,Ap,List.count_append]<;>omega
 |c,[],k+1,s,m,r,x,h=>absurd h (by simp)
 |c,p::l,k+1,s,m,r,x,h=>by
  have:=Sz p.2 l k s m r x (by simpa using h)
  show(Ax c ((p.1,(Cg p.2 l k s m r).1)::(Cg p.2 l k s m r).2)).count x+(Ap p.2 l k).ns.count x=_
  rw [BC,BC];simp only [List.count_append] at this ⊢;omega
def BF(l:List It)(i:It):List It:=l.take (AH (AI l) i.k)++i::l.drop (AH (AI l) i.k)
theorem Gc(l:List It)(i:It):(BF l i).length=l.length+1:=by
 unfold BF;have:=Ds (AI l) i.k;rw [Bn] at this;simp only [List.length_append,List.length_take,List.length_cons,List.length_drop];omega
theorem RM{a b c:List It}(h1: ∀p∈AI a,Tx.cmp p.1 i.k<0)(I: ∀p∈AI c,¬Tx.cmp p.1 i.k<0):BF (a++(b++c)) i=a++(BF b i++c):=by
 unfold BF;have J:AH (AI (a++(b++c))) i.k=a.length+AH (AI b) i.k:=by
  rw [Br,Br,C3,C3,HX h1,Eu I,Bn];rfl
 have d:=Ds (AI b) i.k;rw [Bn] at d;rw [J,List.take_length_add_append,List.drop_length_add_append,List.take_append_of_le_length d,List.drop_append_of_le_length d];simp
theorem LM{l:List It}(d:AY (AI l))(I:Bb l i.k=none):AI (BF l i)=C4 (AI l) i.pr:=by
 have hh: ¬(AI l)[AH (AI l) i.pr.1]?.map (·.1)=some i.pr.1:=by
  intro e;have h1:=(Df (key:=i.k) d).1;rw [I] at h1;unfold EG at h1;rw [if_pos (show(AI l)[AH (AI l) i.k]?.map (·.1)=some i.k from e)] at h1;simp only [Option.isSome_none,Bool.false_eq_true,if_false] at h1;omega
 unfold C4 BF;rw [if_neg hh];simp only [AI,List.map_append,List.map_cons,List.map_take,List.map_drop];rfl
end Bt
variable {A B w:World}{F F':Nat->Prop}{N:Nat}{ws ws0:List Nat}
def ZG(l:List Pr)(k:ByteArray):Prop:=(l[AH l k]?).map (·.1)=some k
instance (l:List Pr) (k:ByteArray):Decidable (ZG l k):=by unfold ZG;infer_instance
section
variable {w':World} {s:Nat} {R:Zr} {n:Nat} {t:BT} {l:List Pr}
end
theorem Pz{l:List Pr}(h:CL l=false): ∀p∈l,p.1.size<=1000/\p.2.size<=1000:=by
 intro p hp;unfold CL at h;rw [List.any_eq_false] at h;have:=h p hp;simp at this;exact this
theorem AJ.AI{A:Option Addr}{l:List Pr}(h:AJ w F A (Bv l)):DE w w.heap.size A l:=by
 rcases h with h|⟨b,o,h1,d,J,I⟩
 . left
   cases l with
   |nil=>rfl
   |cons p l=>simp [Bv] at h
 . exact .inr ⟨b,o,h1,d,I⟩
def Iz(w:World)(A:Option Addr)(l:List Pr):Prop:=AJ w (λb=>w.heap.size<=b) A (Bv l)/\D5 l/\l.length<=9223372036854775807
def LR(w:World)(A:Option Addr)(zs:List Int):Prop:=AJ w (λb=>w.heap.size<=b) A (N4 zs)/\zs.length<=9223372036854775807/\ ∀z∈zs,-9223372036854775808<=z/\z<=9223372036854775807
abbrev FJ(w:World):Ending->World->Prop:=λe w' =>e= .returned (.bool true)/\Below w.heap.size w w'
section
variable {w':World} {s:Nat}  {R R':Zr} {H:List Nat} {P q most last G n:Nat}
theorem Am.kb{Cs:Nat->Prop}(h:Am w s F R H P q most last G)(d:KB Cs w w')(O: ∀k,Cs k-> ¬F k)(hs: ¬Cs s)(hp: ∀k,Cs k-> ∀p,w.cell? ⟨k,0,none⟩≠some (.pointer p))(V: ¬Cs 1):Am w' s F R H P q most last G:=by
 obtain⟨a,ha,t,v,L,mem,sl,Fh,h⟩:=h;have U:=h.Gu;have Z: ¬Cs ha:=λI=>by
  obtain⟨⟨mb,D,k1,rfl⟩,_,_⟩:=h.heap;exact hp ha I _ k1.hs
 exact⟨a,ha,t,v,L,mem,sl,Fh,{ h with
  ca:=d.cell h.ca hs
  ch:=d.cell h.ch hs
  ct:=d.cell h.ct hs
  heap:=h.heap.kb d (λk J I=>O k I (by rw [U];exact .inl J)) Z V
  tab:=h.tab.kb d (λb J I=>O b I (by rw [U];exact .inr J)) }⟩
end
attribute [local go_sem] Oper.semAt_some Ea
structure BN.Ok(n:BN):Prop where
 keys: ∀x∈n.keys,x<18446744073709551616
 Ab: ∀x∈n.Ab,x<18446744073709551616
 kids: ∀x∈n.kids,x<18446744073709551616
 size:n.size<18446744073709551616
theorem M1{l:List Nat}(h: ∀x∈l,x<18446744073709551616)(i:Nat):l.getD i 0<18446744073709551616:=by
 rw [List.getD_eq_getElem?_getD]
 cases hi:l[i]? with
 |none=>simp
 |some x=>exact h x (List.mem_of_getElem? hi)
theorem BN.Ok.at' {n:BN}(h:n.Ok){t:Nat}(d:n.keys.length<18446744073709551616)(i:Nat):n.Dm t i<18446744073709551616:=by
 unfold BN.Dm
 split
 . exact d
 . split
   . exact h.size
   . split
     . split
       . exact M1 h.keys _
       . exact M1 h.Ab _
     . exact M1 h.kids _
def setW(ws ws0 l:List Nat):List Nat:=(List.range ws0.length).map λi=>if i∈l then ws.getD i 0 else ws0.getD i 0
theorem VH(ws ws0 l:List Nat):(setW ws ws0 l).length=ws0.length:=by simp [setW]
theorem VA(ws ws0:List Nat):setW ws ws0 []=ws0:=by
 refine List.ext_getElem (by simp [setW]) λi h1 d=> ?_
 simp [setW,d]
theorem Uz{l:List Nat}{z:Nat}(d:z<ws.length):(setW ws ws0 l).set z (ws[z])=setW ws ws0 (l++ [z]):=by
 refine List.ext_getElem (by simp [setW]) λi h1 I=> ?_
 rw [List.getElem_set];simp only [setW,List.getElem_map,List.getElem_range,List.mem_append,List.mem_singleton];by_cases e:z=i
 . subst e;simp [d]
 . rw [if_neg e]
   have:i≠z:=(λh=>e h.symm);simp [this]
theorem V0(h:ws.length=ws0.length):setW ws ws0 (List.range ws.length)=ws:=by
 refine List.ext_getElem (by simp [setW,h]) λi h1 d=> ?_
 simp [setW,d]
theorem Am.own{row:Option Nat}{s:Nat}{R:Zr}{H:List Nat}{P q most last G:Nat}(h:Am A s F R H P q most last G)(Z: ∀b,F b->b<N)(hg:A.grownBy B row)(J: ∀r,row=some r->N<=r/\ ∃o:Obj,A.heap[r]? =some o/\o.isCells=false):Am B s F R H P q most last G:=by
 have d: ∀{p:Addr} {v:Value},A.cell? p=some v->row≠some p.block:=λI e=>by
  obtain⟨o,h1,aa⟩:=Hn I;obtain⟨_,ae,O,U⟩:=J _ e;rw [h1] at O
  cases O
  rw [aa] at U
  cases U
 refine h.kb (Cs:=λk=>row=some k) ⟨hg.size,λk o V _ ab=>(hg.block k (Array.getElem?_eq_some_iff.1 V).1 (λe=>ab e.symm)).trans V⟩ (λk e ac=>by have:=Z k ac;have:=(J k e).1;omega) ?_ (λk e p I=>d I e) ?_
 . obtain⟨a,ha,t,v,L,mem,sl,Fh,h⟩:=h
   exact d (p:=⟨s,2,none⟩) h.ca
 . obtain⟨a,ha,t,v,L,mem,sl,Fh,h⟩:=h
   obtain⟨⟨mb,D,k1,rfl⟩,k2,af⟩:=h.heap;exact d (p:=⟨1,0,none⟩) (k1.tab 0 (by decide))
theorem Ad.own{row:Option Nat}(h:Ad w F A F')(hN:w.heap.size<=N)(hg:A.grownBy B row)(I: ∀r,row=some r->N<=r):Ad w F B F' :=
 ⟨hg.os.trans h.os,hg.tape.trans h.tape,hg.output.trans h.output,Nat.le_trans h.size hg.size,λk d J=>(hg.block k (Nat.lt_of_lt_of_le d h.size) (λe=>by have:=I k e.symm;omega)).trans (h.keep k d J),h.grow⟩
theorem KeepsFrom.Ar(h:Ad A F B F')(I: ∀b,F b->b<N):KeepsFrom N A B:=
 ⟨h.size,λk o O d _=>(h.keep k (Array.getElem?_eq_some_iff.1 d).1 (λJ=>by have:=I k J;omega)).trans d⟩
def Kk(w:World)(s:Nat)(F:Nat->Prop)(R:Zr)(H:List Nat)(P q most last G t x:Nat)(n:BN)(e:Ending)(w' :World):Prop:=
 e= .returned (.int .i64 (EO R t x n:Nat))/\Am w' s F (Bq R t x n) H P q most last G/\Ad w F w' F
section
variable {w':World} {s:Nat}  {R:Zr} {H:List Nat} {P q most last G:Nat}
def Y8{P}(h:P:=by
 rintro l pre ⟨z,I⟩ W K hi d;dsimp only at d ⊢;gi_wp2;exact d _ W (KeepsOthers.refl _ |>.from _) (B0.refl _ _ _) hi rfl):=h
def Yel{P}(h:P:=by
 refine⟨by rw [e];rfl, ?_,Ad.below af⟩;unfold Bq;rw [if_neg (by rw [e];simp)];exact J.below af):=h
def XV{P}(h:P:=by
 have d1:((lb:Int)==1)=false:=by simp;omega
 have d:=Zh aq;exact And.intro d1 d):=h
theorem F8(h:Am w s F R H P q most last G)(t:Nat)(au:BN.A1 t)(x:Nat)(hx:x<18446744073709551616){v:Value}{n:BN}(a2:CX w F v n)(aN:n.Ok):
 Calls prog 85 #[.pointer (some ⟨s,0,none⟩), .int .i64 t, .int .u64 x,v] w (Kk w s F R H P q most last G t x n):=by
 refine(callsIn_wide (n:=9)).1 ?_;obtain⟨⟨ab,ae,ag,aj,al,ci,rfl,k1,k2,aO⟩,aP⟩:=a2;have a3:=Zh (λi=>aN.at' (t:=t) (by have:=aP.1;omega) i);have aC:=Zh (λW (U:Below w.heap.size w W)=>(⟨⟨ab,ae,ag,aj,al,ci,rfl,k1.Ar (Ad.below U),k2.Ar (Ad.below U),aO.Ar (Ad.below U)⟩,aP⟩:CX W F _ n));have aq:=λW (U:Below w.heap.size w W)=>(callsIn_wide (n:=8)).2 (IX (h.below U) 0 (by decide))
 obtain⟨ax,lb,aQ,a4⟩:=E2 R 0;rw [aQ] at aq;obtain⟨_,aR⟩:=XV;have ao:=Zh (λW (U:Below w.heap.size w W)=>(callsIn_wide (n:=8)).2 (IX (h.below U) x hx));have aS:=Zh (λW (U:Below w.heap.size w W)=>(callsIn_wide (n:=8)).2 (JO (aC W U) t au));have aT:=Zh (λW (U:Below w.heap.size w W) (O:n.Fits t)=>(callsIn_wide (n:=8)).2 (NK (aC W U) t au O));have J:=Zh h;have t1:=au.1;have t2:=au.2;have aD:=((((Below.refl _ w).alloc (Nat.le_refl _) (Obj.cells #[.pointer (some ⟨s,0,none⟩)] 24)).alloc (by simp) (Obj.cells #[.int .u64 x] 23)).alloc (by simp;omega) (Obj.cells #[.slice ab n.keys.length ae, .slice ag n.Ab.length aj, .slice al n.kids.length ci, .int .u64 n.size] 100));obtain⟨am,Z⟩:=Zx (((w.alloc (Obj.cells #[.pointer (some ⟨s,0,none⟩)] 24)).alloc (Obj.cells #[.int .u64 x] 23)).alloc (Obj.cells #[.slice ab n.keys.length ae, .slice ag n.Ab.length aj, .slice al n.kids.length ci, .int .u64 n.size] 100));rw [<-Z] at aD;have c1:am.cell? ⟨w.heap.size,0,none⟩=some (.pointer (some ⟨s,0,none⟩)):=by rw [Z];go_simp
 have c2:am.cell? ⟨w.heap.size+1,0,none⟩=some (.int .u64 x):=by rw [Z];go_simp
 have aE:am.cell? ⟨w.heap.size+1+1,0,none⟩=some (.slice ab n.keys.length ae):=by rw [Z];go_simp
 have aF:am.cell? ⟨w.heap.size+1+1,1,none⟩=some (.slice ag n.Ab.length aj):=by rw [Z];go_simp
 have aG:am.cell? ⟨w.heap.size+1+1,2,none⟩=some (.slice al n.kids.length ci):=by rw [Z];go_simp
 have aH:am.cell? ⟨w.heap.size+1+1,3,none⟩=some (.int .u64 n.size):=by rw [Z];go_simp
 have ac:=Zh aD;have aU:=Zh Z;have aV:w.heap.size+3<=am.heap.size:=by rw [Z];simp
 clear k1 k2 aO aq a4 aQ h aN aD Z au;refine callsIn_of_wp_marks func85 rfl trivial ?_ rfl;simp only [ntmps85,List.size_toArray,List.length_cons,List.length_nil,Nat.reduceAdd,Nat.reduceSub,Array.replicate_succ,Array.replicate_zero,List.push_toArray,List.append_toArray,List.nil_append,List.cons_append];gi_wp2_with fail;rw [<-aU.out];refine(aR _ ac).mono ?_;rintro e w1 ⟨rfl,rfl⟩;gi_wp2_with fail;refine(aS _ ac).mono ?_;rintro e w2 ⟨rfl,I⟩;have ah :=(I.cell (p:=⟨w.heap.size,0,none⟩) (Al c1)).trans c1;have d :=(I.cell (p:=⟨w.heap.size+1,0,none⟩) (Al c2)).trans c2;have d30:=(I.cell (p:=⟨w.heap.size+1+1,0,none⟩) (Al aE)).trans aE;have d31:=(I.cell (p:=⟨w.heap.size+1+1,1,none⟩) (Al aF)).trans aF;have d32:=(I.cell (p:=⟨w.heap.size+1+1,2,none⟩) (Al aG)).trans aG;have d33:=(I.cell (p:=⟨w.heap.size+1+1,3,none⟩) (Al aH)).trans aH;have af:=DR;have bh:w.heap.size+3<=w2.heap.size:=Nat.le_trans aV I.size;clear c1 c2 aE aF aG aH I aS aR aV aU;by_cases O:n.Fits t
 . rw [decide_eq_true O]
   cases ar:R x with
   |none=>
    rw [J3 ar] at ao;have aa:Hid (Kk w s F R H P q most last G t x n (.returned (.int .i64 7)) w2):=Zh (by
     have e:EO R t x n=7:=(by unfold EO;rw [if_neg (λh=>h O),ar]);exact Yel)
    gi_wp2_with fail;refine(ao _ af).mono ?_;rintro e w3 ⟨rfl,rfl⟩;gi_wp2;refine⟨.int .i64 7, ?_,aa⟩;simp [results,f85,go_sem]
   |some ws0=>
    rw [Ic ar] at ao;by_cases aw:ws0.length=6*t
    . have dl:((ws0.length:Int) !=6*(t:Int))=false:=by simp;omega
      gi_wp2_with fail;refine(ao _ af).mono ?_;rintro e w3 ⟨rfl,rfl⟩;gi_wp2_with fail;refine(aT _ af O).mono ?_;rintro e w4 ⟨b,bx,rfl,bi,I,aI,aW,a5,V⟩;have a6:=Zu;have a7:=Yor;have aX:=Jt;have bj:bx<w4.heap.size:=Al aI;have a8:=Zh (Np aI aW a5 (by rw [BN.B6];omega));have aY:=Zh (J.below aX);have aJ:=Zh (λb (O:F b)=>aY.lt O);have ay:=Zh (λb (O:F b)=>J.lt O);clear ah d d30 d31 d32 d33 V af aW ao aT aC aI;gi_wp2_with fail;have a9:Am w4 s F (AT R x (some (setW (n.wd t) ws0 (([]:List {z:Nat // z<(n.wd t).length}).map (λ(z:{z:Nat // z<(n.wd t).length})=>z.1))))) H P q most last G/\Ad w4 F w4 F:=by
       refine⟨?_,Ad.refl _ _⟩;rw [List.map_nil,VA,show AT R x (some ws0)=R from by
        funext y;unfold AT;split
        . next h=>rw [h,ar]
        . rfl]
       exact aY.out
      refine wpIn_rangeFunc_ownH (α:={z:Nat // z<(n.wd t).length}) rfl (by omega) (gf:=173) (lb:= #[.pointer (some ⟨bx,0,none⟩)]) rfl trivial (enters_of func173 (by kernel_rfl) rfl)
       a8 (λh k=>h.trans k) (λW l o bk ba aw h1 bm=>B0.put W _ (by omega) (by omega)) (Below.refl _ _) (λ_=>rfl)
       (λ(pre:List {z:Nat // z<(n.wd t).length}) W=>Am W s F (AT R x (some (setW (n.wd t) ws0 (pre.map (λ(z:{z:Nat // z<(n.wd t).length})=>z.1))))) H P q most last G/\Ad w4 F W F)
       (λbb pre W=>False)
       (λpre A B row hs hg aK=>⟨hs.1.own aJ hg aK,hs.2.own (Nat.le_refl _) hg (λr e=>(aK r e).1)⟩)
       (λ_ _ _ _ _ hs _ _=>hs)
       a9
       (λz a' W=>a' ={ tmps:= #[ .pointer (some ⟨s,0,none⟩), .int .i64 (t:Int), .int .u64 (x:Int), .agg #[ .slice ab n.keys.length ae, .slice ag n.Ab.length aj, .slice al n.kids.length ci, .int .u64 (n.size:Int)], .pointer (some ⟨w.heap.size,0,none⟩),undef, .pointer (some ⟨w.heap.size+1,0,none⟩), .pointer (some ⟨w.heap.size+1+1,0,none⟩), .int .i64 0, .int .i64 (ax:Int), .int .i64 (lb:Int), .int .i64 (6*(t:Int)), .int .i64 0, .int .i64 (z.1:Nat), .int .u64 ((n.wd t)[z.1]'z.2:Nat), .tuple #[ .int .i64 (ax:Int), .int .i64 (lb:Int)], .pointer (some ⟨s,0,none⟩), .tuple #[ .int .i64 (ax:Int), .int .i64 (lb:Int)], .int .i64 (ax:Int), .int .i64 (lb:Int), .int .i64 (lb:Int), .bool false,undef, .int .i64 (t:Int), .agg #[ .slice ab n.keys.length ae, .slice ag n.Ab.length aj, .slice al n.kids.length ci, .int .u64 (n.size:Int)], .bool true, .bool false, .tuple #[ .int .i64 (6*(t:Int)), .int .i64 0], .pointer (some ⟨s,0,none⟩), .int .u64 (x:Int), .tuple #[ .int .i64 (6*(t:Int)), .int .i64 0], .int .i64 (6*(t:Int)), .int .i64 0, .bool false, .int .i64 0, .bool false,undef, .bool false, .int .i64 (6*(t:Int)), .int .i64 (t:Int), .int .i64 (6*(t:Int)), .bool false, .int .i64 (t:Int), .agg #[ .slice ab n.keys.length ae, .slice ag n.Ab.length aj, .slice al n.kids.length ci, .int .u64 (n.size:Int)], .func (.func 173) #[] #[ .pointer (some ⟨bx,0,none⟩)], .int .i64 (z.1:Nat), .int .u64 ((n.wd t)[z.1]'z.2:Nat),undef,undef,undef,undef,undef],defers:= [] })
       (λ_ _ _ _ _ _ hs _ _=>hs)
       ?assign ?body ?done ?stop
      case assign=>
       exact Y8
      case body=>
       rintro l pre ⟨z,az⟩ a' W ba ⟨r,aK⟩ ⟨hs,an⟩ rfl hlen;dsimp only;have q1:=an.cell a6 (λO=>by have:=ay.out _ O;simp only at this;omega);have bc:=an.cell a7 (λO=>by have:=ay.out _ O;simp only at this;omega);have bd :z<ws0.length:=(by rw [aw,<-BN.B6 t n];exact az);have aL:=RR hs (x:=x) (i:=z) (u:=(n.wd t)[z]) (ws:=setW (n.wd t) ws0 (pre.map (·.1))) (AR _ _ _) (by rw [VH];exact bd) (by rw [BN.U0];exact a3.out z);rw [Jc,Uz az] at aL;have be:=Zh (CallsIn.inRound l ((callsIn_wide (n:=6)).2 aL));have aZ:=Zh an;have bf:Hid ((pre++ [(⟨z,az⟩:{z:Nat // z<(n.wd t).length})]).map (·.1)=pre.map (·.1)++ [z]):=Zh (by rw [List.map_append];rfl);clear aL hs an;generalize (n.wd t)[z]=wz at*;gi_wp2_with fail;refine be.mono ?_;rintro e aA ⟨rfl,a0,aB⟩;have aa:Hid (KeepsFrom w4.heap.size W aA/\B0 b bx W aA/\Am aA s F (AT R x (some (setW (n.wd t) ws0 ((pre++ [(⟨z,az⟩:{z:Nat // z<(n.wd t).length})]).map (·.1))))) H P q most last G/\Ad w4 F aA F):=Zh (by
        have bo:=aZ.size;refine⟨KeepsFrom.Ar aB aJ,B0.Ar aB (by omega) (by omega) (λO=>by have:=ay.out _ O;omega) (λO=>by have:=ay.out _ O;omega), ?_,aZ.trans aB⟩;rw [bf.out];exact a0)
       clear a0 aB q1 bc;gi_wp2;exact aa.out
      case done=>
       rintro D' xs W aM bg ⟨hs,an⟩ a1;rw [bg,V0 (by rw [BN.B6,aw])] at hs;have aa:Hid (Kk w s F R H P q most last G t x n (.returned (.int .i64 0)) (W.putObj D' (.deferred none))):=Zh (by
        have e:EO R t x n=0:=(by unfold EO;rw [if_neg (λh=>h O),ar];simp [aw]);have hg:=grownBy_putObj' W D' (.deferred none);refine⟨by rw [e];rfl, ?_,(Ad.below aX).trans (an.own (Nat.le_refl _) hg (λr e=>by cases e;exact aM))⟩;unfold Bq;rw [if_pos e];exact hs.own aJ hg (λr e=>by cases e;exact⟨aM,_,a1,rfl⟩))
       clear hs an;gi_wp2;refine⟨by simp, .inl ⟨_,_,rfl,run_takeDeferred a1, ?_⟩⟩;exact⟨.int .i64 0,by simp [results,f85,go_sem],aa⟩
      case stop=>
       rintro D' bb pre W aM bp O;exact O.elim
    . have aa:Hid (Kk w s F R H P q most last G t x n (.returned (.int .i64 8)) w2):=Zh (by
       have e:EO R t x n=8:=(by unfold EO;rw [if_neg (λh=>h O),ar];simp [aw]);refine⟨by rw [e];rfl, ?_,Ad.below af⟩;unfold Bq;rw [if_neg (by rw [e];simp)];exact J.below af)
      have dl:((ws0.length:Int) !=6*(t:Int))=true:=(by simp;omega);have w1:IntKind.i64.wrap (6*(t:Int))=6*(t:Int):=(by rw [IntKind.wrap_i64];omega);gi_wp2_with fail;refine(ao _ af).mono ?_;rintro e w3 ⟨rfl,rfl⟩;gi_wp2;refine⟨.int .i64 8, ?_,aa⟩;simp [results,f85,go_sem]
 . rw [decide_eq_false O]
   have aa:Hid (Kk w s F R H P q most last G t x n (.returned (.int .i64 2)) w2):=Zh (by
    have e:EO R t x n=2:=(by unfold EO;rw [if_pos O]);exact Yel)
   gi_wp2;refine⟨.int .i64 2, ?_,aa⟩;simp [results,f85,go_sem]
end
end Go.Proofs.YtiopopoohglepaaGreatDoor
namespace Go.Proofs.YtiopopoohglepaaGreatDoor
open Go.Proofs.Tryz
open Go.RowKit Go.Shelf
section
variable {w w' :World} {s:Nat} {F:Nat->Prop} {R:Zr} {H:List Nat} {P q most last G:Nat}
def Un{P}(h:P:=by
 have d:=Zh ((Ad.below (F:=F) aL).trans am);exact d):=h
def Yoo{P}(h:P:=by
 have wt:IntKind.i64.wrap (6*(t:Int))=6*(t:Int):=by rw [IntKind.wrap_i64];omega
 exact wt):=h
theorem Tf(h:Am w s F R H P q most last G)(t:Nat)(U:BN.A1 t){v:Value}{n:BN}(ao:CX w F v n)(ar:n.Ok)(Z:n.Fits t):
 Calls prog 86 #[.pointer (some ⟨s,0,none⟩), .int .i64 t,v] w (MT w s F R H P q most last G (n.wd t)):=by
 have aH:=Zh ar;have au:=Zh ao;obtain⟨⟨V,ag,O,af,aa,ci,rfl,k1,k2,aI⟩,aW⟩:=ao;have t1:=U.1;have t2:=U.2;have J:=Yjk;have aw:=Ymm;obtain⟨aJ,ab⟩:=Zx (w.alloc (Obj.cells #[.slice V n.keys.length ag, .slice O n.Ab.length af, .slice aa n.kids.length ci, .int .u64 n.size] 100));rw [<-ab] at J;have ah:An aJ w.heap.size 100 [.slice V n.keys.length ag, .slice O n.Ab.length af, .slice aa n.kids.length ci, .int .u64 n.size]:=by rw [ab];exact aw
 have aq:=IX (h.below J) 0 (by decide);obtain⟨aX,lb,ax,aK⟩:=E2 R 0;rw [ax] at aq;obtain⟨_,aM⟩:=XV;have ai:=JO (au.Ar (Ad.below (F:=F) J)) t U;rw [decide_eq_true Z] at ai;have aN:=Zh ai;have aO:=Zh h;obtain⟨ac,aP,aQ⟩:=EW;have aR:Hid (¬F w.heap.size):=Zh (λZ=>by have:=h.lt Z;omega);obtain⟨c0,c1,c2,c3⟩:=C5 ah;have aS:=Zh ah;have wt:=Yoo;clear aw ah J ax aK aq ai h ar k1 k2 aI ab Z;go_enter func86,ntmps86;go_wp2_with fail;rw [<-aP.out];refine aM.mono ?_;rintro e w1 ⟨rfl,rfl⟩;go_wp2_with fail;refine aN.mono ?_;rintro e w2 ⟨rfl,I⟩;have aj:=Lr (aO.below (ac.trans (I.mono ac.size))) (6*t) (by omega);push_cast at aj;have al:=Zh aj;have aL:=DR;have aT:=Zh (aS.below I);clear aj I c0 c1 c2 c3;go_wp2_with fail;refine al.mono ?_;rintro e w3 (⟨x,F',ay,aU,az,rfl,d,am⟩|⟨er,F',rfl,aA,d,am⟩)
 . have aB:=Un
   have aC:=aT.Ar am aR.out;obtain⟨c0,c1,c2,c3⟩:=C5 aC;have aD:=Zh (F8 d t U x az (au.Ar aB) aH);have aV:=Zh ay;clear d am aC ay al;go_wp2_with fail;refine aD.mono ?_;rintro e w4 ⟨rfl,ae,aE⟩;have aF:EO (AT R x (some (List.replicate (6*t) 0))) t x n=0:=by
    unfold EO;rw [if_neg (λh=>h aQ.out),AR];simp
   have aG:Am w4 s F' (AT R x (some (n.wd t))) (x::H) (P+CC ((n.wd t).length+2)) q most last (G+1):=by
    rw [BN.B6];unfold Bq at ae;rw [if_pos aF,Jc] at ae;exact ae
   have an:Hid (MT w s F R H P q most last G (n.wd t) (.returned (.tuple #[.int .u64 x, .int .i64 0])) w4):=Zh (.inl ⟨x,F',aV,aU,az,rfl,aG,aB.trans aE⟩);rw [aF];clear ae aG aE aD;go_wp2
   go_ret2
   exact an.out
 . have d2:((er:Int) !=0)=true:=by simp;omega
   have an:Hid (MT w s F R H P q most last G (n.wd t) (.returned (.tuple #[.int .u64 0, .int .i64 er])) w3):=Zh (.inr ⟨er,F',rfl,by rw [BN.B6];exact aA,by rw [BN.B6];exact d,(Ad.below (F:=F) aL).trans am⟩);clear d am al aA;go_wp2
   go_ret2
   exact an.out
end
section
variable {w w' :World} {s N:Nat} {R:Zr} {n:Nat}
def Yfg{P}(h:P:=by
 go_wp2_with fail;refine d.mono ?_;rintro e w1 ⟨rfl,rfl⟩;go_wp2;go_ret;exact⟨rfl,rfl⟩):=h
theorem UX(h:Rd N w s R n){x i I J:Nat}{ws:List Nat}(O:R x=some ws)(hi:i<ws.length)(h1:w.cell? ⟨I,0,none⟩=some (.pointer (some ⟨s,0,none⟩)))(U:w.cell? ⟨J,0,none⟩=some (.int .u64 x)):
 Calls prog 120 #[.int .i64 i, .pointer (some ⟨I,0,none⟩), .pointer (some ⟨J,0,none⟩)] w λe w' =>e= .returned (.int .u64 (ws[i]:Nat))/\w=w' :=by
 have d:=Zh (Q2 h O hi);generalize ws[i]=u at*;clear h O hi;go_enter func120,ntmps120;exact Yfg
end
namespace BT
variable {a b:BT}
def mk:BT->Nat
 |nil=>0
 |node _ _ _ m _ _ _ _=>m
def ID:BT->Nat
 |nil=>0
 |node _ _ _ _ _ _ l r=>max l.ID r.ID+1
structure WW(t t' :BT):Prop where
 hs:t'.hs=t.hs
 nodes:t'.nodes=t.nodes
 AI:t'.AI=t.AI
theorem WW.trans{c:BT}(h:WW a b)(k:WW b c):WW a c:=⟨k.hs.trans h.hs,k.nodes.trans h.nodes,k.AI.trans h.AI⟩
theorem WW.size(h:WW a b):b.size=a.size:=by rw [<-Ih,<-Ih,h.nodes]
section
variable {R:Zr}
end
end BT
namespace BT
end BT
namespace BT
section
variable {R:Zr} {x kx vx mx y ky vy my z kz vz mz:Nat} {k v k' v' k2 v2:ByteArray} {A B C D E G:BT}
end
end BT
namespace BT
section
variable {R:Zr}
end
end BT
section
variable {R0 R1 R2 R3 R4:Zr} {tl tr t:BT} {x kx vx m m0:Nat} {k v:ByteArray}
end
theorem XX(a:Int)(n:Nat)(I:0<n): ∃i:Nat,i<n/\(a.tmod n+n).tmod n=(i:Int)/\ -(n:Int)<a.tmod n/\a.tmod n<n:=by
 have h1:=Int.tmod_lt_of_pos a (show(0:Int)<n by omega);have d: -(n:Int)<a.tmod n:=by
  have:=Int.lt_tmod_of_pos a (show(0:Int)<n by omega);omega
 refine⟨((a.tmod n+n).tmod n).toNat, ?_, ?_,d,h1⟩
 . have:=Int.tmod_lt_of_pos (a.tmod n+n) (show(0:Int)<n by omega)
   have:=Int.tmod_nonneg (n:Int) (show 0<=a.tmod n+n by omega);omega
 . have:=Int.tmod_nonneg (n:Int) (show 0<=a.tmod n+n by omega)
   omega
