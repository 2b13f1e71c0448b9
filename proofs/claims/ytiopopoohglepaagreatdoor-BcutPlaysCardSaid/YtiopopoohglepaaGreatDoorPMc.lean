/- A part. -/
import Derived.Test.YtiopopoohglepaaGreatDoorChecked
import Derived.RangeFuncNested
import Derived.RangeFuncBound
import Derived.RangeFuncCalls
import Derived.RangeFuncLeaves
import Derived.Shelf.Abstract
import Derived.Shelf.RegionOpen
import Derived.WalkKit
import Derived.OwnWalkIn
import Derived.TacticsInMore
import Derived.LoopNIn
import Derived.LoopIn
import Derived.Below
import Derived.WalkLawsBesides
import Derived.WalkSpells
import Derived.Lib.Hide
set_option linter.all false
set_option maxRecDepth 100000
set_option maxHeartbeats 1000000
namespace Go.Proofs.YtiopopoohglepaaGreatDoor
variable {B:Nat}{W W':World}{n:Int}{u v x y:Value}
abbrev Zr:=Nat->Option (List Nat)
theorem Zh{p:Prop}(h:p):RowKit.Hid p:=h
theorem Zx{α:Sort _}(a:α): ∃x,x=a:=⟨_,rfl⟩
open Go.Proofs.Tryz
open Go.RowKit Go.Shelf
attribute [local go_sem] Oper.semAt_some
def sz(c:Nat):Nat:=if c=0 then 2 else if c=1 then 3 else if c=2 then 4 else if c=3 then 6 else if c=4 then 9 else if c=5 then 13 else if c=6 then 19 else if c=7 then 28 else 42
def CH(c:Nat):List Nat:=List.range c
abbrev Vv(c:Nat):Array Value:= #[.int .i64 (c:Int), .int .i64 (sz c:Int)]
theorem FW(c:Nat):CH c++ [c]=CH (c+1):=by simp [CH,List.range_succ]
def Zc{P}(h:P:=by
 have:c=0\/c=1\/c=2\/c=3\/c=4\/c=5\/c=6\/c=7:=by omega
 rcases this with rfl|rfl|rfl|rfl|rfl|rfl|rfl|rfl<;>decide):=h
theorem Na(c:Nat)(h:c<8):((sz c:Nat):Int)<=31/\((sz c:Nat):Int)+max ((sz c:Int)/2) 1=(sz (c+1):Nat)/\2<=sz c:=by
 exact Zc
def WM(xs:List Nat):Prop:=xs=CH 8
def U0(xs:List Nat):Prop:= ∃c,c<=8/\xs=CH c
theorem KR(w:World):SeqStopsK Fence.wide 8 prog 163 #[] Vv (λ_ _=>True) WM U0 8 w:=λl ac an W _ _ _ J h0=>by
 refine callsIn_of_wp func163 rfl trivial ?_ rfl;simp only [ntmps163,List.size_toArray,List.length_cons,List.length_nil,Nat.reduceAdd,Nat.reduceSub,Array.replicate_succ,Array.replicate_zero,List.push_toArray,List.append_toArray,List.nil_append,List.cons_append];gi_wp2
 gi_loopw [2,3] (λO ae wr=> ∃c:Nat,c<=8/\O= .int .i64 c/\ae= .int .i64 (sz c:Nat)/\ac (CH c) wr) (λO _ _=>8-(intOf O).toNat)
 case atStart=>exact⟨0,by omega,rfl,rfl,h0⟩
 case round=>
  obtain⟨c,ao,rfl,rfl,I⟩:=hrel;by_cases af:c<8
  . obtain⟨aq,Z,ar⟩:=Na c af
    obtain⟨fn,tmps,assign,body,ag,aa⟩:=J (CH c) c wr I (by simp [CH];omega);dsimp only [Vv] at ag;have ah:=Zh Z;have ai:=Zh aa;have ab:=Zh I;clear Z aa I J;generalize hs:sz c=s at*;clear hs;gi_wp2;refine(ai).mono ?_;rintro e au (⟨rfl,U,_⟩|⟨rfl,V⟩)
    . rw [FW] at U
      have aj:=Zh U;clear U;gi_wp2;go_roundw
      case rel=>exact⟨c+1,by omega,by go_num,by have h:=ah.out;rw [show((s:Int)+(s:Int)/2)=((sz (c+1):Nat):Int) by omega],aj⟩
      case measure=>simp [intOf];omega
    . rw [FW] at V
      have al:=Zh V;clear V;gi_wp2;refine bodyPost_ret (results_none rfl _ _ _) rfl ?_;exact⟨⟨_,rfl⟩, .inr ⟨_,⟨c+1,by omega,rfl⟩,al⟩⟩
  . obtain rfl:c=8:=by omega
    have ab:=Zh I;have am:sz 8=42:=rfl;rw [am];clear I J;gi_wp2;go_end0;exact⟨⟨_,rfl⟩, .inl ⟨_,rfl,ab⟩⟩
def G3(B:Nat)(u v x:Value)(W:World):Prop:=
 W.cell? ⟨B,0,none⟩=some u/\W.cell? ⟨B+1,0,none⟩=some v/\W.cell? ⟨B+1+1,0,none⟩=some x/\W.frozen? ⟨B+1,0,none⟩=false/\W.frozen? ⟨B+1+1,0,none⟩=false
theorem G3.kept{row:Option Nat}(h:G3 B u v x W)(hg:W.grownBy W' row)(I: ∀r,row=some r-> ∃o:Obj,W.heap[r]? =some o/\o.isCells=false):G3 B u v x W' :=
 ⟨cell_kept h.1 hg I,cell_kept h.2.1 hg I,cell_kept h.2.2.1 hg I,(frozen_kept h.2.1 hg I).trans h.2.2.2.1,(frozen_kept h.2.2.1 hg I).trans h.2.2.2.2⟩
theorem T6(w:World)(u v x:Value)(t1 t2 t3:TypeId):G3 w.heap.size u v x (((w.alloc (.cells #[u] t1)).alloc (.cells #[v] t2)).alloc (.cells #[x] t3)):=by
 refine⟨?_, ?_, ?_, ?_, ?_⟩<;>go_simp
theorem J6(h:G3 B u v x W)(v' I :Value):G3 B u v' I ((W.setCell ⟨B+1,0,none⟩ v').setCell ⟨B+1+1,0,none⟩ I):=by
 obtain⟨h1,J,O,f2,f3⟩:=h;refine⟨?_, ?_, ?_, ?_, ?_⟩
 . exact(World.cell?_setCell_other _ _ _ _ (by simp)).trans ((World.cell?_setCell_other _ _ _ _ (by simp)).trans h1)
 . exact(World.cell?_setCell_other _ _ _ _ (by simp)).trans (World.cell?_setCell_same' _ _ _ (by rw [J];rfl))
 . exact World.cell?_setCell_same' _ _ _ (by rw [World.cell?_setCell_other _ _ _ _ (by simp),O];rfl)
 . simp [f2]
 . simp [f3]
def JK(c:Int):Value:=if 0<=c/\c<8 then .tuple #[.int .i64 (sz c.toNat:Nat), .int .i64 0] else .tuple #[.int .i64 0, .int .i64 2]
theorem KG(w:World):Calls prog 145 #[] w λe w' =>e= .returned (.func (.func 163) #[] #[])/\w=w' :=by
 go_enter func145,ntmps145;go_wp2;go_ret;exact⟨rfl,rfl⟩
def Yoi{P}(h:P:=by
 have I:=(KeepsOthers.setCell W ⟨w.heap.size+1,0,none⟩ (.int .i64 0)).same D _ J rfl;exact I):=h
def Y8{P}(h:P:=by
 have J:=Zh hx;have O:=Zh hp;have U:=Zh I;exact And.intro J (And.intro O U)):=h
theorem Jg(c:Int)(w:World):Calls prog 143 #[.int .i64 c] w λe w' =>e= .returned (JK c)/\Below w.heap.size w w' :=by
 refine(callsIn_wide (n:=9)).1 ?_;refine callsIn_of_wp_marks func143 rfl trivial ?_ rfl;simp only [ntmps143,List.size_toArray,List.length_cons,List.length_nil,Nat.reduceAdd,Nat.reduceSub,Array.replicate_succ,Array.replicate_zero,List.push_toArray,List.append_toArray,List.nil_append,List.cons_append];gi_wp2_with (refine⟨trivial, ?_⟩;gi_at_call 145;refine(callsIn_wide.2 (KG _)).mono ?_;rintro e w' ⟨rfl,rfl⟩);have ai:=T6 w (.int .i64 c) (.int .i64 0) (.int .i64 0) 3 3 25;have aj:Below w.heap.size w (((w.alloc (Obj.cells #[Value.int IntKind.i64 c] 3)).alloc (Obj.cells #[Value.int IntKind.i64 0] 3)).alloc (Obj.cells #[Value.int IntKind.i64 0] 25)):=(((Below.refl _ w).alloc (Nat.le_refl _) _).alloc (by simp) _).alloc (by simp;omega) _;have am:(((w.alloc (Obj.cells #[Value.int IntKind.i64 c] 3)).alloc (Obj.cells #[Value.int IntKind.i64 0] 3)).alloc (Obj.cells #[Value.int IntKind.i64 0] 25)).heap.size=w.heap.size+3:=by simp
 generalize (((w.alloc (Obj.cells #[Value.int IntKind.i64 c] 3)).alloc (Obj.cells #[Value.int IntKind.i64 0] 3)).alloc (Obj.cells #[Value.int IntKind.i64 0] 25))=W0 at ai aj am ⊢
 refine wpIn_rangeFunc_ownF rfl (by omega) (gf:=163) (lb:= #[]) rfl trivial (enters_of func163 (by kernel_rfl) rfl) (KR W0) (λ_ _=>trivial) (λ_ _ _ _ _ _ _ _=>trivial) (Below.refl _ _) (λ_=>rfl)
  (λpre W=>(∀k∈pre,((k:Nat):Int)≠c)/\G3 w.heap.size (.int .i64 c) (.int .i64 0) (.int .i64 0) W/\Below w.heap.size w W)
  (λal pre W=>al= .ret/\(∃k∈pre,((k:Nat):Int)=c)/\G3 w.heap.size (.int .i64 c) (.int .i64 (sz c.toNat:Nat)) (.int .i64 0) W/\Below w.heap.size w W)
  (λs A B row hs hg O=>⟨hs.1,hs.2.1.kept hg (λr e=>(O r e).2),ownFrom_below (Nat.le_refl _) (by omega) s A B row hs.2.2 hg O⟩)
  (λal s A B row hs hg O=>⟨hs.1,hs.2.1,hs.2.2.1.kept hg (λr e=>(O r e).2),ownFrom_below (Nat.le_refl _) (by omega) s A B row hs.2.2.2 hg O⟩)
  ⟨by simp,ai,aj⟩
  (λx=>{ tmps:= #[ .int .i64 c, .pointer (some ⟨w.heap.size,0,none⟩), .pointer (some ⟨w.heap.size+1,0,none⟩), .pointer (some ⟨w.heap.size+1+1,0,none⟩), .int .i64 (x:Nat), .int .i64 (sz x:Nat), .func (.func 163) #[] #[], .int .i64 (x:Nat), .int .i64 (sz x:Nat),undef,undef,undef,undef],defers:= [] }) ?assign ?body ?done ?stop
 case assign=>
  intro l x W K J;gi_wp2;exact J
 case body=>
  rintro l pre x W ⟨hp,⟨h1,V,Z,f2,f3⟩,I⟩ _;by_cases hx:((x:Nat):Int)=c
  . have an:(((x:Nat):Int)==c)=true:=by simp [hx]
    obtain⟨ab,ac,U⟩:=Y8;clear hx hp I;gi_wp2;have ao:((W.setCell ⟨w.heap.size+1,0,none⟩ (.int .i64 (sz x:Nat))).setCell ⟨w.heap.size+1+1,0,none⟩ (.int .i64 0))=((W.setCell ⟨w.heap.size+1,0,none⟩ (.int .i64 (sz c.toNat:Nat))).setCell ⟨w.heap.size+1+1,0,none⟩ (.int .i64 0)):=by
     have h:=ab.out;subst h;rfl
    exact⟨(KeepsOthers.setCell _ _ _).trans (KeepsOthers.setCell _ _ _),rfl,⟨x,by simp,ab⟩,by rw [ao];exact J6 ⟨h1,V,Z,f2,f3⟩ _ _,(U.setCell (p:=⟨w.heap.size+1,0,none⟩) (by simp) _).setCell (p:=⟨w.heap.size+1+1,0,none⟩) (by simp;omega) _⟩
  . have an:(((x:Nat):Int)==c)=false:=by simp [hx]
    obtain⟨ab,ac,U⟩:=Y8;clear hx hp I;gi_wp2;exact⟨KeepsOthers.refl _,trivial,λk aa=>by
     rcases List.mem_append.1 aa with h|h
     . exact ac.out k h
     . simp at h;rw [h];exact ab.out,⟨h1,V,Z,f2,f3⟩,U⟩
 case done=>
  rintro D xs W aq rfl ⟨hp,⟨h1,V,Z,f2,f3⟩,I⟩ J;have ac:=Zh hp;have U:=Zh I;clear hp I;gi_wp2;have ar:=Yoi;have ae:=(KeepsOthers.setCell (W.setCell ⟨w.heap.size+1,0,none⟩ (.int .i64 0)) ⟨w.heap.size+1+1,0,none⟩ (.int .i64 2)).same D _ ar rfl;refine⟨by simp, .inl ⟨_,_,rfl,run_takeDeferred ae, ?_⟩⟩;have af:=(J6 ⟨h1,V,Z,f2,f3⟩ (.int .i64 0) (.int .i64 2)).kept (grownBy_putObj' _ D (.deferred none)) (λr e=>by cases e;exact⟨_,ae,rfl⟩);obtain⟨_,ag,ah,_⟩:=af;have au:=(U.setCell (p:=⟨w.heap.size+1,0,none⟩) (by simp) (.int .i64 0)).setCell (p:=⟨w.heap.size+1+1,0,none⟩) (by simp;omega) (.int .i64 2);have O:JK c= .tuple #[.int .i64 0, .int .i64 2]:=if_neg (λhh=>ac c.toNat (by simp [CH];omega) (by omega));rw [O];refine⟨.tuple #[.int .i64 0, .int .i64 2], ?_,rfl,au.trans (belowK_b (w:=w) (Nat.le_refl _) _ D _ _ (by omega) ae rfl rfl)⟩;simp [results,f143,go_sem,ag,ah]
 case stop=>
  rintro D c pre W aq aw ⟨rfl,aa,⟨h1,V,Z,f2,f3⟩,I⟩ J;have ax:=Zh aa;have U:=Zh I;clear aa I;gi_wp2;refine⟨by simp, .inl ⟨_,_,rfl,run_takeDeferred J, ?_⟩⟩;have af:=(show G3 _ _ _ _ W from⟨h1,V,Z,f2,f3⟩).kept (grownBy_putObj' _ D (.deferred none)) (λr e=>by cases e;exact⟨_,J,rfl⟩);obtain⟨_,ag,ah,_⟩:=af;have O:JK c= .tuple #[.int .i64 (sz c.toNat:Nat), .int .i64 0]:=by
   obtain⟨k,aa,rfl⟩:=ax.out;refine if_pos ⟨by omega, ?_⟩;have ay :=aa;rcases aw with ⟨az,aA,rfl⟩;simp [CH] at ay;omega
  rw [O];refine⟨.tuple #[.int .i64 (sz c.toNat:Nat), .int .i64 0], ?_,rfl,U.trans (belowK_b (w:=w) (Nat.le_refl _) _ D _ _ (by omega) J rfl rfl)⟩;simp [results,f143,go_sem,ag,ah]
def Ky(B:Nat)(u v x y:Value)(W:World):Prop:=
 G3 B u v x W/\W.cell? ⟨B+1+1+1,0,none⟩=some y/\W.frozen? ⟨B+1+1+1,0,none⟩=false
theorem Ky.kept{row:Option Nat}(h:Ky B u v x y W)(hg:W.grownBy W' row)(I: ∀r,row=some r-> ∃o:Obj,W.heap[r]? =some o/\o.isCells=false):Ky B u v x y W' :=
 ⟨h.1.kept hg I,cell_kept h.2.1 hg I,(frozen_kept h.2.1 hg I).trans h.2.2⟩
theorem Ut(w:World)(u v x y:Value)(t1 t2 t3 t4:TypeId):Ky w.heap.size u v x y ((((w.alloc (.cells #[u] t1)).alloc (.cells #[v] t2)).alloc (.cells #[x] t3)).alloc (.cells #[y] t4)):=by
 refine⟨⟨?_, ?_, ?_, ?_, ?_⟩, ?_, ?_⟩<;>go_simp
def Ydk{P}(h:P:=by
 exact World.cell?_setCell_same' _ _ _ (by rw [World.cell?_setCell_other _ _ _ _ (by simp),World.cell?_setCell_other _ _ _ _ (by simp),I];rfl)):=h
theorem Py(h:Ky B u v x y W)(v' J U :Value):Ky B u v' J U (((W.setCell ⟨B+1,0,none⟩ v').setCell ⟨B+1+1,0,none⟩ J).setCell ⟨B+1+1+1,0,none⟩ U):=by
 obtain⟨O,I,f4⟩:=h;obtain⟨h1,V,O,f2,f3⟩:=J6 O v' J;refine⟨⟨?_, ?_, ?_, ?_, ?_⟩, ?_, ?_⟩
 . exact(World.cell?_setCell_other _ _ _ _ (by simp)).trans h1
 . exact(World.cell?_setCell_other _ _ _ _ (by simp)).trans V
 . exact(World.cell?_setCell_other _ _ _ _ (by simp)).trans O
 . simpa using f2
 . simpa using f3
 . exact Ydk
 . simp [f4]
def cls(n:Int):Nat:=if n<=2 then 0 else if n<=3 then 1 else if n<=4 then 2 else if n<=6 then 3 else if n<=9 then 4 else if n<=13 then 5 else if n<=19 then 6 else 7
theorem Yq{k c:Nat}(U:c<=8)(h:CH c=CH k++ [k])(J: ∀j∈CH k,((sz j:Nat):Int)<n)(hle:n<=(sz k:Nat)):n<=28/\cls n=k:=by
 rw [FW] at h;have V:c=k+1:=by have:=congrArg List.length h;simpa [CH] using this
 have I: ∀j,j<k->((sz j:Nat):Int)<n:=λj O=>J j (by simpa [CH] using O)
 have:k=0\/k=1\/k=2\/k=3\/k=4\/k=5\/k=6\/k=7:=by omega
 rcases this with rfl|rfl|rfl|rfl|rfl|rfl|rfl|rfl
 . simp [sz] at hle;exact⟨by omega,by unfold cls;(repeat' split)<;>omega⟩
 . have:=I 0 (by omega);simp [sz] at hle this;exact⟨by omega,by unfold cls;(repeat' split)<;>omega⟩
 . have:=I 1 (by omega);simp [sz] at hle this;exact⟨by omega,by unfold cls;(repeat' split)<;>omega⟩
 . have:=I 2 (by omega);simp [sz] at hle this;exact⟨by omega,by unfold cls;(repeat' split)<;>omega⟩
 . have:=I 3 (by omega);simp [sz] at hle this;exact⟨by omega,by unfold cls;(repeat' split)<;>omega⟩
 . have:=I 4 (by omega);simp [sz] at hle this;exact⟨by omega,by unfold cls;(repeat' split)<;>omega⟩
 . have:=I 5 (by omega);simp [sz] at hle this;exact⟨by omega,by unfold cls;(repeat' split)<;>omega⟩
 . have:=I 6 (by omega);simp [sz] at hle this;exact⟨by omega,by unfold cls;(repeat' split)<;>omega⟩
theorem Xw(I: ∀j∈CH 8,((sz j:Nat):Int)<n):28<n:=by
 have:=I 7 (by simp [CH]);simpa [sz] using this
def Un(n:Int):Nat:=if 1<=n/\n<=28 then cls n else 0
def Ug(n:Int):Bool:=decide (1<=n/\n<=28)
def ME(n:Int):Nat:=if 1<=n/\n<=4000 then 0 else 2
def GG(n:Int):Value:= .tuple #[.int .i64 (Un n:Nat), .bool (Ug n), .int .i64 (ME n:Nat)]
theorem Je(n:Int)(w:World):Calls prog 97 #[.int .i64 n] w λe w' =>e= .returned (GG n)/\Below w.heap.size w w' :=by
 refine(callsIn_wide (n:=9)).1 ?_;refine callsIn_of_wp_marks func97 rfl trivial ?_ rfl;simp only [ntmps97,List.size_toArray,List.length_cons,List.length_nil,Nat.reduceAdd,Nat.reduceSub,Array.replicate_succ,Array.replicate_zero,List.push_toArray,List.append_toArray,List.nil_append,List.cons_append];by_cases ab:1<=n/\n<=4000
 . have d1:decide (n<1)=false:=by simp;omega
   have d2:decide ((4000:Int)<n)=false:=(by simp;omega);have ae:=Zh ab;clear ab;gi_wp2_with (refine⟨trivial, ?_⟩;gi_at_call 145;refine(callsIn_wide.2 (KG _)).mono ?_;rintro e w' ⟨rfl,rfl⟩);clear d1 d2;have ar:=Ut w (.int .i64 n) (.int .i64 0) (.bool false) (.int .i64 0) 3 3 4 25;have au:Below w.heap.size w ((((w.alloc (Obj.cells #[Value.int IntKind.i64 n] 3)).alloc (Obj.cells #[Value.int IntKind.i64 0] 3)).alloc (Obj.cells #[Value.bool false] 4)).alloc (Obj.cells #[Value.int IntKind.i64 0] 25)):=((((Below.refl _ w).alloc (Nat.le_refl _) _).alloc (by simp) _).alloc (by simp;omega) _).alloc (by simp;omega) _;have ay:((((w.alloc (Obj.cells #[Value.int IntKind.i64 n] 3)).alloc (Obj.cells #[Value.int IntKind.i64 0] 3)).alloc (Obj.cells #[Value.bool false] 4)).alloc (Obj.cells #[Value.int IntKind.i64 0] 25)).heap.size=w.heap.size+4:=(by simp);generalize ((((w.alloc (Obj.cells #[Value.int IntKind.i64 n] 3)).alloc (Obj.cells #[Value.int IntKind.i64 0] 3)).alloc (Obj.cells #[Value.bool false] 4)).alloc (Obj.cells #[Value.int IntKind.i64 0] 25))=W0 at ar au ay ⊢
   refine wpIn_rangeFunc_ownF rfl (by omega) (gf:=163) (lb:= #[]) rfl trivial (enters_of func163 (by kernel_rfl) rfl) (KR W0) (λ_ _=>trivial) (λ_ _ _ _ _ _ _ _=>trivial) (Below.refl _ _) (λ_=>rfl)
    (λpre W=>(∀k∈pre,((sz k:Nat):Int)<n)/\Ky w.heap.size (.int .i64 n) (.int .i64 0) (.bool false) (.int .i64 0) W/\Below w.heap.size w W)
    (λaw pre W=>aw= .ret/\ ∃ps k,pre=ps++ [k]/\(∀j∈ps,((sz j:Nat):Int)<n)/\n<=(sz k:Nat)/\Ky w.heap.size (.int .i64 n) (.int .i64 (k:Nat)) (.bool true) (.int .i64 0) W/\Below w.heap.size w W)
    (λs A B row hs hg O=>⟨hs.1,hs.2.1.kept hg (λr e=>(O r e).2),ownFrom_below (Nat.le_refl _) (by omega) s A B row hs.2.2 hg O⟩)
    (λaw s A B row hs hg O=>by obtain⟨h1,ps,k,V,U,Z,az,aA⟩:=hs;exact⟨h1,ps,k,V,U,Z,az.kept hg (λr e=>(O r e).2),ownFrom_below (Nat.le_refl _) (by omega) s A B row aA hg O⟩)
    ⟨by simp,ar,au⟩
    (λx=>{ tmps:= #[ .int .i64 n, .pointer (some ⟨w.heap.size,0,none⟩), .pointer (some ⟨w.heap.size+1,0,none⟩), .pointer (some ⟨w.heap.size+1+1,0,none⟩), .pointer (some ⟨w.heap.size+1+1+1,0,none⟩), .int .i64 (x:Nat), .int .i64 (sz x:Nat), .int .i64 n, .bool false, .bool false, .int .i64 n, .bool false, .bool false, .func (.func 163) #[] #[], .int .i64 (x:Nat), .int .i64 (sz x:Nat),undef,undef,undef,undef],defers:= [] }) ?assign ?body ?done ?stop
   case assign=>
    intro l x W K J;gi_wp2;exact J
   case body=>
    rintro l pre x W ⟨hp,⟨⟨h1,V,U,f2,f3⟩,Z,f4⟩,I⟩ _;by_cases hx:n<=((sz x:Nat):Int)
    . have aB:decide (n<=((sz x:Nat):Int))=true:=by simp [hx]
      obtain⟨af,ac,aa⟩:=Y8;clear hx hp I;gi_wp2;exact⟨((KeepsOthers.setCell _ _ _).trans (KeepsOthers.setCell _ _ _)).trans (KeepsOthers.setCell _ _ _),rfl,pre,x,rfl,ac,af,Py ⟨⟨h1,V,U,f2,f3⟩,Z,f4⟩ _ _ _,((aa.setCell (p:=⟨w.heap.size+1,0,none⟩) (by simp) _).setCell (p:=⟨w.heap.size+1+1,0,none⟩) (by simp;omega) _).setCell (p:=⟨w.heap.size+1+1+1,0,none⟩) (by simp;omega) _⟩
    . have aB:decide (n<=((sz x:Nat):Int))=false:=by simp [hx]
      obtain⟨af,ac,aa⟩:=Y8;clear hx hp I;gi_wp2;exact⟨KeepsOthers.refl _,trivial,λk aC=>by
       rcases List.mem_append.1 aC with h|h
       . exact ac.out k h
       . simp at h;rw [h];have:=af.out;omega,⟨⟨h1,V,U,f2,f3⟩,Z,f4⟩,aa⟩
   case done=>
    rintro D xs W aD rfl ⟨hp,⟨⟨h1,V,U,f2,f3⟩,Z,f4⟩,I⟩ J;have ac:=Zh hp;have aa:=Zh I;clear hp I;gi_wp2;have aE:=Yoi;have aF:=(KeepsOthers.setCell (W.setCell ⟨w.heap.size+1,0,none⟩ (.int .i64 0)) ⟨w.heap.size+1+1,0,none⟩ (.bool false)).same D _ aE rfl;have ag:=(KeepsOthers.setCell ((W.setCell ⟨w.heap.size+1,0,none⟩ (.int .i64 0)).setCell ⟨w.heap.size+1+1,0,none⟩ (.bool false)) ⟨w.heap.size+1+1+1,0,none⟩ (.int .i64 0)).same D _ aF rfl;refine⟨by simp, .inl ⟨_,_,rfl,run_takeDeferred ag, ?_⟩⟩;have ah:=(Py ⟨⟨h1,V,U,f2,f3⟩,Z,f4⟩ (.int .i64 0) (.bool false) (.int .i64 0)).kept (grownBy_putObj' _ D (.deferred none)) (λr e=>by cases e;exact⟨_,ag,rfl⟩);obtain⟨⟨_,ai,aj,_⟩,al,_⟩:=ah;have aG:=((aa.setCell (p:=⟨w.heap.size+1,0,none⟩) (by simp) (.int .i64 0)).setCell (p:=⟨w.heap.size+1+1,0,none⟩) (by simp;omega) (.bool false)).setCell (p:=⟨w.heap.size+1+1+1,0,none⟩) (by simp;omega) (.int .i64 0);have am:=Xw ac.out;have O:GG n= .tuple #[.int .i64 0, .bool false, .int .i64 0]:=by
     have:=ae.out;simp only [GG,Un,Ug,ME];rw [if_neg (by omega),if_pos this,decide_eq_false (by omega)];rfl
    rw [O];refine⟨.tuple #[.int .i64 0, .bool false, .int .i64 0], ?_,rfl,aG.trans (belowK_b (w:=w) (Nat.le_refl _) _ D _ _ (by omega) ag rfl rfl)⟩;simp [results,f97,go_sem,ai,aj,al]
   case stop=>
    rintro D c pre W aD ⟨aH,aI,an⟩ ⟨rfl,ps,k,ao,ax,hle,⟨⟨h1,V,U,f2,f3⟩,Z,f4⟩,I⟩ J;have aq:ps=CH k:=by
     have e:=an.symm.trans ao;have aJ:aH ≠0:=(by rintro rfl;simp [CH] at e);obtain⟨m,rfl⟩:=Nat.exists_eq_succ_of_ne_zero aJ;rw [Nat.succ_eq_add_one,<-FW] at e;have:=List.append_inj' e rfl;obtain⟨ha,I⟩:=this;have aK:m=k:=(by simpa using I);rw [<-aK];exact ha.symm
    have am:=Yq (n:=n) (k:=k) aI (by rw [<-aq,<-ao,an]) (aq▸ax) hle;have aa:=Zh I;have aL:=Zh am;clear I am aq an ao ax hle;gi_wp2;refine⟨by simp, .inl ⟨_,_,rfl,run_takeDeferred J, ?_⟩⟩;have ah:=(show Ky _ _ _ _ _ W from⟨⟨h1,V,U,f2,f3⟩,Z,f4⟩).kept (grownBy_putObj' _ D (.deferred none)) (λr e=>by cases e;exact⟨_,J,rfl⟩);obtain⟨⟨_,ai,aj,_⟩,al,_⟩:=ah;have O:GG n= .tuple #[.int .i64 (k:Nat), .bool true, .int .i64 0]:=by
     have h1:=ae.out;obtain⟨V,U⟩:=aL.out;simp only [GG,Un,Ug,ME];rw [if_pos (by omega),if_pos h1,decide_eq_true (by omega),U];rfl
    rw [O];refine⟨.tuple #[.int .i64 (k:Nat), .bool true, .int .i64 0], ?_,rfl,aa.trans (belowK_b (w:=w) (Nat.le_refl _) _ D _ _ (by omega) J rfl rfl)⟩;simp [results,f97,go_sem,ai,aj,al]
 . have O:GG n= .tuple #[.int .i64 0, .bool false, .int .i64 2]:=by
    simp only [GG,Un,Ug,ME];rw [if_neg (by omega),if_neg ab,decide_eq_false (by omega)];rfl
   rw [O];by_cases aM:n<1
   focus
    have d1:decide (n<1)=true:=by simp;omega
   rotate_left
   focus
    have d1:decide (n<1)=false:=(by simp;omega);have d2:decide ((4000:Int)<n)=true:=by simp;omega
   all_goals
    have ae:=Zh ab;clear ab O;gi_wp2;refine⟨.tuple #[.int .i64 0, .bool false, .int .i64 2], ?_,rfl,((((Below.refl _ w).alloc (Nat.le_refl _) _).alloc (by simp) _).alloc (by simp;omega) _).alloc (by simp;omega) _⟩;simp [results,f97,go_sem]
