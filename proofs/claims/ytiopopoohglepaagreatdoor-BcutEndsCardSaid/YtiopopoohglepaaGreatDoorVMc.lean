/- A part. -/
import Derived.Test.YtiopopoohglepaaGreatDoorChecked
import Derived.RangeFuncNested
import Derived.RangeFuncBound
import Derived.RangeFuncCalls
import Derived.RangeFuncLeaves
import Derived.Shelf.Abstract
import Derived.Shelf.RegionOpen
import Derived.WalkKit
import Derived.OwnWalkIn
import Derived.TacticsInMore
import Derived.LoopNIn
import Derived.LoopIn
import Derived.Below
import Derived.WalkLawsBesides
import Derived.WalkSpells
import Derived.Lib.Hide
set_option linter.all false
set_option maxRecDepth 100000
set_option maxHeartbeats 1000000
namespace Go.Proofs.YtiopopoohglepaaGreatDoor
variable {B:Nat}{W W':World}{n:Int}{u v x y:Value}
abbrev Zr:=Nat->Option (List Nat)
theorem Zh{p:Prop}(h:p):RowKit.Hid p:=h
theorem Zx{α:Sort _}(a:α): ∃x,x=a:=⟨_,rfl⟩
open Go.Proofs.Tryz
open Go.RowKit Go.Shelf
attribute [local go_sem] Oper.semAt_some
def sz(c:Nat):Nat:=if c=0 then 2 else if c=1 then 3 else if c=2 then 4 else if c=3 then 6 else if c=4 then 9 else if c=5 then 13 else if c=6 then 19 else if c=7 then 28 else 42
def CG(c:Nat):List Nat:=List.range c
abbrev U8(c:Nat):Array Value:= #[.int .i64 (c:Int), .int .i64 (sz c:Int)]
theorem FU(c:Nat):CG c++ [c]=CG (c+1):=by simp [CG,List.range_succ]
def Zz{P}(h:P:=by
 have:c=0\/c=1\/c=2\/c=3\/c=4\/c=5\/c=6\/c=7:=by omega
 rcases this with rfl|rfl|rfl|rfl|rfl|rfl|rfl|rfl<;>decide):=h
theorem M8(c:Nat)(h:c<8):((sz c:Nat):Int)<=31/\((sz c:Nat):Int)+max ((sz c:Int)/2) 1=(sz (c+1):Nat)/\2<=sz c:=by
 exact Zz
def Wq(xs:List Nat):Prop:=xs=CG 8
def UD(xs:List Nat):Prop:= ∃c,c<=8/\xs=CG c
theorem KQ(w:World):SeqStopsK Fence.wide 8 prog 163 #[] U8 (λ_ _=>True) Wq UD 8 w:=λl ab am W _ _ _ I h0=>by
 refine callsIn_of_wp func163 rfl trivial ?_ rfl;simp only [ntmps163,List.size_toArray,List.length_cons,List.length_nil,Nat.reduceAdd,Nat.reduceSub,Array.replicate_succ,Array.replicate_zero,List.push_toArray,List.append_toArray,List.nil_append,List.cons_append];gi_wp2
 gi_loopw [2,3] (λJ ac wr=> ∃c:Nat,c<=8/\J= .int .i64 c/\ac= .int .i64 (sz c:Nat)/\ab (CG c) wr) (λJ _ _=>8-(intOf J).toNat)
 case atStart=>exact⟨0,by omega,rfl,rfl,h0⟩
 case round=>
  obtain⟨c,an,rfl,rfl,d⟩:=hrel;by_cases ae:c<8
  . obtain⟨ao,V,aq⟩:=M8 c ae
    obtain⟨fn,tmps,assign,body,af,Z⟩:=I (CG c) c wr d (by simp [CG];omega);dsimp only [U8] at af;have ag:=Zh V;have ah:=Zh Z;have aa:=Zh d;clear V Z d I;generalize hs:sz c=s at*;clear hs;gi_wp2;refine(ah).mono ?_;rintro e ar (⟨rfl,O,_⟩|⟨rfl,U⟩)
    . rw [FU] at O
      have ai:=Zh O;clear O;gi_wp2;go_roundw
      case rel=>exact⟨c+1,by omega,by go_num,by have h:=ag.out;rw [show((s:Int)+(s:Int)/2)=((sz (c+1):Nat):Int) by omega],ai⟩
      case measure=>simp [intOf];omega
    . rw [FU] at U
      have aj:=Zh U;clear U;gi_wp2;refine bodyPost_ret (results_none rfl _ _ _) rfl ?_;exact⟨⟨_,rfl⟩, .inr ⟨_,⟨c+1,by omega,rfl⟩,aj⟩⟩
  . obtain rfl:c=8:=by omega
    have aa:=Zh d;have al:sz 8=42:=rfl;rw [al];clear d I;gi_wp2;go_end0;exact⟨⟨_,rfl⟩, .inl ⟨_,rfl,aa⟩⟩
def G4(B:Nat)(u v x:Value)(W:World):Prop:=
 W.cell? ⟨B,0,none⟩=some u/\W.cell? ⟨B+1,0,none⟩=some v/\W.cell? ⟨B+1+1,0,none⟩=some x/\W.frozen? ⟨B+1,0,none⟩=false/\W.frozen? ⟨B+1+1,0,none⟩=false
theorem G4.kept{row:Option Nat}(h:G4 B u v x W)(hg:W.grownBy W' row)(d: ∀r,row=some r-> ∃o:Obj,W.heap[r]? =some o/\o.isCells=false):G4 B u v x W' :=
 ⟨cell_kept h.1 hg d,cell_kept h.2.1 hg d,cell_kept h.2.2.1 hg d,(frozen_kept h.2.1 hg d).trans h.2.2.2.1,(frozen_kept h.2.2.1 hg d).trans h.2.2.2.2⟩
theorem TO(w:World)(u v x:Value)(t1 t2 t3:TypeId):G4 w.heap.size u v x (((w.alloc (.cells #[u] t1)).alloc (.cells #[v] t2)).alloc (.cells #[x] t3)):=by
 refine⟨?_, ?_, ?_, ?_, ?_⟩<;>go_simp
theorem J4(h:G4 B u v x W)(v' d :Value):G4 B u v' d ((W.setCell ⟨B+1,0,none⟩ v').setCell ⟨B+1+1,0,none⟩ d):=by
 obtain⟨h1,I,J,f2,f3⟩:=h;refine⟨?_, ?_, ?_, ?_, ?_⟩
 . exact(World.cell?_setCell_other _ _ _ _ (by simp)).trans ((World.cell?_setCell_other _ _ _ _ (by simp)).trans h1)
 . exact(World.cell?_setCell_other _ _ _ _ (by simp)).trans (World.cell?_setCell_same' _ _ _ (by rw [I];rfl))
 . exact World.cell?_setCell_same' _ _ _ (by rw [World.cell?_setCell_other _ _ _ _ (by simp),J];rfl)
 . simp [f2]
 . simp [f3]
def JL(c:Int):Value:=if 0<=c/\c<8 then .tuple #[.int .i64 (sz c.toNat:Nat), .int .i64 0] else .tuple #[.int .i64 0, .int .i64 2]
theorem KF(w:World):Calls prog 145 #[] w λe w' =>e= .returned (.func (.func 163) #[] #[])/\w=w' :=by
 go_enter func145,ntmps145;go_wp2;go_ret;exact⟨rfl,rfl⟩
def Ynt{P}(h:P:=by
 have d:=(KeepsOthers.setCell W ⟨w.heap.size+1,0,none⟩ (.int .i64 0)).same D _ I rfl;exact d):=h
def Zq{P}(h:P:=by
 have I:=Zh hx;have J:=Zh hp;have O:=Zh d;exact And.intro I (And.intro J O)):=h
theorem Ji(c:Int)(w:World):Calls prog 143 #[.int .i64 c] w λe w' =>e= .returned (JL c)/\Below w.heap.size w w' :=by
 refine(callsIn_wide (n:=9)).1 ?_;refine callsIn_of_wp_marks func143 rfl trivial ?_ rfl;simp only [ntmps143,List.size_toArray,List.length_cons,List.length_nil,Nat.reduceAdd,Nat.reduceSub,Array.replicate_succ,Array.replicate_zero,List.push_toArray,List.append_toArray,List.nil_append,List.cons_append];gi_wp2_with (refine⟨trivial, ?_⟩;gi_at_call 145;refine(callsIn_wide.2 (KF _)).mono ?_;rintro e w' ⟨rfl,rfl⟩);have ah:=TO w (.int .i64 c) (.int .i64 0) (.int .i64 0) 3 3 25;have ai:Below w.heap.size w (((w.alloc (Obj.cells #[Value.int IntKind.i64 c] 3)).alloc (Obj.cells #[Value.int IntKind.i64 0] 3)).alloc (Obj.cells #[Value.int IntKind.i64 0] 25)):=(((Below.refl _ w).alloc (Nat.le_refl _) _).alloc (by simp) _).alloc (by simp;omega) _;have al:(((w.alloc (Obj.cells #[Value.int IntKind.i64 c] 3)).alloc (Obj.cells #[Value.int IntKind.i64 0] 3)).alloc (Obj.cells #[Value.int IntKind.i64 0] 25)).heap.size=w.heap.size+3:=by simp
 generalize (((w.alloc (Obj.cells #[Value.int IntKind.i64 c] 3)).alloc (Obj.cells #[Value.int IntKind.i64 0] 3)).alloc (Obj.cells #[Value.int IntKind.i64 0] 25))=W0 at ah ai al ⊢
 refine wpIn_rangeFunc_ownF rfl (by omega) (gf:=163) (lb:= #[]) rfl trivial (enters_of func163 (by kernel_rfl) rfl) (KQ W0) (λ_ _=>trivial) (λ_ _ _ _ _ _ _ _=>trivial) (Below.refl _ _) (λ_=>rfl)
  (λpre W=>(∀k∈pre,((k:Nat):Int)≠c)/\G4 w.heap.size (.int .i64 c) (.int .i64 0) (.int .i64 0) W/\Below w.heap.size w W)
  (λaj pre W=>aj= .ret/\(∃k∈pre,((k:Nat):Int)=c)/\G4 w.heap.size (.int .i64 c) (.int .i64 (sz c.toNat:Nat)) (.int .i64 0) W/\Below w.heap.size w W)
  (λs A B row hs hg J=>⟨hs.1,hs.2.1.kept hg (λr e=>(J r e).2),ownFrom_below (Nat.le_refl _) (by omega) s A B row hs.2.2 hg J⟩)
  (λaj s A B row hs hg J=>⟨hs.1,hs.2.1,hs.2.2.1.kept hg (λr e=>(J r e).2),ownFrom_below (Nat.le_refl _) (by omega) s A B row hs.2.2.2 hg J⟩)
  ⟨by simp,ah,ai⟩
  (λx=>{ tmps:= #[ .int .i64 c, .pointer (some ⟨w.heap.size,0,none⟩), .pointer (some ⟨w.heap.size+1,0,none⟩), .pointer (some ⟨w.heap.size+1+1,0,none⟩), .int .i64 (x:Nat), .int .i64 (sz x:Nat), .func (.func 163) #[] #[], .int .i64 (x:Nat), .int .i64 (sz x:Nat),undef,undef,undef,undef],defers:= [] }) ?assign ?body ?done ?stop
 case assign=>
  intro l x W K I;gi_wp2;exact I
 case body=>
  rintro l pre x W ⟨hp,⟨h1,U,V,f2,f3⟩,d⟩ _;by_cases hx:((x:Nat):Int)=c
  . have am:(((x:Nat):Int)==c)=true:=by simp [hx]
    obtain⟨aa,ab,O⟩:=Zq;clear hx hp d;gi_wp2;have an:((W.setCell ⟨w.heap.size+1,0,none⟩ (.int .i64 (sz x:Nat))).setCell ⟨w.heap.size+1+1,0,none⟩ (.int .i64 0))=((W.setCell ⟨w.heap.size+1,0,none⟩ (.int .i64 (sz c.toNat:Nat))).setCell ⟨w.heap.size+1+1,0,none⟩ (.int .i64 0)):=by
     have h:=aa.out;subst h;rfl
    exact⟨(KeepsOthers.setCell _ _ _).trans (KeepsOthers.setCell _ _ _),rfl,⟨x,by simp,aa⟩,by rw [an];exact J4 ⟨h1,U,V,f2,f3⟩ _ _,(O.setCell (p:=⟨w.heap.size+1,0,none⟩) (by simp) _).setCell (p:=⟨w.heap.size+1+1,0,none⟩) (by simp;omega) _⟩
  . have am:(((x:Nat):Int)==c)=false:=by simp [hx]
    obtain⟨aa,ab,O⟩:=Zq;clear hx hp d;gi_wp2;exact⟨KeepsOthers.refl _,trivial,λk Z=>by
     rcases List.mem_append.1 Z with h|h
     . exact ab.out k h
     . simp at h;rw [h];exact aa.out,⟨h1,U,V,f2,f3⟩,O⟩
 case done=>
  rintro D xs W ao rfl ⟨hp,⟨h1,U,V,f2,f3⟩,d⟩ I;have ab:=Zh hp;have O:=Zh d;clear hp d;gi_wp2;have aq:=Ynt;have ac:=(KeepsOthers.setCell (W.setCell ⟨w.heap.size+1,0,none⟩ (.int .i64 0)) ⟨w.heap.size+1+1,0,none⟩ (.int .i64 2)).same D _ aq rfl;refine⟨by simp, .inl ⟨_,_,rfl,run_takeDeferred ac, ?_⟩⟩;have ae:=(J4 ⟨h1,U,V,f2,f3⟩ (.int .i64 0) (.int .i64 2)).kept (grownBy_putObj' _ D (.deferred none)) (λr e=>by cases e;exact⟨_,ac,rfl⟩);obtain⟨_,af,ag,_⟩:=ae;have ar:=(O.setCell (p:=⟨w.heap.size+1,0,none⟩) (by simp) (.int .i64 0)).setCell (p:=⟨w.heap.size+1+1,0,none⟩) (by simp;omega) (.int .i64 2);have J:JL c= .tuple #[.int .i64 0, .int .i64 2]:=if_neg (λhh=>ab c.toNat (by simp [CG];omega) (by omega));rw [J];refine⟨.tuple #[.int .i64 0, .int .i64 2], ?_,rfl,ar.trans (belowK_b (w:=w) (Nat.le_refl _) _ D _ _ (by omega) ac rfl rfl)⟩;simp [results,f143,go_sem,af,ag]
 case stop=>
  rintro D c pre W ao au ⟨rfl,Z,⟨h1,U,V,f2,f3⟩,d⟩ I;have aw:=Zh Z;have O:=Zh d;clear Z d;gi_wp2;refine⟨by simp, .inl ⟨_,_,rfl,run_takeDeferred I, ?_⟩⟩;have ae:=(show G4 _ _ _ _ W from⟨h1,U,V,f2,f3⟩).kept (grownBy_putObj' _ D (.deferred none)) (λr e=>by cases e;exact⟨_,I,rfl⟩);obtain⟨_,af,ag,_⟩:=ae;have J:JL c= .tuple #[.int .i64 (sz c.toNat:Nat), .int .i64 0]:=by
   obtain⟨k,Z,rfl⟩:=aw.out;refine if_pos ⟨by omega, ?_⟩;have ax :=Z;rcases au with ⟨ay,az,rfl⟩;simp [CG] at ax;omega
  rw [J];refine⟨.tuple #[.int .i64 (sz c.toNat:Nat), .int .i64 0], ?_,rfl,O.trans (belowK_b (w:=w) (Nat.le_refl _) _ D _ _ (by omega) I rfl rfl)⟩;simp [results,f143,go_sem,af,ag]
def Kx(B:Nat)(u v x y:Value)(W:World):Prop:=
 G4 B u v x W/\W.cell? ⟨B+1+1+1,0,none⟩=some y/\W.frozen? ⟨B+1+1+1,0,none⟩=false
theorem Kx.kept{row:Option Nat}(h:Kx B u v x y W)(hg:W.grownBy W' row)(d: ∀r,row=some r-> ∃o:Obj,W.heap[r]? =some o/\o.isCells=false):Kx B u v x y W' :=
 ⟨h.1.kept hg d,cell_kept h.2.1 hg d,(frozen_kept h.2.1 hg d).trans h.2.2⟩
theorem T8(w:World)(u v x y:Value)(t1 t2 t3 t4:TypeId):Kx w.heap.size u v x y ((((w.alloc (.cells #[u] t1)).alloc (.cells #[v] t2)).alloc (.cells #[x] t3)).alloc (.cells #[y] t4)):=by
 refine⟨⟨?_, ?_, ?_, ?_, ?_⟩, ?_, ?_⟩<;>go_simp
def Ydh{P}(h:P:=by
 exact World.cell?_setCell_same' _ _ _ (by rw [World.cell?_setCell_other _ _ _ _ (by simp),World.cell?_setCell_other _ _ _ _ (by simp),d];rfl)):=h
theorem Pt(h:Kx B u v x y W)(v' I O :Value):Kx B u v' I O (((W.setCell ⟨B+1,0,none⟩ v').setCell ⟨B+1+1,0,none⟩ I).setCell ⟨B+1+1+1,0,none⟩ O):=by
 obtain⟨J,d,f4⟩:=h;obtain⟨h1,U,J,f2,f3⟩:=J4 J v' I;refine⟨⟨?_, ?_, ?_, ?_, ?_⟩, ?_, ?_⟩
 . exact(World.cell?_setCell_other _ _ _ _ (by simp)).trans h1
 . exact(World.cell?_setCell_other _ _ _ _ (by simp)).trans U
 . exact(World.cell?_setCell_other _ _ _ _ (by simp)).trans J
 . simpa using f2
 . simpa using f3
 . exact Ydh
 . simp [f4]
def cls(n:Int):Nat:=if n<=2 then 0 else if n<=3 then 1 else if n<=4 then 2 else if n<=6 then 3 else if n<=9 then 4 else if n<=13 then 5 else if n<=19 then 6 else 7
theorem XY{k c:Nat}(O:c<=8)(h:CG c=CG k++ [k])(I: ∀j∈CG k,((sz j:Nat):Int)<n)(hle:n<=(sz k:Nat)):n<=28/\cls n=k:=by
 rw [FU] at h;have U:c=k+1:=by have:=congrArg List.length h;simpa [CG] using this
 have d: ∀j,j<k->((sz j:Nat):Int)<n:=λj J=>I j (by simpa [CG] using J)
 have:k=0\/k=1\/k=2\/k=3\/k=4\/k=5\/k=6\/k=7:=by omega
 rcases this with rfl|rfl|rfl|rfl|rfl|rfl|rfl|rfl
 . simp [sz] at hle;exact⟨by omega,by unfold cls;(repeat' split)<;>omega⟩
 . have:=d 0 (by omega);simp [sz] at hle this;exact⟨by omega,by unfold cls;(repeat' split)<;>omega⟩
 . have:=d 1 (by omega);simp [sz] at hle this;exact⟨by omega,by unfold cls;(repeat' split)<;>omega⟩
 . have:=d 2 (by omega);simp [sz] at hle this;exact⟨by omega,by unfold cls;(repeat' split)<;>omega⟩
 . have:=d 3 (by omega);simp [sz] at hle this;exact⟨by omega,by unfold cls;(repeat' split)<;>omega⟩
 . have:=d 4 (by omega);simp [sz] at hle this;exact⟨by omega,by unfold cls;(repeat' split)<;>omega⟩
 . have:=d 5 (by omega);simp [sz] at hle this;exact⟨by omega,by unfold cls;(repeat' split)<;>omega⟩
 . have:=d 6 (by omega);simp [sz] at hle this;exact⟨by omega,by unfold cls;(repeat' split)<;>omega⟩
theorem W4(d: ∀j∈CG 8,((sz j:Nat):Int)<n):28<n:=by
 have:=d 7 (by simp [CG]);simpa [sz] using this
def T4(n:Int):Nat:=if 1<=n/\n<=28 then cls n else 0
def TY(n:Int):Bool:=decide (1<=n/\n<=28)
def MA(n:Int):Nat:=if 1<=n/\n<=4000 then 0 else 2
def GG(n:Int):Value:= .tuple #[.int .i64 (T4 n:Nat), .bool (TY n), .int .i64 (MA n:Nat)]
theorem Jg(n:Int)(w:World):Calls prog 97 #[.int .i64 n] w λe w' =>e= .returned (GG n)/\Below w.heap.size w w' :=by
 refine(callsIn_wide (n:=9)).1 ?_;refine callsIn_of_wp_marks func97 rfl trivial ?_ rfl;simp only [ntmps97,List.size_toArray,List.length_cons,List.length_nil,Nat.reduceAdd,Nat.reduceSub,Array.replicate_succ,Array.replicate_zero,List.push_toArray,List.append_toArray,List.nil_append,List.cons_append];by_cases aa:1<=n/\n<=4000
 . have d1:decide (n<1)=false:=by simp;omega
   have d2:decide ((4000:Int)<n)=false:=(by simp;omega);have ac:=Zh aa;clear aa;gi_wp2_with (refine⟨trivial, ?_⟩;gi_at_call 145;refine(callsIn_wide.2 (KF _)).mono ?_;rintro e w' ⟨rfl,rfl⟩);clear d1 d2;have aq:=T8 w (.int .i64 n) (.int .i64 0) (.bool false) (.int .i64 0) 3 3 4 25;have ar:Below w.heap.size w ((((w.alloc (Obj.cells #[Value.int IntKind.i64 n] 3)).alloc (Obj.cells #[Value.int IntKind.i64 0] 3)).alloc (Obj.cells #[Value.bool false] 4)).alloc (Obj.cells #[Value.int IntKind.i64 0] 25)):=((((Below.refl _ w).alloc (Nat.le_refl _) _).alloc (by simp) _).alloc (by simp;omega) _).alloc (by simp;omega) _;have ax:((((w.alloc (Obj.cells #[Value.int IntKind.i64 n] 3)).alloc (Obj.cells #[Value.int IntKind.i64 0] 3)).alloc (Obj.cells #[Value.bool false] 4)).alloc (Obj.cells #[Value.int IntKind.i64 0] 25)).heap.size=w.heap.size+4:=(by simp);generalize ((((w.alloc (Obj.cells #[Value.int IntKind.i64 n] 3)).alloc (Obj.cells #[Value.int IntKind.i64 0] 3)).alloc (Obj.cells #[Value.bool false] 4)).alloc (Obj.cells #[Value.int IntKind.i64 0] 25))=W0 at aq ar ax ⊢
   refine wpIn_rangeFunc_ownF rfl (by omega) (gf:=163) (lb:= #[]) rfl trivial (enters_of func163 (by kernel_rfl) rfl) (KQ W0) (λ_ _=>trivial) (λ_ _ _ _ _ _ _ _=>trivial) (Below.refl _ _) (λ_=>rfl)
    (λpre W=>(∀k∈pre,((sz k:Nat):Int)<n)/\Kx w.heap.size (.int .i64 n) (.int .i64 0) (.bool false) (.int .i64 0) W/\Below w.heap.size w W)
    (λau pre W=>au= .ret/\ ∃ps k,pre=ps++ [k]/\(∀j∈ps,((sz j:Nat):Int)<n)/\n<=(sz k:Nat)/\Kx w.heap.size (.int .i64 n) (.int .i64 (k:Nat)) (.bool true) (.int .i64 0) W/\Below w.heap.size w W)
    (λs A B row hs hg J=>⟨hs.1,hs.2.1.kept hg (λr e=>(J r e).2),ownFrom_below (Nat.le_refl _) (by omega) s A B row hs.2.2 hg J⟩)
    (λau s A B row hs hg J=>by obtain⟨h1,ps,k,U,O,V,ay,az⟩:=hs;exact⟨h1,ps,k,U,O,V,ay.kept hg (λr e=>(J r e).2),ownFrom_below (Nat.le_refl _) (by omega) s A B row az hg J⟩)
    ⟨by simp,aq,ar⟩
    (λx=>{ tmps:= #[ .int .i64 n, .pointer (some ⟨w.heap.size,0,none⟩), .pointer (some ⟨w.heap.size+1,0,none⟩), .pointer (some ⟨w.heap.size+1+1,0,none⟩), .pointer (some ⟨w.heap.size+1+1+1,0,none⟩), .int .i64 (x:Nat), .int .i64 (sz x:Nat), .int .i64 n, .bool false, .bool false, .int .i64 n, .bool false, .bool false, .func (.func 163) #[] #[], .int .i64 (x:Nat), .int .i64 (sz x:Nat),undef,undef,undef,undef],defers:= [] }) ?assign ?body ?done ?stop
   case assign=>
    intro l x W K I;gi_wp2;exact I
   case body=>
    rintro l pre x W ⟨hp,⟨⟨h1,U,O,f2,f3⟩,V,f4⟩,d⟩ _;by_cases hx:n<=((sz x:Nat):Int)
    . have aA:decide (n<=((sz x:Nat):Int))=true:=by simp [hx]
      obtain⟨ae,ab,Z⟩:=Zq;clear hx hp d;gi_wp2;exact⟨((KeepsOthers.setCell _ _ _).trans (KeepsOthers.setCell _ _ _)).trans (KeepsOthers.setCell _ _ _),rfl,pre,x,rfl,ab,ae,Pt ⟨⟨h1,U,O,f2,f3⟩,V,f4⟩ _ _ _,((Z.setCell (p:=⟨w.heap.size+1,0,none⟩) (by simp) _).setCell (p:=⟨w.heap.size+1+1,0,none⟩) (by simp;omega) _).setCell (p:=⟨w.heap.size+1+1+1,0,none⟩) (by simp;omega) _⟩
    . have aA:decide (n<=((sz x:Nat):Int))=false:=by simp [hx]
      obtain⟨ae,ab,Z⟩:=Zq;clear hx hp d;gi_wp2;exact⟨KeepsOthers.refl _,trivial,λk aB=>by
       rcases List.mem_append.1 aB with h|h
       . exact ab.out k h
       . simp at h;rw [h];have:=ae.out;omega,⟨⟨h1,U,O,f2,f3⟩,V,f4⟩,Z⟩
   case done=>
    rintro D xs W aC rfl ⟨hp,⟨⟨h1,U,O,f2,f3⟩,V,f4⟩,d⟩ I;have ab:=Zh hp;have Z:=Zh d;clear hp d;gi_wp2;have aD:=Ynt;have aE:=(KeepsOthers.setCell (W.setCell ⟨w.heap.size+1,0,none⟩ (.int .i64 0)) ⟨w.heap.size+1+1,0,none⟩ (.bool false)).same D _ aD rfl;have af:=(KeepsOthers.setCell ((W.setCell ⟨w.heap.size+1,0,none⟩ (.int .i64 0)).setCell ⟨w.heap.size+1+1,0,none⟩ (.bool false)) ⟨w.heap.size+1+1+1,0,none⟩ (.int .i64 0)).same D _ aE rfl;refine⟨by simp, .inl ⟨_,_,rfl,run_takeDeferred af, ?_⟩⟩;have ag:=(Pt ⟨⟨h1,U,O,f2,f3⟩,V,f4⟩ (.int .i64 0) (.bool false) (.int .i64 0)).kept (grownBy_putObj' _ D (.deferred none)) (λr e=>by cases e;exact⟨_,af,rfl⟩);obtain⟨⟨_,ah,ai,_⟩,aj,_⟩:=ag;have aF:=((Z.setCell (p:=⟨w.heap.size+1,0,none⟩) (by simp) (.int .i64 0)).setCell (p:=⟨w.heap.size+1+1,0,none⟩) (by simp;omega) (.bool false)).setCell (p:=⟨w.heap.size+1+1+1,0,none⟩) (by simp;omega) (.int .i64 0);have al:=W4 ab.out;have J:GG n= .tuple #[.int .i64 0, .bool false, .int .i64 0]:=by
     have:=ac.out;simp only [GG,T4,TY,MA];rw [if_neg (by omega),if_pos this,decide_eq_false (by omega)];rfl
    rw [J];refine⟨.tuple #[.int .i64 0, .bool false, .int .i64 0], ?_,rfl,aF.trans (belowK_b (w:=w) (Nat.le_refl _) _ D _ _ (by omega) af rfl rfl)⟩;simp [results,f97,go_sem,ah,ai,aj]
   case stop=>
    rintro D c pre W aC ⟨aG,aH,am⟩ ⟨rfl,ps,k,an,aw,hle,⟨⟨h1,U,O,f2,f3⟩,V,f4⟩,d⟩ I;have ao:ps=CG k:=by
     have e:=am.symm.trans an;have aI:aG ≠0:=(by rintro rfl;simp [CG] at e);obtain⟨m,rfl⟩:=Nat.exists_eq_succ_of_ne_zero aI;rw [Nat.succ_eq_add_one,<-FU] at e;have:=List.append_inj' e rfl;obtain⟨ha,d⟩:=this;have aJ:m=k:=(by simpa using d);rw [<-aJ];exact ha.symm
    have al:=XY (n:=n) (k:=k) aH (by rw [<-ao,<-an,am]) (ao▸aw) hle;have Z:=Zh d;have aK:=Zh al;clear d al ao am an aw hle;gi_wp2;refine⟨by simp, .inl ⟨_,_,rfl,run_takeDeferred I, ?_⟩⟩;have ag:=(show Kx _ _ _ _ _ W from⟨⟨h1,U,O,f2,f3⟩,V,f4⟩).kept (grownBy_putObj' _ D (.deferred none)) (λr e=>by cases e;exact⟨_,I,rfl⟩);obtain⟨⟨_,ah,ai,_⟩,aj,_⟩:=ag;have J:GG n= .tuple #[.int .i64 (k:Nat), .bool true, .int .i64 0]:=by
     have h1:=ac.out;obtain⟨U,O⟩:=aK.out;simp only [GG,T4,TY,MA];rw [if_pos (by omega),if_pos h1,decide_eq_true (by omega),O];rfl
    rw [J];refine⟨.tuple #[.int .i64 (k:Nat), .bool true, .int .i64 0], ?_,rfl,Z.trans (belowK_b (w:=w) (Nat.le_refl _) _ D _ _ (by omega) I rfl rfl)⟩;simp [results,f97,go_sem,ah,ai,aj]
 . have J:GG n= .tuple #[.int .i64 0, .bool false, .int .i64 2]:=by
    simp only [GG,T4,TY,MA];rw [if_neg (by omega),if_neg aa,decide_eq_false (by omega)];rfl
   rw [J];by_cases aL:n<1
   focus
    have d1:decide (n<1)=true:=by simp;omega
   rotate_left
   focus
    have d1:decide (n<1)=false:=(by simp;omega);have d2:decide ((4000:Int)<n)=true:=by simp;omega
   all_goals
    have ac:=Zh aa;clear aa J;gi_wp2;refine⟨.tuple #[.int .i64 0, .bool false, .int .i64 2], ?_,rfl,((((Below.refl _ w).alloc (Nat.le_refl _) _).alloc (by simp) _).alloc (by simp;omega) _).alloc (by simp;omega) _⟩;simp [results,f97,go_sem]
