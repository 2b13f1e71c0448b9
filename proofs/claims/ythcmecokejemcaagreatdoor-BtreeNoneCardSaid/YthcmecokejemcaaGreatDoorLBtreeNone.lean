/-
  The seat's own texts, what BtreeNone wants besides: Nil16, No16, Nn16, Laid, Open.
-/
import Derived.Test.YthcmecokejemcaaGreatDoorWMxi
import Derived.Test.YthcmecokejemcaaGreatDoorRows
import Derived.ProofKit
import Derived.LaidMore
import Derived.OpenShut
import Derived.ShutString
import Derived.ChangeOld
import Derived.Stop.Joined
import Derived.Deep.Slices
import Derived.Deep.Fields
import Derived.ChangeSame
import Derived.Deep.SlicePairs
import Derived.ChangeSlices
set_option linter.unusedSimpArgs false
set_option linter.unusedVariables false
set_option maxHeartbeats 8000000
namespace Go.Proofs.YthcmecokejemcaaGreatDoor
open Go.RowKit Go.Shelf
set_option maxRecDepth 100000 in
theorem bnGet_nil(t:Int)(x:Nat)(w:World):Calls Tryz.prog 18 #[.pointer none, .int .i64 t, .int .u64 (x:Nat)] w fun e w' =>e= .returned (.tuple #[.agg #[.slice none 0 0, .slice none 0 0, .slice none 0 0, .int .u64 0], .int .i64 1])∧Below w.heap.size w w' :=by
 obtain⟨W0,hW0⟩: ∃W,W=((((w.alloc (Obj.cells #[.pointer none] 25)).alloc (Obj.cells #[.int .u64 (x:Nat)] 23)).alloc (Obj.cells #[.slice none 0 0, .slice none 0 0, .slice none 0 0, .int .u64 0] 48)).alloc (Obj.cells #[.int .i64 0] 26)):=⟨_,rfl⟩
 have hbA:Below w.heap.size w W0:=by rw [hW0];exact((((Below.refl _ w).alloc (Nat.le_refl _) _).alloc (by simp) _).alloc (by simp;omega) _).alloc (by simp;omega) _
 have x6:Box W0 (w.heap.size+1+1) 48 [.slice none 0 0, .slice none 0 0, .slice none 0 0, .int .u64 0]:=by
  rw [hW0]
  have:=((Box.new ((w.alloc (Obj.cells #[.pointer none] 25)).alloc (Obj.cells #[.int .u64 (x:Nat)] 23)) 48 [.slice none 0 0, .slice none 0 0, .slice none 0 0, .int .u64 0])).alloc (Obj.cells #[.int .i64 0] 26)
  rwa [show((w.alloc (Obj.cells #[.pointer none] 25)).alloc (Obj.cells #[.int .u64 (x:Nat)] 23)).heap.size=w.heap.size+1+1 by simp] at this
 have x7:Box W0 (w.heap.size+1+1+1) 26 [.int .i64 0]:=by
  rw [hW0]
  have:=(Box.new (((w.alloc (Obj.cells #[.pointer none] 25)).alloc (Obj.cells #[.int .u64 (x:Nat)] 23)).alloc (Obj.cells #[.slice none 0 0, .slice none 0 0, .slice none 0 0, .int .u64 0] 48)) 26 [.int .i64 0])
  rwa [show(((w.alloc (Obj.cells #[.pointer none] 25)).alloc (Obj.cells #[.int .u64 (x:Nat)] 23)).alloc (Obj.cells #[.slice none 0 0, .slice none 0 0, .slice none 0 0, .int .u64 0] 48)).heap.size=w.heap.size+1+1+1 by simp] at this
 obtain⟨b6,hb6⟩: ∃b,b=w.heap.size+1+1:=⟨_,rfl⟩
 obtain⟨b7,hb7⟩: ∃b,b=w.heap.size+1+1+1:=⟨_,rfl⟩
 rw [←hb7] at x7
 rw [←hb6] at x6
 have hne:b6≠b7:=by omega
 have g6:w.heap.size≤b6:=by omega
 have g7:w.heap.size≤b7:=by omega
 have hset:=Lib.hid (setFive_box x6 x7 hne (.slice none 0 0) (.slice none 0 0) (.slice none 0 0) (.int .u64 0) (.int .i64 1))
 have hbf:=Lib.hid (setFive_below hbA g6 g7 (.slice none 0 0) (.slice none 0 0) (.slice none 0 0) (.int .u64 0) (.int .i64 1))
 have x6H:=Lib.hid x6
 have x7H:=Lib.hid x7
 have hWH:=Lib.hid (And.intro hW0 (And.intro hb6 hb7))
 have l6:=x6.lt
 have l7:=x7.lt
 clear hW0 hb6 hb7 x6 x7 hbA g6 g7
 go_enter Tryz.func18,Tryz.ntmps18
 go_wp2_with fail
 rw [←hWH.out.1,←hWH.out.2.2,←hWH.out.2.1]
 refine(slen_nil 0 W0).mono ?_
 rintro e w1 ⟨rfl,rfl⟩
 have c60:=x6H.out.at' (i:=0) rfl
 have c61:=x6H.out.at' (i:=1) rfl
 have c62:=x6H.out.at' (i:=2) rfl
 have c63:=x6H.out.at' (i:=3) rfl
 have c70:=x7H.out.at' (i:=0) rfl
 have k60:=x6H.out.free 0
 have k61:=x6H.out.free 1
 have k62:=x6H.out.free 2
 have k63:=x6H.out.free 3
 have k70:=x7H.out.free 0
 go_wp2
 have r0:=hset.out.1.at' (i:=0) rfl
 have r1:=hset.out.1.at' (i:=1) rfl
 have r2:=hset.out.1.at' (i:=2) rfl
 have r3:=hset.out.1.at' (i:=3) rfl
 have r4:=hset.out.2.at' (i:=0) rfl
 unfold setFive at r0 r1 r2 r3 r4
 refine bodyPost_ret (v:= .tuple #[.agg #[.slice none 0 0, .slice none 0 0, .slice none 0 0, .int .u64 0], .int .i64 1]) (by simp [results,Tryz.f18,go_sem,r0,r1,r2,r3,r4]) rfl ⟨rfl,hbf.out⟩
set_option maxRecDepth 100000 in
theorem btGet_nil(t:Int)(x:Nat)(w:World):Calls Tryz.prog 28 #[.agg #[.pointer none, .int .i64 t], .int .u64 (x:Nat)] w fun e w' =>e= .returned (.tuple #[.agg #[.slice none 0 0, .slice none 0 0, .slice none 0 0, .int .u64 0], .bool false])∧Below w.heap.size w w' :=by
 obtain⟨W2,hW2⟩: ∃W,W=(w.alloc (Obj.cells #[.pointer none, .int .i64 t] 74)).alloc (Obj.cells #[.slice none 0 0, .slice none 0 0, .slice none 0 0, .int .u64 0] 48):=⟨_,rfl⟩
 have hb2:Below w.heap.size w W2:=by rw [hW2];exact((Below.refl _ w).alloc (Nat.le_refl _) _).alloc (by simp) _
 obtain⟨b4,hb4⟩: ∃b,b=w.heap.size+1:=⟨_,rfl⟩
 have x4:Box W2 b4 48 [.slice none 0 0, .slice none 0 0, .slice none 0 0, .int .u64 0]:=by
  rw [hW2,hb4]
  have:=Box.new (w.alloc (Obj.cells #[.pointer none, .int .i64 t] 74)) 48 [.slice none 0 0, .slice none 0 0, .slice none 0 0, .int .u64 0]
  rwa [show(w.alloc (Obj.cells #[.pointer none, .int .i64 t] 74)).heap.size=w.heap.size+1 by simp] at this
 have g4:w.heap.size≤b4:=by omega
 have hW2H:=Lib.hid hW2
 have hb2H:=Lib.hid hb2
 have hb4H:=Lib.hid hb4
 have x4H:=Lib.hid x4
 clear hW2 hb2 x4 hb4
 go_enter Tryz.func28,Tryz.ntmps28
 go_wp2_with fail
 rw [←hW2H.out,←hb4H.out]
 refine(bnGet_nil t x W2).mono ?_
 rintro e w3 ⟨rfl,hb3⟩
 have hb3H:=Lib.hid (hb2H.out.trans (hb3.mono hb2H.out.size))
 have x43:=Lib.hid (x4H.out.below hb3)
 have l4:=x43.out.lt
 have hset:=Lib.hid (((((x43.out.set 0 (.slice none 0 0)).set 1 (.slice none 0 0)).set 2 (.slice none 0 0)).set 3 (.int .u64 0)).alloc (Obj.cells #[.slice none 0 0, .slice none 0 0, .slice none 0 0, .int .u64 0] 48))
 have hbs:=((((hb3H.out.setCell (p:=⟨b4,0,none⟩) g4 (.slice none 0 0)).setCell (p:=⟨b4,1,none⟩) g4 (.slice none 0 0)).setCell (p:=⟨b4,2,none⟩) g4 (.slice none 0 0)).setCell (p:=⟨b4,3,none⟩) g4 (.int .u64 0))
 have hbf:=Lib.hid (hbs.alloc hbs.size (Obj.cells #[.slice none 0 0, .slice none 0 0, .slice none 0 0, .int .u64 0] 48))
 clear hb3 hbs
 have c40:=x43.out.at' (i:=0) rfl
 have c41:=x43.out.at' (i:=1) rfl
 have c42:=x43.out.at' (i:=2) rfl
 have c43:=x43.out.at' (i:=3) rfl
 have k40:=x43.out.free 0
 have k41:=x43.out.free 1
 have k42:=x43.out.free 2
 have k43:=x43.out.free 3
 go_wp2
 have r0:=hset.out.at' (i:=0) rfl
 have r1:=hset.out.at' (i:=1) rfl
 have r2:=hset.out.at' (i:=2) rfl
 have r3:=hset.out.at' (i:=3) rfl
 first
  |(go_ret2;exact⟨rfl,hbf.out⟩)
  |(refine bodyPost_ret (v:= .tuple #[.agg #[.slice none 0 0, .slice none 0 0, .slice none 0 0, .int .u64 0], .bool false]) (by simp [results,Tryz.f28,go_sem,r0,r1,r2,r3]) rfl ⟨rfl,hbf.out⟩)
set_option maxRecDepth 100000 in
theorem btSize_nil(t:Int)(x:Nat)(w:World):Calls Tryz.prog 27 #[.agg #[.pointer none, .int .i64 t], .int .u64 (x:Nat)] w fun e w' =>e= .returned (.int .i64 0)∧Below w.heap.size w w' :=by
 have hb1:Below w.heap.size w (w.alloc (Obj.cells #[.pointer none, .int .i64 t] 74)):=(Below.refl _ w).alloc (Nat.le_refl _) _
 have hBH:=Lib.hid (btGet_nil t x (w.alloc (Obj.cells #[.pointer none, .int .i64 t] 74)))
 have hb1H:=Lib.hid hb1
 clear hb1
 go_enter Tryz.func27,Tryz.ntmps27
 go_wp2_with fail
 refine hBH.out.mono ?_
 rintro e w2 ⟨rfl,hb2⟩
 have hb3:=Lib.hid (hb1H.out.trans (hb2.mono hb1H.out.size))
 have hfin:=Lib.hid (hb3.out.alloc hb3.out.size (Obj.cells #[Value.slice none 0 0,Value.slice none 0 0,Value.slice none 0 0,Value.int IntKind.u64 0] 48))
 clear hb2
 go_wp2
 go_ret
 exact⟨rfl,hfin.out⟩
set_option maxRecDepth 100000 in
theorem btDown_nil(t:Int)(x:Nat)(key:ByteArray)(w:World):Calls Tryz.prog 25 #[.agg #[.pointer none, .int .i64 t], .int .u64 (x:Nat), .string key] w fun e w' =>e= .returned (.tuple #[.agg #[.int .u64 0, .int .u64 0], .bool false, .int .i64 0])∧Below w.heap.size w w' :=by
 obtain⟨W0,hW0⟩: ∃W,W=(w.alloc (Obj.cells #[.pointer none, .int .i64 t] 74)).alloc (Obj.cells #[.int .u64 0, .int .u64 0] 31):=⟨_,rfl⟩
 have hb0:Below w.heap.size w W0:=by rw [hW0];exact((Below.refl _ w).alloc (Nat.le_refl _) _).alloc (by simp) _
 obtain⟨b3,hb3⟩: ∃b,b=w.heap.size:=⟨_,rfl⟩
 obtain⟨b6,hb6⟩: ∃b,b=w.heap.size+1:=⟨_,rfl⟩
 have x3:Box W0 b3 74 [.pointer none, .int .i64 t]:=by rw [hW0,hb3];exact(Box.new w 74 [.pointer none, .int .i64 t]).alloc _
 have x6:Box W0 b6 31 [.int .u64 0, .int .u64 0]:=by
  rw [hW0,hb6]
  have:=Box.new (w.alloc (Obj.cells #[.pointer none, .int .i64 t] 74)) 31 [.int .u64 0, .int .u64 0]
  rwa [show(w.alloc (Obj.cells #[.pointer none, .int .i64 t] 74)).heap.size=w.heap.size+1 by simp] at this
 have g3:w.heap.size≤b3:=by omega
 have g6:w.heap.size≤b6:=by omega
 have hne:b3≠b6:=by omega
 have hW0H:=Lib.hid (And.intro hW0 (And.intro hb3 hb6))
 have hb0H:=Lib.hid hb0
 have x3H:=Lib.hid x3
 have x6H:=Lib.hid x6
 clear hW0 hb3 hb6 x3 x6 hb0
 go_enter Tryz.func25,Tryz.ntmps25
 go_wp2
 rw [←hW0H.out.1,←hW0H.out.2.2,←hW0H.out.2.1]
 go_loopw [1,8,14] (fun hv bv iv wr=>hv= .int .u64 (x:Nat)∧bv= .int .i64 0∧iv= .int .i64 0∧wr=W0) (fun _ _ _ _=>0)
 case atStart=>exact⟨rfl,rfl,rfl,rfl⟩
 case round=>
  obtain⟨rfl,rfl,rfl,rfl⟩:=hrel
  have e30:=x3H.out.at' (i:=0) rfl
  have e31:=x3H.out.at' (i:=1) rfl
  go_wp2_with fail
  refine(btGet_nil t x wr).mono ?_
  rintro e w2 ⟨rfl,hb2⟩
  obtain⟨W3,hW3⟩: ∃W,W=w2.alloc (Obj.cells #[.slice none 0 0, .slice none 0 0, .slice none 0 0, .int .u64 0] 48):=⟨_,rfl⟩
  have hb23:Below w2.heap.size w2 W3:=by rw [hW3];exact(Below.refl _ _).alloc (Nat.le_refl _) _
  have z6:=Lib.hid (x6H.out.below (hb2.trans (hb23.mono hb2.size)))
  have hbw3:=Lib.hid (hb0H.out.trans ((hb2.trans (hb23.mono hb2.size)).mono hb0H.out.size))
  have e60:=z6.out.at' (i:=0) rfl
  have e61:=z6.out.at' (i:=1) rfl
  have k60:=z6.out.free 0
  have k61:=z6.out.free 1
  have hW3H:=Lib.hid hW3
  rw [hW3] at e60 e61 k60 k61
  clear hW3 hb23 hb2 e30 e31
  go_wp2
  rw [←hW3H.out]
  have hf:=(hbw3.out.setCell (p:=⟨b6,0,none⟩) g6 (.int .u64 0)).setCell (p:=⟨b6,1,none⟩) g6 (.int .u64 0)
  have hq:=(z6.out.set 0 (.int .u64 0)).set 1 (.int .u64 0)
  have r0:=hq.at' (i:=0) rfl
  have r1:=hq.at' (i:=1) rfl
  refine bodyPost_ret (v:= .tuple #[.agg #[.int .u64 0, .int .u64 0], .bool false, .int .i64 0]) (by simp [results,Tryz.f25,go_sem,r0,r1]) rfl ⟨rfl,hf⟩
set_option maxRecDepth 100000 in
theorem btFind_nil(t:Int)(x:Nat)(key:ByteArray)(w:World):Calls Tryz.prog 7 #[.pointer none, .int .i64 t, .int .u64 (x:Nat), .string key] w fun e w' =>e= .returned (.tuple #[.agg #[.int .u64 0, .int .u64 0], .bool false])∧Below w.heap.size w w' :=by
 have x0:Box (w.alloc (Obj.cells #[.int .u64 0, .int .u64 0] 31)) w.heap.size 31 [.int .u64 0, .int .u64 0]:=Box.new w _ _
 have hb0:Below w.heap.size w (w.alloc (Obj.cells #[.int .u64 0, .int .u64 0] 31)):=(Below.refl _ w).alloc (Nat.le_refl _) _
 obtain⟨b0,hb0e⟩: ∃b,b=w.heap.size:=⟨_,rfl⟩
 obtain⟨W0,hW0⟩: ∃W,W=w.alloc (Obj.cells #[.int .u64 0, .int .u64 0] 31):=⟨_,rfl⟩
 rw [←hW0] at hb0 x0
 rw [←hb0e] at x0
 have g0:w.heap.size≤b0:=by omega
 have hb0H:=Lib.hid hb0
 have x0H:=Lib.hid x0
 have hWH:=Lib.hid (And.intro hW0 hb0e)
 clear hb0 x0 hW0 hb0e
 go_enter Tryz.func7,Tryz.ntmps7
 go_wp2_with fail
 rw [←hWH.out.1,←hWH.out.2]
 refine(btDown_nil t x key W0).mono ?_
 rintro e w2 ⟨rfl,hb2⟩
 have y0:=Lib.hid (x0H.out.below hb2)
 have c0:=y0.out.at' (i:=0) rfl
 have c1:=y0.out.at' (i:=1) rfl
 have k0:=y0.out.free 0
 have k1:=y0.out.free 1
 have hq:=((y0.out.set 0 (.int .u64 0)).set 1 (.int .u64 0)).alloc (Obj.cells #[.int .u64 0, .int .u64 0] 31)
 have hs:=(((hb0H.out.trans (hb2.mono hb0H.out.size)).setCell (p:=⟨b0,0,none⟩) g0 (.int .u64 0)).setCell (p:=⟨b0,1,none⟩) g0 (.int .u64 0))
 have hf:=hs.alloc hs.size (Obj.cells #[.int .u64 0, .int .u64 0] 31)
 have l0:=y0.out.lt
 have hqH:=Lib.hid hq
 have hfH:=Lib.hid hf
 clear hq hs hf hb2
 go_wp2
 have r0:=hqH.out.at' (i:=0) rfl
 have r1:=hqH.out.at' (i:=1) rfl
 refine bodyPost_ret (v:= .tuple #[.agg #[.int .u64 0, .int .u64 0], .bool false]) (by simp [results,Tryz.f7,go_sem,r0,r1]) rfl ⟨rfl,hfH.out⟩
set_option maxRecDepth 100000 in
theorem btRank_nil(t:Int)(x:Nat)(key:ByteArray)(w:World):Calls Tryz.prog 12 #[.pointer none, .int .i64 t, .int .u64 (x:Nat), .string key] w fun e w' =>e= .returned (.int .i64 0)∧Below w.heap.size w w' :=by
 go_enter Tryz.func12,Tryz.ntmps12
 go_wp2_with fail
 refine(btDown_nil t x key w).mono ?_
 rintro e w2 ⟨rfl,hb2⟩
 have hf:=Lib.hid (hb2.alloc hb2.size (Obj.cells #[.int .u64 0, .int .u64 0] 31))
 clear hb2
 go_wp2
 go_ret
 exact⟨rfl,hf.out⟩
set_option maxRecDepth 100000 in
theorem btSz_nil(t:Int)(x:Nat)(w:World):Calls Tryz.prog 11 #[.pointer none, .int .i64 t, .int .u64 (x:Nat)] w fun e w' =>e= .returned (.int .i64 0)∧Below w.heap.size w w' :=by
 go_enter Tryz.func11,Tryz.ntmps11
 go_wp2_with fail
 refine(btSize_nil t x w).mono ?_
 rintro e w2 ⟨rfl,hb2⟩
 have hf:=Lib.hid hb2
 clear hb2
 go_wp2
 go_ret
 exact⟨rfl,hf.out⟩
set_option maxRecDepth 100000 in
theorem btAsked_nil(t:Int)(w:World):Calls Tryz.prog 26 #[.pointer none, .int .i64 t] w fun e w' =>e= .returned (.int .i64 1)∧w=w' :=by
 go_enter Tryz.func26,Tryz.ntmps26
 go_wp2_with fail
 refine(slen_nil 0 w).mono ?_
 rintro e w2 ⟨rfl,rfl⟩
 go_wp2
 go_ret
 exact⟨rfl,rfl⟩
set_option maxRecDepth 100000 in
theorem btAsked_bad{w:World}{s N nn:Nat}{R:Nat→Option (List Nat)}(h:Rd N w s R nn){t:Int}(ht:t<2∨16<t):
 Calls Tryz.prog 26 #[.pointer (some ⟨s,0,none⟩), .int .i64 t] w fun e w' =>e= .returned (.int .i64 2)∧w=w' :=by
 have hL:=rlen_at h 0 (by decide)
 obtain⟨la,lb,hlr,hl1⟩:=lenR_form R 0
 rw [hlr] at hL
 have d1:((lb:Int)==1)=false:=by simp;omega
 have hLH:=Lib.hid hL
 have hW:=Lib.hid (bnWords_no ht w)
 clear h hL hlr hl1 ht
 go_enter Tryz.func26,Tryz.ntmps26
 go_wp2_with fail
 refine hLH.out.mono ?_
 rintro e w2 ⟨rfl,rfl⟩
 go_wp2_with fail
 refine hW.out.mono ?_
 rintro e w2 ⟨rfl,rfl⟩
 go_wp2
 go_ret
 exact⟨rfl,rfl⟩
section
variable {w:World} {p:Option Addr} {t:Int} {er:Nat} (hA:Calls Tryz.prog 26 #[.pointer p, .int .i64 t] w fun e w' =>e= .returned (.int .i64 (er:Nat))∧w=w')
include hA
set_option maxRecDepth 100000 in
theorem btHeight_no(h0:er≠0)(x:Nat):Calls Tryz.prog 13 #[.pointer p, .int .i64 t, .int .u64 (x:Nat)] w fun e w' =>e= .returned (.int .i64 0)∧w' =w:=by
 have hAH:=Lib.hid hA
 have d0:((er:Int) !=0)=true:=by simp;omega
 clear hA
 go_enter Tryz.func13,Tryz.ntmps13
 go_wp2_with fail
 refine hAH.out.mono ?_
 rintro e w1 ⟨rfl,rfl⟩
 go_wp2
 go_ret
 exact⟨rfl,rfl⟩
set_option maxRecDepth 100000 in
theorem btNods_no(h0:er≠0)(x:Nat):Calls Tryz.prog 15 #[.pointer p, .int .i64 t, .int .u64 (x:Nat)] w fun e w' =>e= .returned (.slice none 0 0)∧w' =w:=by
 have hAH:=Lib.hid hA
 have d0:((er:Int) !=0)=true:=by simp;omega
 clear hA
 go_enter Tryz.func15,Tryz.ntmps15
 go_wp2_with fail
 refine hAH.out.mono ?_
 rintro e w1 ⟨rfl,rfl⟩
 go_wp2
 go_ret
 exact⟨rfl,rfl⟩
set_option maxRecDepth 100000 in
theorem btLst_no(h0:er≠0)(x:Nat):Calls Tryz.prog 14 #[.pointer p, .int .i64 t, .int .u64 (x:Nat)] w fun e w' =>e= .returned (.slice none 0 0)∧w' =w:=by
 have hAH:=Lib.hid hA
 have d0:((er:Int) !=0)=true:=by simp;omega
 clear hA
 go_enter Tryz.func14,Tryz.ntmps14
 go_wp2_with fail
 refine hAH.out.mono ?_
 rintro e w1 ⟨rfl,rfl⟩
 go_wp2
 go_ret
 exact⟨rfl,rfl⟩
set_option maxRecDepth 100000 in
theorem btCheck_no(h0:er≠0)(x:Nat):Calls Tryz.prog 10 #[.pointer p, .int .i64 t, .int .u64 (x:Nat)] w fun e w' =>e= .returned (.int .i64 (er:Nat))∧w' =w:=by
 have hAH:=Lib.hid hA
 have d0:((er:Int) !=0)=true:=by simp;omega
 clear hA
 go_enter Tryz.func10,Tryz.ntmps10
 go_wp2_with fail
 refine hAH.out.mono ?_
 rintro e w1 ⟨rfl,rfl⟩
 go_wp2
 go_ret
 exact⟨rfl,rfl⟩
end
section
variable {w:World} {p:Option Addr} {t:Int} {er:Nat}
set_option maxRecDepth 100000 in
theorem btAt_no(hA: ∀W,Below w.heap.size w W→Calls Tryz.prog 26 #[.pointer p, .int .i64 t] W fun e w' =>e= .returned (.int .i64 (er:Nat))∧W=w')(h0:er≠0)(x:Nat)(k:Int):
 Calls Tryz.prog 8 #[.pointer p, .int .i64 t, .int .u64 (x:Nat), .int .i64 k] w fun e w' =>e= .returned (.tuple #[.agg #[.int .u64 0, .int .u64 0], .int .i64 (er:Nat)])∧Below w.heap.size w w' :=by
 obtain⟨W0,hW0⟩: ∃W,W=w.alloc (Obj.cells #[.int .u64 0, .int .u64 0] 31):=⟨_,rfl⟩
 have hb0:Below w.heap.size w W0:=by rw [hW0];exact(Below.refl _ w).alloc (Nat.le_refl _) _
 obtain⟨b8,hb8⟩: ∃b,b=w.heap.size:=⟨_,rfl⟩
 have x8:Box W0 b8 31 [.int .u64 0, .int .u64 0]:=by rw [hW0,hb8];exact Box.new w _ _
 have g8:w.heap.size≤b8:=by omega
 have hA0:=Lib.hid (hA W0 hb0)
 have d0:((er:Int) !=0)=true:=by simp;omega
 have hf:=Lib.hid ((hb0.setCell (p:=⟨b8,0,none⟩) g8 (.int .u64 0)).setCell (p:=⟨b8,1,none⟩) g8 (.int .u64 0))
 have hq:=Lib.hid ((x8.set 0 (.int .u64 0)).set 1 (.int .u64 0))
 have x8H:=Lib.hid x8
 have hWH:=Lib.hid (And.intro hW0 hb8)
 clear hA hb0 x8 hW0 hb8
 go_enter Tryz.func8,Tryz.ntmps8
 go_wp2_with fail
 rw [←hWH.out.1,←hWH.out.2]
 refine hA0.out.mono ?_
 rintro e w1 ⟨rfl,rfl⟩
 have e80:=x8H.out.at' (i:=0) rfl
 have e81:=x8H.out.at' (i:=1) rfl
 have k80:=x8H.out.free 0
 have k81:=x8H.out.free 1
 go_wp2
 have r0:=hq.out.at' (i:=0) rfl
 have r1:=hq.out.at' (i:=1) rfl
 refine bodyPost_ret (v:= .tuple #[.agg #[.int .u64 0, .int .u64 0], .int .i64 (er:Nat)]) (by simp [results,Tryz.f8,go_sem,r0,r1]) rfl ⟨rfl,hf.out⟩
set_option maxRecDepth 100000 in
theorem btInsert_no(hA: ∀W,Below w.heap.size w W→Calls Tryz.prog 26 #[.pointer p, .int .i64 t] W fun e w' =>e= .returned (.int .i64 (er:Nat))∧W=w')(h0:er≠0)(x ak av:Nat):
 Calls Tryz.prog 9 #[.pointer p, .int .i64 t, .int .u64 (x:Nat), .agg #[.int .u64 (ak:Nat), .int .u64 (av:Nat)]] w fun e w' =>e= .returned (.tuple #[.int .u64 0, .agg #[.int .u64 0, .int .u64 0], .bool false, .int .i64 (er:Nat)])∧Below w.heap.size w w' :=by
 have hmo:Tryz.prog.follows .mixedOrders=true:=by kernel_rfl
 obtain⟨W0,hW0⟩: ∃W,W=(w.alloc (Obj.cells #[.int .u64 (ak:Nat), .int .u64 (av:Nat)] 31)).alloc (Obj.cells #[.int .u64 0, .int .u64 0] 31):=⟨_,rfl⟩
 obtain⟨b9,hb9⟩: ∃b,b=w.heap.size+1:=⟨_,rfl⟩
 have hb0:Below w.heap.size w W0:=by rw [hW0];exact((Below.refl _ w).alloc (Nat.le_refl _) _).alloc (by simp) _
 have x9:Box W0 b9 31 [.int .u64 0, .int .u64 0]:=by
  rw [hW0,hb9]
  have:=Box.new (w.alloc (Obj.cells #[.int .u64 (ak:Nat), .int .u64 (av:Nat)] 31)) 31 [.int .u64 0, .int .u64 0]
  rwa [show(w.alloc (Obj.cells #[.int .u64 (ak:Nat), .int .u64 (av:Nat)] 31)).heap.size=w.heap.size+1 by simp] at this
 have g9:w.heap.size≤b9:=by omega
 have hA0:=Lib.hid (hA W0 hb0)
 have d0:((er:Int) !=0)=true:=by simp;omega
 have hf:=Lib.hid (((hb0.setCell (p:=⟨b9,0,none⟩) g9 (.int .u64 0)).setCell (p:=⟨b9,1,none⟩) g9 (.int .u64 0)).drew)
 have hq:=Lib.hid (box_drew ((x9.set 0 (.int .u64 0)).set 1 (.int .u64 0)))
 have x9H:=Lib.hid x9
 have hWH:=Lib.hid (And.intro hW0 hb9)
 clear hA hb0 x9 hW0 hb9
 go_enter Tryz.func9,Tryz.ntmps9
 go_wp2_with fail
 rw [←hWH.out.1,←hWH.out.2]
 refine hA0.out.mono ?_
 rintro e w1 ⟨rfl,rfl⟩
 have c0:=x9H.out.at' (i:=0) rfl
 have c1:=x9H.out.at' (i:=1) rfl
 have f0:=x9H.out.free 0
 have f1:=x9H.out.free 1
 have hexH:Hid (∃X:Exw (fun z=>z=b9) W0,((W0.setCell ⟨b9,0,none⟩ (.int .u64 0)).setCell ⟨b9,1,none⟩ (.int .u64 0)).drew=X.W∧X.W.cell? ⟨b9,0,none⟩=some (.int .u64 0)∧X.W.cell? ⟨b9,1,none⟩=some (.int .u64 0)):=Lib.hid (by
  obtain⟨X,hX⟩:=exw_then (exw_set (B:=fun z=>z=b9) (p:=⟨b9,1,none⟩) (exw_set (B:=fun z=>z=b9) (p:=⟨b9,0,none⟩) (exw_below (Below.refl _ W0)) rfl (.int .u64 0)) rfl (.int .u64 0)) (below_drawn _)
  exact⟨X,hX,by rw [←hX];exact hq.out.at' (i:=0) rfl,by rw [←hX];exact hq.out.at' (i:=1) rfl⟩)
 have hstH:Hid (∃X:Exw (fun z=>z=b9) W0,{ W0 with drawn:=W0.drawn+1 }=X.W∧X.W.cell? ⟨b9,0,none⟩=some (.int .u64 0)∧X.W.cell? ⟨b9,1,none⟩=some (.int .u64 0)):=Lib.hid ⟨⟨{ W0 with drawn:=W0.drawn+1 },Nat.le_refl _,fun _ _ _=>rfl⟩,rfl,c0,c1⟩
 go_upto_region 3 with (fail)
 refine wp_region_tree (fun w' => ∃X:Exw (fun z=>z=b9) W0,w' =X.W∧X.W.cell? ⟨b9,0,none⟩=some (.int .u64 0)∧X.W.cell? ⟨b9,1,none⟩=some (.int .u64 0)) [] (.r 0<| .r 1<| .r 2<| .a 3<| .r 4<| .r 5<| .nil) hmo (by kernel_rfl) (by kernel_rfl) (by kernel_rfl) hstH.out (fun _ _ d _ _ h=>by cases d<;>exact h) ?_
 iterate 3 (refine wpTree_r _ _ rfl rfl (by rintro _ ⟨X,rfl,h0,h1⟩;go_simp;exact rfl) ?_;go_simp)
 refine wpTree_a _ rfl (fun K hK=> ?_)
 go_wp2
 refine hK _ _ hexH.out ?_
 clear hK K
 iterate 2 (refine wpTree_r _ _ rfl rfl (by rintro _ ⟨X,rfl,h0,h1⟩;go_simp;exact rfl) ?_;go_simp)
 refine wpTree_nil ?_
 go_wp2
 have r0:=hq.out.at' (i:=0) rfl
 have r1:=hq.out.at' (i:=1) rfl
 refine bodyPost_ret (v:= .tuple #[.int .u64 0, .agg #[.int .u64 0, .int .u64 0], .bool false, .int .i64 (er:Nat)]) (by simp [results,Tryz.f9,go_sem,r0,r1]) rfl ⟨rfl,hf.out⟩
end
theorem none_get{t x:Nat}:bnE (fun _=>none) t x=7∧bnG (fun _=>none) t x=BN.zero:=⟨rfl,rfl⟩
theorem none_cff{t x:Nat}:cff (fun _=>none) t x=false:=by
 unfold cff
 rw [if_pos (by rw [none_get.1];decide)]
theorem none_at{t x:Nat}:batR (fun _=>none) t x 0=none:=by
 unfold batR
 rw [if_pos (.inr (by unfold bszR;rw [none_get.2];first|decide+kernel|simp [BN.zero,wrap64]|(unfold wrap64 BN.zero;omega)))]
set_option maxRecDepth 100000 in
theorem none16_0{w:World}(hT:Tab w)(t:Int)(x:Nat)(key:ByteArray)(hk:1000<key.size)(k:Int):
 Calls Tryz.prog 3 #[.int .i64 t, .int .u64 (x:Nat), .string key, .int .i64 k] w (TrueB w):=by
 have hA:=Lib.hid (awake16_at hT)
 have d1:decide ((1000:Int)<(key.size:Int))=true:=decide_eq_true (by omega)
 clear hT
 unfold TrueB
 go_enter Tryz.func3,Tryz.ntmps3
 go_wp2_with fail
 refine hA.out.mono ?_
 rintro e w9 ⟨rfl,hb9⟩
 have hb9H:=Lib.hid hb9
 clear hb9
 go_wp2
 go_ret
 exact⟨rfl,hb9H.out⟩
set_option maxRecDepth 100000 in
theorem none16_main{w:World}(hT:Tab w)(t:Int)(x:Nat)(hx:x<18446744073709551616)(key:ByteArray)(hk:key.size≤1000)(k:Int):
 Calls Tryz.prog 3 #[.int .i64 t, .int .u64 (x:Nat), .string key, .int .i64 k] w (TrueB w):=by
 have hTH:=Lib.hid hT
 have d1:decide ((1000:Int)<(key.size:Int))=false:=decide_eq_false (by omega)
 have hN:=Lib.hid (snew_at hT 6400 9 9 (by omega) (by omega) (by omega) (by omega) (by omega))
 have hAtN:Hid (∀W,Calls Tryz.prog 8 #[.pointer none, .int .i64 t, .int .u64 (x:Nat), .int .i64 k] W fun e w' =>e= .returned (.tuple #[.agg #[.int .u64 0, .int .u64 0], .int .i64 1])∧Below W.heap.size W w'):=Lib.hid (fun W=>btAt_no (er:=1) (fun W _=>btAsked_nil t W) (by decide) x k)
 have hInN:Hid (∀W,Calls Tryz.prog 9 #[.pointer none, .int .i64 t, .int .u64 (x:Nat), .agg #[.int .u64 0, .int .u64 0]] W fun e w' =>e= .returned (.tuple #[.int .u64 0, .agg #[.int .u64 0, .int .u64 0], .bool false, .int .i64 1])∧Below W.heap.size W w'):=Lib.hid (fun W=>btInsert_no (er:=1) (fun W _=>btAsked_nil t W) (by decide) x 0 0)
 have hCkN:Hid (∀W,Calls Tryz.prog 10 #[.pointer none, .int .i64 t, .int .u64 (x:Nat)] W fun e w' =>e= .returned (.int .i64 1)∧w' =W):=Lib.hid (fun W=>btCheck_no (er:=1) (btAsked_nil t W) (by decide) x)
 have hHtN:=Lib.hid (fun W=>btHeight_no (er:=1) (btAsked_nil t W) (by decide) x)
 have hLsN:=Lib.hid (fun W=>btLst_no (er:=1) (btAsked_nil t W) (by decide) x)
 have hNdN:=Lib.hid (fun W=>btNods_no (er:=1) (btAsked_nil t W) (by decide) x)
 clear hT
 unfold TrueB
 go_enter Tryz.func3,Tryz.ntmps3
 go_wp2_with fail
 refine hN.out.mono ?_
 rintro e w1 ⟨s,F,rfl,hS,hs1,hF1,hb1⟩
 have hb1H:=Lib.hid hb1
 have hSH:=Lib.hid hS
 clear hb1 hF1 hS hN hs1
 go_wp2_with fail
 refine(btFind_nil t x key w1).mono ?_
 rintro e w2 ⟨rfl,hb2⟩
 have hb2H:=Lib.hid (hb2.alloc hb2.size (Obj.cells #[.int .u64 0, .int .u64 0] 31))
 clear hb2
 go_wp2_with fail
 refine(hAtN.out _).mono ?_
 rintro e w3 ⟨rfl,hb3⟩
 have hb3a:=hb2H.out.trans (hb3.mono hb2H.out.size)
 have hb3H:=Lib.hid (hb3a.alloc hb3a.size (Obj.cells #[.int .u64 0, .int .u64 0] 31))
 clear hb3 hb3a
 go_wp2_with fail
 refine(hInN.out _).mono ?_
 rintro e w4 ⟨rfl,hb4⟩
 have hb4a:=hb3H.out.trans (hb4.mono hb3H.out.size)
 have hb4H:=Lib.hid (hb4a.alloc hb4a.size (Obj.cells #[.int .u64 0, .int .u64 0] 31))
 clear hb4 hb4a
 obtain⟨W4,hW4⟩: ∃W,W=w4.alloc (Obj.cells #[.int .u64 0, .int .u64 0] 31):=⟨_,rfl⟩
 rw [←hW4] at hb4H
 have hW4H:=Lib.hid hW4
 clear hW4
 go_wp2_with fail
 rw [←hW4H.out]
 refine(hCkN.out W4).mono ?_
 rintro e w5 ⟨rfl,rfl⟩
 go_wp2_with fail
 refine(btSz_nil t x _).mono ?_
 rintro e w6 ⟨rfl,hb6⟩
 have hb6H:=Lib.hid (hb4H.out.trans (hb6.mono hb4H.out.size))
 clear hb6
 go_wp2_with fail
 refine(btRank_nil t x key w6).mono ?_
 rintro e w7 ⟨rfl,hb7⟩
 have hb7H:=Lib.hid (hb6H.out.trans (hb7.mono hb6H.out.size))
 clear hb7
 go_wp2_with fail
 refine(hHtN.out w7).mono ?_
 rintro e w8 ⟨rfl,rfl⟩
 go_wp2_with fail
 refine(hLsN.out _).mono ?_
 rintro e w8 ⟨rfl,rfl⟩
 go_wp2_with fail
 refine(hNdN.out _).mono ?_
 rintro e w8 ⟨rfl,rfl⟩
 have hAw:=Lib.hid (fun W (hb:Below w8.heap.size w8 W)=>awake16_at (hTH.out.below (hb1H.out.trans ((hb7H.out.trans (hb.mono hb7H.out.size)).mono hb1H.out.size)) (tab_lt hTH.out)))
 have hS8:=Lib.hid (fun W (hb:Below w8.heap.size w8 W)=>hSH.out.below (hb7H.out.trans (hb.mono hb7H.out.size)))
 have hfin:=Lib.hid (fun W (hb:Below w8.heap.size w8 W)=>hb1H.out.trans ((hb7H.out.trans (hb.mono hb7H.out.size)).mono hb1H.out.size))
 clear hAtN hInN hCkN hHtN hLsN hNdN
 by_cases hd:t<2∨16<t
 ·
  have hA2: ∀W,Below w8.heap.size w8 W→Calls Tryz.prog 26 #[.pointer (some ⟨s,0,none⟩), .int .i64 t] W fun e w' =>e= .returned (.int .i64 2)∧W=w' :=fun W hb=>by
   obtain⟨n,hr,_⟩:=(hS8.out W hb).rd
   exact btAsked_bad hr hd
  have hIn2:Hid (Calls Tryz.prog 9 #[.pointer (some ⟨s,0,none⟩), .int .i64 t, .int .u64 (x:Nat), .agg #[.int .u64 0, .int .u64 0]] w8 fun e w' =>e= .returned (.tuple #[.int .u64 0, .agg #[.int .u64 0, .int .u64 0], .bool false, .int .i64 2])∧Below w8.heap.size w8 w'):=Lib.hid (btInsert_no (er:=2) hA2 (by decide) x 0 0)
  have hAt2:Hid (∀W,Below w8.heap.size w8 W→Calls Tryz.prog 8 #[.pointer (some ⟨s,0,none⟩), .int .i64 t, .int .u64 (x:Nat), .int .i64 0] W fun e w' =>e= .returned (.tuple #[.agg #[.int .u64 0, .int .u64 0], .int .i64 2])∧Below W.heap.size W w'):=Lib.hid (fun W hb=>btAt_no (er:=2) (fun W' hb' =>hA2 W' (hb.trans (hb'.mono hb.size))) (by decide) x 0)
  have hCk2:Hid (∀W,Below w8.heap.size w8 W→Calls Tryz.prog 10 #[.pointer (some ⟨s,0,none⟩), .int .i64 t, .int .u64 (x:Nat)] W fun e w' =>e= .returned (.int .i64 2)∧w' =W):=Lib.hid (fun W hb=>btCheck_no (er:=2) (hA2 W hb) (by decide) x)
  clear hA2
  go_wp2_with fail
  refine hIn2.out.mono ?_
  rintro e w9 ⟨rfl,hb9⟩
  have hb9H:=Lib.hid (hb9.alloc hb9.size (Obj.cells #[.int .u64 0, .int .u64 0] 31))
  clear hb9
  go_wp2_with fail
  refine(hAt2.out _ hb9H.out).mono ?_
  rintro e w10 ⟨rfl,hb10⟩
  have hb10a:=hb9H.out.trans (hb10.mono hb9H.out.size)
  have hb10H:=Lib.hid (hb10a.alloc hb10a.size (Obj.cells #[.int .u64 0, .int .u64 0] 31))
  clear hb10 hb10a
  obtain⟨W10,hW10⟩: ∃W,W=w10.alloc (Obj.cells #[.int .u64 0, .int .u64 0] 31):=⟨_,rfl⟩
  rw [←hW10] at hb10H
  have hW10H:=Lib.hid hW10
  clear hW10
  have hdd:decide (t<2)=true∨(decide (t<2)=false∧decide (16<t)=true):=by
   by_cases h9:t<2
   · exact .inl (decide_eq_true h9)
   · exact .inr ⟨decide_eq_false h9,decide_eq_true (by omega)⟩
  clear hd
  rcases hdd with hd1|⟨hd1,hd2⟩
  · go_wp2_with fail
    rw [←hW10H.out]
    refine(hCk2.out W10 hb10H.out).mono ?_
    rintro e w11 ⟨rfl,rfl⟩
    go_wp2_with fail
    refine(hAw.out _ hb10H.out).mono ?_
    rintro e w12 ⟨rfl,hb12⟩
    have hb12H:=Lib.hid (hfin.out w12 (hb10H.out.trans (hb12.mono hb10H.out.size)))
    clear hb12
    go_wp2
    go_ret
    exact⟨rfl,hb12H.out⟩
  · go_wp2_with fail
    rw [←hW10H.out]
    refine(hCk2.out W10 hb10H.out).mono ?_
    rintro e w11 ⟨rfl,rfl⟩
    go_wp2_with fail
    refine(hAw.out _ hb10H.out).mono ?_
    rintro e w12 ⟨rfl,hb12⟩
    have hb12H:=Lib.hid (hfin.out w12 (hb10H.out.trans (hb12.mono hb10H.out.size)))
    clear hb12
    go_wp2
    go_ret
    exact⟨rfl,hb12H.out⟩
 · obtain⟨tn,rfl⟩:=Int.eq_ofNat_of_zero_le (show 0≤t by omega)
   have ht:BN.Deg tn:=⟨by omega,by omega⟩
   have hd1:decide ((tn:Int)<2)=false:=decide_eq_false (by omega)
   have hd2:decide ((16:Int)<(tn:Int))=false:=decide_eq_false (by omega)
   have hIn2:Hid (Calls Tryz.prog 9 #[.pointer (some ⟨s,0,none⟩), .int .i64 (tn:Nat), .int .u64 (x:Nat), .agg #[.int .u64 0, .int .u64 0]] w8 fun e w' =>e= .returned (.tuple #[.int .u64 0, .agg #[.int .u64 0, .int .u64 0], .bool false, .int .i64 8])∧Below w8.heap.size w8 w'):=Lib.hid (by
    refine(btInsert_at (hS8.out w8 (Below.refl _ _)) (fun _ _ h=>by cases h) ht x hx 0 0 (by decide) (by decide)).mono ?_
    intro e w' hI
    have h7:blobE (fun _=>none) 0≠0:=by show(7:Nat)≠0;decide
    cases hI with
    |bad _ hb=>exact⟨rfl,hb⟩
    |here h0=>exact absurd h0 h7
    |full h0=>exact absurd h0 h7
    |put h0=>exact absurd h0 h7)
   have hAt2:Hid (∀W,Below w8.heap.size w8 W→Calls Tryz.prog 8 #[.pointer (some ⟨s,0,none⟩), .int .i64 (tn:Nat), .int .u64 (x:Nat), .int .i64 0] W fun e w' =>e= .returned (.tuple #[.agg #[.int .u64 0, .int .u64 0], .int .i64 2])∧Below W.heap.size W w'):=Lib.hid (fun W hb=>by
    obtain⟨n,hr,_⟩:=(hS8.out W hb).rd
    have:=btAt_at hr ht x hx 0
    rw [none_at] at this
    exact this)
   have hCk2:Hid (∀W,Below w8.heap.size w8 W→Calls Tryz.prog 10 #[.pointer (some ⟨s,0,none⟩), .int .i64 (tn:Nat), .int .u64 (x:Nat)] W fun e w' =>e= .returned (.int .i64 (cond (decide (x=0)) 0 8))∧Below W.heap.size W w'):=Lib.hid (fun W hb=>by
    obtain⟨n,hr,_⟩:=(hS8.out W hb).rd
    by_cases h0:x=0
    · subst h0
      exact(btCheck0_at hr tn ht).mono (by rintro e w' ⟨rfl,rfl⟩;exact⟨rfl,Below.refl _ _⟩)
    · rw [decide_eq_false h0]
      refine(btCheck_at hr (fun _ _ h=>by cases h) tn ht x hx h0).mono ?_
      rintro e w' ⟨er,rfl,hs,hbw⟩
      have:=hs.bad none_cff
      subst this
      exact⟨rfl,hbw⟩)
   clear ht hd
   go_wp2_with fail
   refine hIn2.out.mono ?_
   rintro e w9 ⟨rfl,hb9⟩
   have hb9H:=Lib.hid (hb9.alloc hb9.size (Obj.cells #[.int .u64 0, .int .u64 0] 31))
   clear hb9
   go_wp2_with fail
   refine(hAt2.out _ hb9H.out).mono ?_
   rintro e w10 ⟨rfl,hb10⟩
   have hb10a:=hb9H.out.trans (hb10.mono hb9H.out.size)
   have hb10H:=Lib.hid (hb10a.alloc hb10a.size (Obj.cells #[.int .u64 0, .int .u64 0] 31))
   clear hb10 hb10a
   obtain⟨W10,hW10⟩: ∃W,W=w10.alloc (Obj.cells #[.int .u64 0, .int .u64 0] 31):=⟨_,rfl⟩
   rw [←hW10] at hb10H
   have hW10H:=Lib.hid hW10
   clear hW10
   by_cases hx0:x=0
   · subst hx0
     go_wp2_with fail
     rw [←hW10H.out]
     refine(hCk2.out W10 hb10H.out).mono ?_
     rintro e w11 ⟨rfl,hb11⟩
     have hb11H:=Lib.hid (hb10H.out.trans (hb11.mono hb10H.out.size))
     clear hb11
     go_wp2_with fail
     refine(hAw.out _ hb11H.out).mono ?_
     rintro e w12 ⟨rfl,hb12⟩
     have hb12H:=Lib.hid (hfin.out w12 (hb11H.out.trans (hb12.mono hb11H.out.size)))
     clear hb12
     go_wp2
     go_ret
     exact⟨rfl,hb12H.out⟩
   · have dx1:((x:Int)==0)=false:=by simp;omega
     have dx2:((x:Int) !=0)=true:=by simp;omega
     have hCk3:=Lib.hid (hCk2.out W10 hb10H.out)
     rw [decide_eq_false hx0] at hCk3
     go_wp2_with fail
     rw [←hW10H.out]
     refine hCk3.out.mono ?_
     rintro e w11 ⟨rfl,hb11⟩
     have hb11H:=Lib.hid (hb10H.out.trans (hb11.mono hb10H.out.size))
     clear hb11
     go_wp2_with fail
     refine(hAw.out _ hb11H.out).mono ?_
     rintro e w12 ⟨rfl,hb12⟩
     have hb12H:=Lib.hid (hfin.out w12 (hb11H.out.trans (hb12.mono hb11H.out.size)))
     clear hb12
     go_wp2
     go_ret
     exact⟨rfl,hb12H.out⟩
end Go.Proofs.YthcmecokejemcaaGreatDoor
namespace Go.Proofs.YthcmecokejemcaaGreatDoor
open Go.ChangeShapes Go.WideShapes Go.ChangeAt Go.WideMaps Go.WideElems Go.RowKit Go.Deep
theorem own:ownKnob Tryz.prog.godebug=none:=by kernel_rfl
theorem laidOut:laidOutB Tryz.prog=true:=by kernel_rfl
theorem gTab:Tryz.prog.globalNamed "math/bits.deBruijn64tab" =some 1:=by kernel_rfl
theorem tTab:(Tryz.prog.globals[1]?).map (·.type)=some 238:=by kernel_rfl
abbrev laidL:List (String × DataW Unit):= [("math/bits.deBruijn64tab",Rows.laid_math_bits_deBruijn64tab)]
theorem laid_list:(Rows.laid_math_bits_deBruijn64tab:DataW Unit)= .agg (Lib.deBruijn64tab.map fun n=> .lit (.int .u8 (n:Nat))):=rfl
theorem door_met(os:Os)(args:Array Value):laidMetH Tryz.prog laidL ((World.doorLaid Tryz.prog 400 os).forCall (fun _ _=>0) ⟨#[],args,[]⟩).memory:=
 laidMetH_of_parts3 (fuel:=8) (laidMet_of_run' 8 (by kernel_rfl) (by kernel_rfl)) (by kernel_rfl) (by kernel_rfl)
theorem of_laid{W:World}(h:laidMetH Tryz.prog laidL W):Tab W:=by
 rw [MakeChecks.laidMetH_plain _ _ _ (by kernel_rfl)] at h
 obtain⟨ps,⟨g0,t0,cs0,f0,p0,q0,hg0,ht0,hv0,hd0,_⟩,_⟩:=h
 obtain rfl:=Option.some.inj (gTab.symm.trans hg0)
 obtain rfl:=Option.some.inj (tTab.symm.trans ht0)
 obtain⟨xs,m1,rfl,hx1,hlen,hn,hel⟩:=DataW.trod_array Tryz.underlying238 hd0
 have c5:Tryz.prog.cellsOf 5=1:=by kernel_rfl
 simp only [Prod.mk.injEq] at hx1
 rw [laid_list] at hx1
 have hmap:xs.map (·.1)=Lib.deBruijn64tab.map fun n=>DataW.lit (Lit.int .u8 (n:Nat)):=by
  have:=hx1.1
  simp only [DataW.agg.injEq] at this
  exact this.symm
 intro j hj
 have hj64:j<64:=hj
 have hjx:j<xs.length:=by omega
 have h0:=hel j hj64
 rw [List.getElem?_eq_getElem hjx,c5,Nat.mul_one] at h0
 obtain⟨k,e1,e2,_⟩:=DataW.trod_int Tryz.underlying5 h0
 have h3:(xs.map (·.1))[j]? =some (.lit (.int .u8 (Lib.deBruijn64tab.getD j 0:Nat))):=by
  rw [hmap,List.getElem?_map,List.getElem?_eq_getElem hj]
  simp [List.getD_eq_getElem?_getD,List.getElem?_eq_getElem hj]
 rw [List.getElem?_map,List.getElem?_eq_getElem hjx,e2] at h3
 simp only [Option.map_some,Option.some.injEq,DataW.lit.injEq,Lit.int.injEq,true_and] at h3
 subst h3
 have hc:=World.var?_cell hg0 hv0 j
 rw [hc]
 have hd:cs0.toList[j]? =some (.int .u8 (Lib.deBruijn64tab.getD j 0:Nat)):=by
  have h5:((cs0.toList.drop j).take 1)[0]? =some (.int .u8 (Lib.deBruijn64tab.getD j 0:Nat)):=by rw [e1];rfl
  rw [List.getElem?_take,if_pos (by omega),List.getElem?_drop,Nat.add_zero] at h5
  exact h5
 simpa using hd
theorem int_bound{n:Int}(h:(Lit.int .i64 n).wf=true): -9223372036854775808≤n∧n≤9223372036854775807:=by
 simpa [Lit.wf,IntKind.min,IntKind.max,IntKind.signed,IntKind.bits] using h
theorem prsV_inv: ∀{l:List Pr} {j:Nat} {u:Value},(prsV l)[j]? =some u→ ∃(i:Nat) (hi:i<l.length),(j=i*2∧u= .string l[i].1)∨(j=i*2+1∧u= .string l[i].2)
 | [],j,u,h=>by simp [prsV] at h
 |p::l,0,u,h=>by simp [prsV] at h;exact⟨0,by simp, .inl ⟨rfl,h.symm⟩⟩
 |p::l,1,u,h=>by simp [prsV] at h;exact⟨0,by simp, .inr ⟨rfl,h.symm⟩⟩
 |p::l,j+2,u,h=>by
  obtain⟨i,hi,hh⟩:=prsV_inv (l:=l) (j:=j) (u:=u) (by simpa [prsV] using h)
  refine⟨i+1,by simpa using hi, ?_⟩
  rcases hh with ⟨h1,h2⟩|⟨h1,h2⟩
  · exact .inl ⟨by omega,h2⟩
  · exact .inr ⟨by omega,h2⟩
theorem addr_add(b o j:Nat):(⟨b,o,none⟩:Addr).add j=⟨b,o+j,none⟩:=by unfold Addr.add;split<;>simp_all
section
variable {H:Type} {enc:TypeId × Value→H} {w:World} {base:Nat} {held:Bool}
theorem open_prs{fuel:Nat}{cs:List Value}{x:DataW H × List MemPlace}(h:DataW.trod enc Tryz.prog w base (fun _=>true) held fuel 46 cs=some x): ∃A len cap l,cs= [.slice A len cap]∧len=l.length∧ILaw w A l:=by
 rcases open_slice_pairs Tryz.underlying46 Tryz.underlying52 (by kernel_rfl) rfl rfl (by kernel_rfl) (by kernel_rfl) h with ⟨hcs,_⟩|⟨a,len,cap,m,n,V0,V1,D0,D1,P0,P1,hcs,hb,hl,hm,hmm,_,hx⟩
 · exact⟨none,0,0,[],hcs,rfl, .inl rfl,fun p hp=>by simp at hp,by simp⟩
 · have hmc:m=cap:=by simpa using hmm
   subst hmc
   have hS: ∀i,∃p:Pr,i<m→V0 i= .string p.1∧V1 i= .string p.2∧p.1.size≤maxLen∧p.2.size≤maxLen:=fun i=>by
    by_cases hi:i<m
    · obtain⟨h1,h2,h3,h4⟩:=hx i hi
      obtain⟨s0,e0,_,z0⟩:=DataW.trod_string Tryz.underlying9 h3
      obtain⟨s1,e1,_,z1⟩:=DataW.trod_string Tryz.underlying9 h4
      exact⟨(s0,s1),fun _=>⟨by simpa using e0,by simpa using e1,z0,z1⟩⟩
    · exact⟨(⟨#[]⟩,⟨#[]⟩),fun hh=>absurd hh hi⟩
   obtain⟨f,hf⟩:=Classical.axiomOfChoice hS
   have hll:((List.range len).map f).length=len:=by simp
   unfold maxLen at hm
   refine⟨some a,len,m,(List.range len).map f,hcs,hll.symm, ?_, ?_,by rw [hll];omega⟩
   · by_cases h0:len=0
     · subst h0;exact .inl rfl
     · obtain⟨b,off,spot⟩:=a
       have hc0:=(hx 0 (by omega)).1
       have hspot:spot=none:=by simpa [Addr.add] using World.cell?_spot hc0
       subst hspot
       have hbl:=World.block_lt_of_cell? _ _ hc0
       rw [addr_add] at hbl
       refine .inr ⟨b,off,rfl,hbl,by show¬w.heap.size≤b;simp only at hbl;omega,fun j u hu=> ?_⟩
       obtain⟨i,hi,hh⟩:=prsV_inv hu
       have hil:i<len:=by omega
       obtain⟨c0,c1,_,_⟩:=hx i (by omega)
       obtain⟨g0,g1,_,_⟩:=hf i (by omega)
       rw [addr_add] at c0 c1
       have hget:((List.range len).map f)[i]=f i:=by simp
       rcases hh with ⟨rfl,rfl⟩|⟨rfl,rfl⟩
       · rw [c0,g0,hget]
       · rw [c1,g1,hget]
   · intro p hp
     obtain⟨i,hi,rfl⟩:=List.mem_map.1 hp
     have hil:i<len:=by simpa using hi
     obtain⟨_,_,z0,z1⟩:=hf i (by omega)
     unfold maxLen at z0 z1
     exact⟨z0,z1⟩
end
end Go.Proofs.YthcmecokejemcaaGreatDoor
