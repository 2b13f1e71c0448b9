/-
  The seat's own texts, what PartsWrong wants besides: WrS14, Hs, Wrong14.
-/
import Derived.Test.YtjpmlneihbckpaaGreatDoorPe
/- The functions of parts, called on whatever trees there are. -/
set_option linter.unusedVariables false
set_option linter.unusedSimpArgs false
namespace Go.Proofs.YtjpmlneihbckpaaGreatDoor
open Go.RowKit Go.Shelf
theorem KeepsN.isR {R R' : Nat → Option (List Nat)} (h : KeepsN R R') (x : Nat) : isR R' x = isR R x := by
  unfold Go.Proofs.YtjpmlneihbckpaaGreatDoor.isR
  rw [(h x).1.1]
/-- the node whose key is 'm' -/
def keyM : ByteArray := ⟨#[109]⟩
def prM : Pr := (⟨#[109]⟩, ⟨#[]⟩)
/-- a node with that key, its text's record beside -/
def HasM (R : Nat → Option (List Nat)) (x : Nat) : Prop := x ≠ 0 ∧ nodeE R x = 0 ∧ R (nodeG R x).key = some (Tx.wordsL keyM.data.toList)
theorem HasM.keeps {R R' : Nat → Option (List Nat)} {x : Nat} (h : HasM R x) (k : KeepsN R R') : HasM R' x := by
  obtain ⟨h1, h2, h3⟩ := h
  refine ⟨h1, (k x).1.1.trans h2, ?_⟩
  rw [(k x).2.1, (k _).1.2 ?_]
  · exact h3
  · unfold nodeE
    rw [h3]
    decide
section
variable {w : World} {s : Nat} {F : Nat → Prop} {R : Nat → Option (List Nat)} {H : List Nat} {P q most last G : Nat}
theorem anySplit_at (h : StoreIs w s F R H P q most last G) (hsh : Short R) (rd : Bool) {x : Nat} (hx : x < 18446744073709551616) (key : ByteArray) (hk : key.size ≤ 1000) (hi : isR R x = true) :
    Calls Tryz.prog 37 #[.pointer (some ⟨s, 0, none⟩), .int .i64 (kindZ rd), .int .u64 (x : Nat), .string key] w fun e w' => ∃ (a b c : Nat) (R' : Nat → Option (List Nat)), e = .returned (.tuple #[.int .u64 (a : Nat), .int .u64 (b : Nat), .int .u64 (c : Nat), .int .i64 0]) ∧ KeepsN R R' ∧ Short R' ∧ StoreIs w' s F R' H P q most last G ∧ Turn w F w' F :=
  (paSplitT_at h hsh rd hx key hk hi).mono fun e w' ⟨he, hS, hT⟩ => ⟨_, _, _, _, he, cutS_keeps rd key 200 R x, (cutS_keeps rd key 200 R x).short hsh, hS, hT⟩
theorem anyConcat_at (h : StoreIs w s F R H P q most last G) (hsh : Short R) (rd : Bool) {x y : Nat} (hx : x < 18446744073709551616) (hy : y < 18446744073709551616) (hi : isR R x = true) (hj : isR R y = true) :
    Calls Tryz.prog 39 #[.pointer (some ⟨s, 0, none⟩), .int .i64 (kindZ rd), .int .u64 (x : Nat), .int .u64 (y : Nat)] w fun e w' => ∃ (a : Nat) (R' : Nat → Option (List Nat)), e = .returned (.tuple #[.int .u64 (a : Nat), .int .i64 0]) ∧ KeepsN R R' ∧ Short R' ∧ StoreIs w' s F R' H P q most last G ∧ Turn w F w' F :=
  (paConcatT_at h hsh rd hx hy hi hj).mono fun e w' ⟨he, hS, hT⟩ => ⟨_, _, he, cutC_keeps rd R x y, (cutC_keeps rd R x y).short hsh, hS, hT⟩
theorem anyDelete_at (h : StoreIs w s F R H P q most last G) (hsh : Short R) (rd : Bool) {x : Nat} (hx : x < 18446744073709551616) (key : ByteArray) (hk : key.size ≤ 1000) (hi : isR R x = true) :
    Calls Tryz.prog 40 #[.pointer (some ⟨s, 0, none⟩), .int .i64 (kindZ rd), .int .u64 (x : Nat), .string key] w fun e w' => ∃ (a b : Nat) (R' : Nat → Option (List Nat)), e = .returned (.tuple #[.int .u64 (a : Nat), .int .u64 (b : Nat), .int .i64 0]) ∧ KeepsN R R' ∧ Short R' ∧ StoreIs w' s F R' H P q most last G ∧ Turn w F w' F :=
  (paDeleteT_at h hsh rd hx key hk hi).mono fun e w' ⟨he, hS, hT⟩ => ⟨_, _, _, he, delP_keeps rd key R x, (delP_keeps rd key R x).short hsh, hS, hT⟩
theorem anyInsert_at (h : StoreIs w s F R H P q most last G) (hsh : Short R) (rd : Bool) {x m : Nat} (hx : x < 18446744073709551616) (hm : m < 18446744073709551616) (hi : isR R x = true) (hM : HasM R m) :
    Calls Tryz.prog 34 #[.pointer (some ⟨s, 0, none⟩), .int .i64 (kindZ rd), .int .u64 (x : Nat), .int .u64 (m : Nat)] w fun e w' => ∃ (a b : Nat) (R' : Nat → Option (List Nat)), e = .returned (.tuple #[.int .u64 (a : Nat), .int .u64 (b : Nat), .int .i64 0]) ∧ KeepsN R R' ∧ Short R' ∧ StoreIs w' s F R' H P q most last G ∧ Turn w F w' F := by
  obtain ⟨h1, h2, h3⟩ := hM
  have hb := blob_lo h3 (by decide)
  exact (paInsertT_at h hsh rd hx hm h1 hi (by unfold Go.Proofs.YtjpmlneihbckpaaGreatDoor.isR; rw [h2]; simp) keyM hb.1 hb.2).mono fun e w' ⟨he, hS, hT⟩ => ⟨_, _, _, he, insP_keeps rd keyM R x m, (insP_keeps rd keyM R x m).short hsh, hS, hT⟩
end
end Go.Proofs.YtjpmlneihbckpaaGreatDoor
/- Handles that are told: append of one; what Check's OK shows of heights. -/
set_option linter.unusedVariables false
set_option linter.unusedSimpArgs false
namespace Go.Proofs.YtjpmlneihbckpaaGreatDoor
open Go.RowKit Go.Shelf
/-- 'append(out, x)', out the call's own -/
theorem app_h {ops : Array Oper} {rest : List Oper} {o : Oper} {a : Act} {Q : Exit → Act → World → Prop} (hgd : o.guard = none) (s x : Operand)
    (ho : o.op = .call { callee := .builtin .append, args := #[s, x], argTypes := #[49, 49] }) (w : World) (base : Nat) (v : Value) (xs : List Nat) (hs : a.eval s = v)
    (hown : w.ownsRow base 32 1 v xs.length (hsV xs)) (b : Nat) (y : Nat) (hx : a.eval x = .slice (some ⟨b, 0, none⟩) 1 1) (hr : w.cell? ⟨b, 0, none⟩ = some (.int .u64 (y : Nat))) (hlen : xs.length ≤ 1000000) (hbase : base ≤ w.heap.size)
    (h : ∀ v' w', w'.ownsRow base 32 1 v' (xs ++ [y]).length (hsV (xs ++ [y])) → w.grownBy w' v.ownBlock → (v'.ownBlock = v.ownBlock ∨ v'.ownBlock = some w.heap.size) → wpList Tryz.prog ops Q rest (a.put o.dst v') w') :
    wpList Tryz.prog ops Q (o :: rest) a w := by
  obtain ⟨i0, hi, hz0, hz1, hz2⟩ := info_parts Tryz.info_h
  have hcells : ∀ j u, ([.int .u64 (y : Nat)] : List Value)[j]? = some u → w.cell? ((⟨b, 0, none⟩ : Addr).add j) = some u := by
    intro j u hu
    cases j with
    | zero =>
      rw [show (⟨b, 0, none⟩ : Addr).add 0 = ⟨b, 0, none⟩ by unfold Addr.add; split <;> simp_all]
      rw [hr]
      exact hu
    | succ j => cases hu
  refine wpList_append_own_at w hgd s x 49 ho base 32 i0 _ 1 8 Tryz.under_hs hi hz0 hz1 hz2 rfl (by decide) v xs.length (hsV xs) hs hown ⟨b, 0, none⟩ 1 1 [.int .u64 (y : Nat)] hx rfl hcells (by simp [Value.oneCell']) (by unfold maxLen; omega) (by omega) hbase ?_
  intro v' w' h1 h2 _ h4
  exact h v' w' (by rw [List.length_append]; unfold hsV at h1 ⊢; rw [List.map_append]; exact h1) h2 h4
theorem w64_range (z : Int) : -9223372036854775808 ≤ wrap64 z ∧ wrap64 z ≤ 9223372036854775807 := by unfold wrap64; omega
theorem w64_toU (z : Int) (h : -9223372036854775808 ≤ z ∧ z ≤ 9223372036854775807) : wrap64 ((toU z : Nat) : Int) = z := by
  rw [← wrapU]
  show wrap64 (z % 18446744073709551616) = z
  unfold wrap64
  omega
theorem near_of {a b : Int} (ha : -9223372036854775808 ≤ a ∧ a ≤ 9223372036854775807) (hb : -9223372036854775808 ≤ b ∧ b ≤ 9223372036854775807) (h2 : ¬ wrap64 (b + 1) < a) (h3 : ¬ wrap64 (a + 1) < b) : a - b ≤ 1 ∧ b - a ≤ 1 := by
  unfold wrap64 at h2 h3
  omega
theorem avBad_none {R : Nat → Option (List Nat)} {y : Nat} (h : avBad R y = false) :
    wrap64 ((nodeG R y).mark : Nat) = wrap64 (max (avH R (nodeG R y).left) (avH R (nodeG R y).right) + 1) ∧ avH R (nodeG R y).left - avH R (nodeG R y).right ≤ 1 ∧ avH R (nodeG R y).right - avH R (nodeG R y).left ≤ 1 := by
  unfold avBad at h
  simp only [Bool.or_eq_false_iff] at h
  obtain ⟨⟨h1, h2⟩, h3⟩ := h
  unfold avBad1 at h1
  unfold avBad2 at h2
  unfold avBad3 at h3
  have e1 : (((nodeG R y).mark : Nat) : Int) = ((toU (wrap64 (max (avH R (nodeG R y).left) (avH R (nodeG R y).right) + 1)) : Nat) : Int) := by simpa using h1
  have e2 := of_decide_eq_false h2
  have e3 := of_decide_eq_false h3
  refine ⟨?_, near_of (w64_range _) (w64_range _) e2 e3⟩
  rw [e1]
  exact w64_toU _ (w64_range _)
theorem nodeE_of_pairE {R : Nat → Option (List Nat)} {y : Nat} (h : pairE R y = 0) : nodeE R y = 0 := by
  unfold pairE at h
  by_cases h0 : nodeE R y = 0
  · exact h0
  · rw [if_pos h0] at h; exact h
theorem inR_zero (R : Nat → Option (List Nat)) (n : Nat) : inR R n 0 = [] := by
  unfold inR goO
  rw [if_neg (by omega)]
  unfold dive
  simp
theorem check_nodes {R : Nat → Option (List Nat)} {n root : Nat} (h : checkR R n root = 0) (hs : (nodeG R root).size < 18446744073709551616) (hn : n ≤ 262144) : ∀ y ∈ inR R n root, nodeE R y = 0 := by
  intro y hy
  by_cases h0 : root = 0
  · rw [h0, inR_zero] at hy; cases hy
  · obtain ⟨⟨c, hc⟩, _⟩ := check_ok h0 h hs hn
    obtain ⟨i, hi, rfl⟩ := List.getElem_of_mem hy
    exact nodeE_of_pairE (chk_told hc hi).1
theorem acheck_ok {R : Nat → Option (List Nat)} {n root : Nat} (h : acheckR R n root = 0) (hs : (nodeG R root).size < 18446744073709551616) (hn : n ≤ 262144) : ∀ y ∈ inR R n root, nodeE R y = 0 ∧ avBad R y = false := by
  unfold acheckR at h
  split at h
  · omega
  · rename_i h1
    split at h
    · cases h
    · rename_i h2
      exact fun y hy => ⟨check_nodes (by omega) hs hn y hy, by
        cases hb : avBad R y with
        | false => rfl
        | true => exact absurd (List.any_eq_true.2 ⟨y, hy, hb⟩) h2⟩
theorem acheck_val (R : Nat → Option (List Nat)) (n root : Nat) : acheckR R n root = 0 ∨ acheckR R n root = 8 := by
  unfold acheckR
  have := checkR_val R n root
  split
  · exact this
  · split
    · exact .inr rfl
    · exact .inl rfl
end Go.Proofs.YtjpmlneihbckpaaGreatDoor
/- loftlaw14.PartsWrong: the walk. -/
set_option linter.unusedVariables false
set_option linter.unusedSimpArgs false
namespace Go.Proofs.YtjpmlneihbckpaaGreatDoor
open Go.RowKit Go.Shelf
set_option maxHeartbeats 4000000 in
set_option maxRecDepth 100000 in
theorem wrong14_0 {w : World} (hT : Tab w) (k : Int) (l : List Pr) (A : Option Addr) (c : Nat) (a : Int) (x : Nd) (key : ByteArray) (h : ILaw w A l) (ha : key.size ≤ 9223372036854775807) (hg : k < 1 ∨ 2 < k ∨ 30 < l.length ∨ longL l = true ∨ 1000 < key.size) :
    Calls Tryz.prog 13 #[.int .i64 k, .slice A l.length c, .int .i64 a, x.v, .string key] w (TrueB w) := by
  obtain ⟨W0, hW0⟩ : ∃ W, W = w.alloc (Obj.cells #[.int .u64 (x.key : Nat), .int .u64 (x.val : Nat), .int .u64 (x.left : Nat), .int .u64 (x.right : Nat), .int .u64 (x.mark : Nat), .int .u64 (x.size : Nat)] 53) := ⟨_, rfl⟩
  have hb0 : Below w.heap.size w W0 := by rw [hW0]; exact (Below.refl _ w).alloc (Nat.le_refl _) _
  have hbx : Hid (Box W0 w.heap.size 53 [.int .u64 (x.key : Nat), .int .u64 (x.val : Nat), .int .u64 (x.left : Nat), .int .u64 (x.right : Nat), .int .u64 (x.mark : Nat), .int .u64 (x.size : Nat)]) := Lib.hid (by rw [hW0]; exact Box.new w 53 [.int .u64 (x.key : Nat), .int .u64 (x.val : Nat), .int .u64 (x.left : Nat), .int .u64 (x.right : Nat), .int .u64 (x.mark : Nat), .int .u64 (x.size : Nat)])
  have hb0H := Lib.hid hb0
  have hW0H := Lib.hid hW0
  have hN := Lib.hid (snew_at (hT.below hb0 (tab_lt hT)) 262144 1000 4294967295 (by omega) (by omega) (by omega) (by omega) (by omega))
  clear hb0 hW0
  have hTH := Lib.hid hT
  have hL := fun W (hb : Below w.heap.size w W) => refLong_at (c := c) (h.1.prs.below hb) h.2.2 h.2.1
  have z1 := h.2.2
  have hLH := Lib.hid hL
  clear hT h hL
  unfold TrueB Nd.v
  by_cases q5 : k < 1
  · have d5 : decide (k < 1) = true := decide_eq_true q5
    clear hg
    go_enter Tryz.func13, Tryz.ntmps13
    go_wp2_with fail
    rw [← hW0H.out]
    refine hN.out.mono ?_
    rintro e w1 ⟨s, F, rfl, hS, hs1, hF1, hb1⟩
    have hb10 := Lib.hid hb1
    have hb1H := Lib.hid (hb0H.out.trans (hb1.mono hb0H.out.size))
    clear hS hF1 hb1 hN
    have hAw := Lib.hid (awake14_at (hTH.out.below hb1H.out (tab_lt hTH.out)))
    go_wp2_with fail
    refine hAw.out.mono ?_
    rintro e w9 ⟨rfl, hb9⟩
    have hb9H := Lib.hid (hb1H.out.trans (hb9.mono hb1H.out.size))
    clear hb9 hAw
    go_wp2
    go_ret
    exact ⟨rfl, hb9H.out⟩
  · have d5 : decide (k < 1) = false := decide_eq_false q5
    by_cases q4 : 2 < k
    · have d4 : decide (2 < k) = true := decide_eq_true q4
      clear hg
      go_enter Tryz.func13, Tryz.ntmps13
      go_wp2_with fail
      rw [← hW0H.out]
      refine hN.out.mono ?_
      rintro e w1 ⟨s, F, rfl, hS, hs1, hF1, hb1⟩
      have hb10 := Lib.hid hb1
      have hb1H := Lib.hid (hb0H.out.trans (hb1.mono hb0H.out.size))
      clear hS hF1 hb1 hN
      have hAw := Lib.hid (awake14_at (hTH.out.below hb1H.out (tab_lt hTH.out)))
      go_wp2_with fail
      refine hAw.out.mono ?_
      rintro e w9 ⟨rfl, hb9⟩
      have hb9H := Lib.hid (hb1H.out.trans (hb9.mono hb1H.out.size))
      clear hb9 hAw
      go_wp2
      go_ret
      exact ⟨rfl, hb9H.out⟩
    · have d4 : decide (2 < k) = false := decide_eq_false q4
      by_cases q3 : (30 : Int) < (l.length : Int)
      · have d3 : decide ((30 : Int) < (l.length : Int)) = true := decide_eq_true q3
        clear hg
        go_enter Tryz.func13, Tryz.ntmps13
        go_wp2_with fail
        rw [← hW0H.out]
        refine hN.out.mono ?_
        rintro e w1 ⟨s, F, rfl, hS, hs1, hF1, hb1⟩
        have hb10 := Lib.hid hb1
        have hb1H := Lib.hid (hb0H.out.trans (hb1.mono hb0H.out.size))
        clear hS hF1 hb1 hN
        have hAw := Lib.hid (awake14_at (hTH.out.below hb1H.out (tab_lt hTH.out)))
        go_wp2_with fail
        refine hAw.out.mono ?_
        rintro e w9 ⟨rfl, hb9⟩
        have hb9H := Lib.hid (hb1H.out.trans (hb9.mono hb1H.out.size))
        clear hb9 hAw
        go_wp2
        go_ret
        exact ⟨rfl, hb9H.out⟩
      · have d3 : decide ((30 : Int) < (l.length : Int)) = false := decide_eq_false q3
        cases q2 : longL l with
        | true =>
          have hLa := Lib.hid (fun W hb => by have := hLH.out W hb; rw [q2] at this; exact this)
          clear hLH
          clear hg
          go_enter Tryz.func13, Tryz.ntmps13
          go_wp2_with fail
          rw [← hW0H.out]
          refine hN.out.mono ?_
          rintro e w1 ⟨s, F, rfl, hS, hs1, hF1, hb1⟩
          have hb10 := Lib.hid hb1
          have hb1H := Lib.hid (hb0H.out.trans (hb1.mono hb0H.out.size))
          clear hS hF1 hb1 hN
          go_wp2_with fail
          refine (hLa.out _ hb1H.out).mono ?_
          rintro e w2 ⟨rfl, rfl⟩
          have hAw := Lib.hid (awake14_at (hTH.out.below hb1H.out (tab_lt hTH.out)))
          go_wp2_with fail
          refine hAw.out.mono ?_
          rintro e w9 ⟨rfl, hb9⟩
          have hb9H := Lib.hid (hb1H.out.trans (hb9.mono hb1H.out.size))
          clear hb9 hAw
          go_wp2
          go_ret
          exact ⟨rfl, hb9H.out⟩
        | false =>
          have hLa := Lib.hid (fun W hb => by have := hLH.out W hb; rw [q2] at this; exact this)
          clear hLH
          have q : (1000 : Int) < (key.size : Int) := by first | omega | (rcases hg with h | h | h | h | h <;> first | omega | (rw [‹longL l = false›] at h; cases h)) | simp_all
          have d : decide ((1000 : Int) < (key.size : Int)) = true := decide_eq_true q
          clear hg
          go_enter Tryz.func13, Tryz.ntmps13
          go_wp2_with fail
          rw [← hW0H.out]
          refine hN.out.mono ?_
          rintro e w1 ⟨s, F, rfl, hS, hs1, hF1, hb1⟩
          have hb10 := Lib.hid hb1
          have hb1H := Lib.hid (hb0H.out.trans (hb1.mono hb0H.out.size))
          clear hS hF1 hb1 hN
          go_wp2_with fail
          refine (hLa.out _ hb1H.out).mono ?_
          rintro e w2 ⟨rfl, rfl⟩
          have hAw := Lib.hid (awake14_at (hTH.out.below hb1H.out (tab_lt hTH.out)))
          go_wp2_with fail
          refine hAw.out.mono ?_
          rintro e w9 ⟨rfl, hb9⟩
          have hb9H := Lib.hid (hb1H.out.trans (hb9.mono hb1H.out.size))
          clear hb9 hAw
          go_wp2
          go_ret
          exact ⟨rfl, hb9H.out⟩
set_option maxHeartbeats 8000000 in
set_option maxRecDepth 100000 in
theorem wrong14_main {w : World} (hT : Tab w) (rd : Bool) (l : List Pr) (A : Option Addr) (c : Nat) (a : Int) (x : Nd) (key : ByteArray) (h : ILaw w A l) (g1 : l.length ≤ 30) (g3 : longL l = false) (ha : key.size ≤ 1000) (hab : -9223372036854775808 ≤ a ∧ a ≤ 9223372036854775807) (hx : x.Ok) :
    Calls Tryz.prog 13 #[.int .i64 (kindZ rd), .slice A l.length c, .int .i64 a, x.v, .string key] w (TrueB w) := by
  obtain ⟨W0, hW0⟩ : ∃ W, W = w.alloc (Obj.cells #[.int .u64 (x.key : Nat), .int .u64 (x.val : Nat), .int .u64 (x.left : Nat), .int .u64 (x.right : Nat), .int .u64 (x.mark : Nat), .int .u64 (x.size : Nat)] 53) := ⟨_, rfl⟩
  have hb0 : Below w.heap.size w W0 := by rw [hW0]; exact (Below.refl _ w).alloc (Nat.le_refl _) _
  have hbx : Hid (Box W0 w.heap.size 53 [.int .u64 (x.key : Nat), .int .u64 (x.val : Nat), .int .u64 (x.left : Nat), .int .u64 (x.right : Nat), .int .u64 (x.mark : Nat), .int .u64 (x.size : Nat)]) := Lib.hid (by rw [hW0]; exact Box.new w 53 [.int .u64 (x.key : Nat), .int .u64 (x.val : Nat), .int .u64 (x.left : Nat), .int .u64 (x.right : Nat), .int .u64 (x.mark : Nat), .int .u64 (x.size : Nat)])
  have hb0H := Lib.hid hb0
  have hW0H := Lib.hid hW0
  have hN := Lib.hid (snew_at (hT.below hb0 (tab_lt hT)) 262144 1000 4294967295 (by omega) (by omega) (by omega) (by omega) (by omega))
  clear hb0 hW0
  have hTH := Lib.hid hT
  have hL := fun W (hb : Below w.heap.size w W) => refLong_at (c := c) (h.1.prs.below hb) h.2.2 h.2.1
  rw [g3] at hL
  have hLH := Lib.hid hL
  have d1 : decide ((30 : Int) < (l.length : Int)) = false := decide_eq_false (by omega)
  obtain ⟨dk1, dk2⟩ := kindZ_ok rd
  have hso := Lib.hid (fun W (hb : Below w.heap.size w W) => refSorted_at (c := c) (h.1.prs.below hb) hb.size (by omega) h.2.1)
  have hsl := sortedL_len l
  have hrs := Lib.hid (sortedL_rising l)
  have hszl := sized_of g3
  have hszm : Hid (∀ p ∈ sortedL l, p.1.size ≤ 1000 ∧ p.2.size ≤ 1000) := Lib.hid (fun p hp => hszl p (sortedL_mem hp))
  have da : decide ((1000 : Int) < (key.size : Int)) = false := decide_eq_false (by omega)
  have hxok := Lib.hid hx
  clear hT h hL g3 hszl
  unfold TrueB Nd.v
  go_enter Tryz.func13, Tryz.ntmps13
  go_wp2_with fail
  rw [← hW0H.out]
  refine hN.out.mono ?_
  rintro e w1 ⟨s, F, rfl, hS, hs1, hF1, hb1⟩
  have hb10 := Lib.hid hb1
  have hb1H := Lib.hid (hb0H.out.trans (hb1.mono hb0H.out.size))
  have hSt1 := Lib.hid (PaIn.start hS rd)
  have hF0H : Hid (∀ b, F b → W0.heap.size ≤ b) := Lib.hid hF1
  have hs0H : Hid (W0.heap.size ≤ s) := Lib.hid hs1
  have hF1H : Hid (∀ b, F b → w.heap.size ≤ b) := Lib.hid (fun b hb => Nat.le_trans hb0H.out.size (hF1 b hb))
  have hFl := Lib.hid (fun b (hf : F b) => hS.lt hf)
  have hso1 := Lib.hid (hso.out _ hb1H.out)
  clear hS hF1 hb1 hN hso
  go_wp2_with fail
  refine (hLH.out _ hb1H.out).mono ?_
  rintro e w2 ⟨rfl, rfl⟩
  clear hLH
  go_wp2_with fail
  refine hso1.out.mono ?_
  rintro e w2 ⟨v, rfl, hrow, hb2⟩
  obtain ⟨A2, c2, rfl, hA2, hc2, hP2⟩ := own_pairs hrow rfl
  have hcf := Lib.hid (CellsF.own hrow hP2 hFl.out)
  have hb2H := Lib.hid (hb1H.out.trans (hb2.mono hb1H.out.size))
  have hb20 := Lib.hid (hb10.out.trans (hb2.mono hb10.out.size))
  have hSt2 := Lib.hid (hSt1.out.below hb2)
  clear hrow hP2 hb2 hso1 hFl hSt1 hb1H
  generalize sortedL l = m at *
  go_wp2_with fail
  go_loopw [13, 15] (fun rv iv wr => ∃ (k : Nat) (t : BT) (F' : Nat → Prop) (R' : Nat → Option (List Nat)) (H' : List Nat), k ≤ m.length ∧ iv = .int .i64 k ∧ rv = .int .u64 (t.root : Nat) ∧ Hid (PaIn wr s F' R' H' (9 * k) 262144 1000 4294967295 (3 * k) rd t .none (m.take k)) ∧ Hid (Turn w2 F wr F')) (fun _ iv _ => m.length - (intOf iv).toNat)
  case atStart => exact ⟨0, .nil, F, _, [], by omega, rfl, rfl, by simpa using hSt2, Lib.hid (Turn.refl _ _)⟩
  case round =>
    obtain ⟨k, t, F', R', H', hk, rfl, rfl, hst, hT'⟩ := hrel
    by_cases hlt : k < m.length
    · skip
      obtain ⟨bb, oo, hAs, q1, q2⟩ := (hcf.out.turn hT'.out).pairs hlt
      obtain ⟨hput, hfnd⟩ := rise_put hrs.out hlt
      have hzp := hszm.out _ (List.getElem_mem hlt)
      obtain ⟨p, hp⟩ : ∃ p, m[k] = p := ⟨_, rfl⟩
      rw [hp] at hput hfnd hzp
      simp only [hp] at q1 q2
      have hlen := hst.out.len
      have htk : (m.take k).length = k := by rw [List.length_take]; omega
      rw [htk] at hlen
      simp only [Ln.hs, List.length_nil, Nat.add_zero] at hlen
      have hLf := leaf14_at hst.out.st p hzp.1 hzp.2 (by omega) (by omega) (by omega)
      have hpH := Lib.hid hp
      have hLfH := Lib.hid hLf
      have hputH := Lib.hid hput
      have hfndH := Lib.hid hfnd
      have htkH := Lib.hid htk
      have hz9 := hzp.1
      subst hAs
      clear hLf hput hfnd hp hlen htk hzp
      go_wp2_with fail
      refine hLfH.out.mono ?_
      rintro e w3 ⟨x, kx, vx, F2, R2, H2, rfl, gm, hS2, hH2, hT2, hx64⟩
      have hIH := Lib.hid (paLeafIns_at hst.out gm hS2 hH2 (by have := htkH.out; omega))
      have hT2H := Lib.hid (hT'.out.trans hT2)
      clear gm hS2 hH2 hT2 hLfH
      go_wp2_with fail
      refine hIH.out.mono ?_
      rintro e w4 ⟨t', old, R4, rfl, hst4, ho, hT4⟩
      have h0 : old.root = 0 := by
        by_cases h : old.root = 0
        · exact h
        · exact absurd (ho.1 h) (by have := hfndH.out; omega)
      obtain rfl := Ln.none_of hst4.oat h0
      have hst4' := hst4.more (P' := 9 * (k + 1)) (G' := 3 * (k + 1)) (by omega) (by omega)
      rw [hputH.out] at hst4'
      have hst4H := Lib.hid hst4'
      have hT4H := Lib.hid (hT2H.out.trans hT4)
      have r0 : (Ln.none).root = 0 := rfl
      clear hst4 hst4' ho hT4 hIH h0 hst hT'
      go_wp2
      go_roundw
      case rel => exact ⟨k + 1, t', F2, R4, H2, by omega, by go_num, rfl, hst4H, hT4H⟩
      case measure => simp [intOf]; omega
    · obtain rfl : k = m.length := by omega
      have hst2 := hst.out
      rw [List.take_length] at hst2
      have hlen := hst2.len
      simp only [Ln.hs, List.length_nil, Nat.add_zero] at hlen
      have hLf := leaf14_at hst2.st prM (by decide) (by decide) (by omega) (by omega) (by omega)
      unfold prM at hLf
      have hLfH := Lib.hid hLf
      have hst2H := Lib.hid hst2
      clear hLf hst2 hst
      go_wp2_with fail
      refine hLfH.out.mono ?_
      rintro e w5 ⟨xm, kx, vx, F5, R5, H5, rfl, gm, hS5, hH5, hT5, hxm⟩
      have lo := BT.lo gm.at'
      have hM5 : Hid (HasM R5 xm) := Lib.hid ⟨lo.nz, lo.e, by rw [lo.key]; exact lo.kt⟩
      have ht5 := gm.on hst2H.out.at'
      have sh5 := gm.short hst2H.out.sh
      have z5 := gm.zero hst2H.out.z
      obtain ⟨n5, hTr, -⟩ := treeIn hS5 sh5 z5 ht5 hst2H.out.prs hst2H.out.ris (List.nodup_append.1 hst2H.out.nd).1
      have hLi := Lib.hid (tlist_at hTr)
      have hT5H := Lib.hid (hT'.out.trans hT5)
      have hrd5 := hTr.rd
      have hrt := hTr.root_lt
      have hir5 := Lib.hid (isR_root ht5)
      have hnE : Hid (∀ y ∈ t.nodes, nodeE R5 y = 0) := Lib.hid (fun y hy => by obtain ⟨nd, h9⟩ := BT.nodes_six t ht5 y hy; unfold nodeE; rw [h9]; rfl)
      have hnl : t.nodes.length = m.length := by rw [BT.nodes_len, ← BT.prs_len, hst2H.out.prs]
      have hL5lt := Lib.hid (fun y (hy : y ∈ t.nodes) => hTr.node_lt hy)
      have hG5 := Lib.hid (fun W (hb : Below w5.heap.size w5 W) y hy nd hnd ee hz => nget_lit (hrd5.below hb) y hy nd hnd ee hz)
      have hok5 := Lib.hid (fun y => hrd5.nodeG y)
      have hF5W : Hid (∀ b, F5 b → W0.heap.size ≤ b) := Lib.hid (fun b hb => by
        rcases hT5H.out.grow b hb with h1 | h1
        · exact hF0H.out b h1
        · exact Nat.le_trans hb20.out.size h1)
      have hb50 := Lib.hid (hb20.out.trans (hT5H.out.to_below hb20.out.size hF0H.out))
      have hS5H := Lib.hid hS5
      have hsh5 := Lib.hid sh5
      have hH5H := Lib.hid hH5
      obtain ⟨rt, hrte⟩ : ∃ rt, t.root = rt := ⟨_, rfl⟩
      rw [hrte] at hLi hir5 hrt
      rw [hrte]
      generalize t.nodes = L5 at *
      clear gm lo ht5 sh5 z5 hTr hS5 hH5 hT5 hrd5 hLfH hrte hst2H hT'
      go_wp2_with fail
      refine hLi.out.mono ?_
      rintro e w6 ⟨v6, rfl, hro6, hb6⟩
      have hb6H := Lib.hid hb6
      rw [← hnl] at hro6
      have hro6H := Lib.hid hro6
      have hlen5 : L5.length ≤ 1000000 := by omega
      clear hb6 hro6 hLi
      go_wp2_with (at_builtin; go_must (refine app_h rfl (.tmp 90) (.tmp 92) rfl _ w5.heap.size _ L5 rfl (hro6H.out.alloc _) w6.heap.size xm rfl (by go_simp) hlen5 (by have := hb6H.out.size; simp; omega) ?_))
      intro v7 w7 hro7 hg7 _
      have hb7 := Lib.hid (ownN_below ((hb6H.out.alloc hb6H.out.size _)) (hro6H.out.alloc _) hg7 (by have := hb6H.out.size; simp; omega))
      obtain ⟨Ls, hLs⟩ : ∃ Ls, L5 ++ [xm] = Ls := ⟨_, rfl⟩
      have hLs1 : Ls.length = m.length + 1 := by rw [← hLs]; simp; omega
      rw [hLs, ← hLs1] at hro7
      obtain ⟨g, cc, rfl, hgb, hgl⟩ := hro7.form (by omega)
      have hLsn : Hid (∀ y ∈ Ls, y < 18446744073709551616 ∧ nodeE R5 y = 0) := Lib.hid (fun y hy => by
        rw [← hLs] at hy
        rcases List.mem_append.1 hy with h1 | h1
        · exact ⟨hL5lt.out y h1, hnE.out y h1⟩
        · rw [List.mem_singleton.1 h1]; exact ⟨hxm, hM5.out.2.1⟩)
      have hcells : Hid (∀ i (hi : i < Ls.length), w7.cell? ⟨g, i, none⟩ = some (.int .u64 (Ls[i] : Nat))) := Lib.hid (fun i hi => by
        refine (hro7.cellAt i (by omega)).trans ?_
        rw [hsV, List.getElem?_map, List.getElem?_eq_getElem hi]
        rfl)
      have hn1 : Ls.length ≤ 1000001 := by omega
      have hn0 : 0 < Ls.length := by omega
      clear hro7 hg7 hLs hLs1 hro6H hL5lt hnE hlen5 hgb hgl
      obtain ⟨ix, hix, hixe, hi1, hi2⟩ := idx_any a Ls.length hn0
      have hc1 := hcells.out ix hix
      obtain ⟨hh, hhe⟩ : ∃ hh, Ls[ix] = hh := ⟨_, rfl⟩
      rw [hhe] at hc1
      obtain ⟨hhlt, hhE⟩ := hhe ▸ hLsn.out _ (List.getElem_mem hix)
      obtain ⟨nd, hnd⟩ : ∃ nd, nodeG R5 hh = nd := ⟨_, rfl⟩
      have hndok := Lib.hid (hnd ▸ hok5.out hh)
      have hG := Lib.hid (hG5.out w7 hb7.out hh hhlt nd hnd 0 hhE)
      have hndH := Lib.hid hnd
      have hhEH := Lib.hid hhE
      clear hhe hnd hG5 hok5 hhE
      go_wp2_with fail
      refine hG.out.mono ?_
      rintro e w8 ⟨rfl, hb8⟩
      have hb8H := Lib.hid (hb7.out.trans (hb8.mono hb7.out.size))
      have hb78 := Lib.hid hb8
      have hbx8 := Lib.hid (hbx.out.below (hb50.out.trans (hb8H.out.mono hb50.out.size)))
      have hlx8 : w.heap.size < w8.heap.size := hbx8.out.lt
      have hbw8 := Lib.hid (hb0H.out.trans ((hb50.out.trans (hb8H.out.mono hb50.out.size)).mono hb0H.out.size))
      have hwx : w.heap.size < W0.heap.size := hbx.out.lt
      have hz8 : w7.heap.size ≤ w8.heap.size := hb8.size
      clear hb8 hc1 hi1 hi2 hixe hG
      have q2 := hbx8.out.at' (i := 2) rfl
      have q4 := hbx8.out.at' (i := 4) rfl
      obtain ⟨jx, hjxe⟩ : ∃ jx : Nat, (x.left : Int) % 64 % (Ls.length : Int) = (jx : Int) := ⟨x.left % 64 % Ls.length, by simp⟩
      have hjx : jx < Ls.length := by have := Int.emod_lt_of_pos ((x.left : Int) % 64) (show (0 : Int) < (Ls.length : Int) by omega); omega
      have hcj := (hb78.out.cell (p := ⟨g, jx, none⟩) (cell_lt (hcells.out jx hjx))).trans (hcells.out jx hjx)
      obtain ⟨y, hy⟩ : ∃ y, Ls[jx] = y := ⟨_, rfl⟩
      rw [hy] at hcj
      have hylt : y < 18446744073709551616 := hy ▸ (hLsn.out _ (List.getElem_mem hjx)).1
      have hb9 : Below w8.heap.size w8 (w8.alloc (Obj.cells #[Value.int IntKind.u64 (nd.key : Nat), Value.int IntKind.u64 (nd.val : Nat), Value.int IntKind.u64 (nd.left : Nat), Value.int IntKind.u64 (nd.right : Nat), Value.int IntKind.u64 (nd.mark : Nat), Value.int IntKind.u64 (nd.size : Nat)] 53)) := (Below.refl _ w8).alloc (Nat.le_refl _) _
      have hcj9 := (hb9.cell (p := ⟨g, jx, none⟩) (cell_lt hcj)).trans hcj
      have hb9H := Lib.hid hb9
      clear hb9 hy
      go_wp2_with fail
      obtain ⟨W9, hW9⟩ : ∃ W, W = w8.alloc (Obj.cells #[Value.int IntKind.u64 (nd.key : Nat), Value.int IntKind.u64 (nd.val : Nat), Value.int IntKind.u64 (y : Nat), Value.int IntKind.u64 (nd.right : Nat), Value.int IntKind.u64 (x.mark : Nat), Value.int IntKind.u64 (nd.size : Nat)] 53) := ⟨_, rfl⟩
      have hb99 : Below w8.heap.size w8 W9 := by rw [hW9]; exact (Below.refl _ w8).alloc (Nat.le_refl _) _
      rw [← hW9]
      have hxn : (Nd.mk nd.key nd.val y nd.right x.mark nd.size).Ok := ⟨hndok.out.key, hndok.out.val, hylt, hndok.out.right, hxok.out.mark, hndok.out.size⟩
      have hput := nput_any ((hS5H.out.below hb8H.out).below hb99) hh hhlt (Nd.mk nd.key nd.val y nd.right x.mark nd.size) hxn
      have hk6 : KeepsN R5 (putN R5 hh (Nd.mk nd.key nd.val y nd.right x.mark nd.size)) := KeepsN.put (fun _ => by rw [hndH.out]; exact ⟨rfl, rfl⟩)
      have hbwW := Lib.hid (hbw8.out.trans (hb99.mono hbw8.out.size))
      have hF5 : Hid (∀ b, F5 b → w.heap.size ≤ b) := Lib.hid (fun b hb => Nat.le_trans hb0H.out.size (hF5W.out b hb))
      clear hb99 hW9 q2 q4 hcj hcj9
      unfold Nd.v at hput
      refine hput.mono ?_
      rintro e w10 ⟨rfl, hS6, hT6⟩
      have hS6b : StoreIs w10 s F5 (putN R5 hh (Nd.mk nd.key nd.val y nd.right x.mark nd.size)) H5 _ _ _ _ _ := hS6
      generalize putN R5 hh (Nd.mk nd.key nd.val y nd.right x.mark nd.size) = R6 at hk6 hS6b
      have sh6 := hk6.short hsh5.out
      have i6 := (hk6.isR rt).trans hir5.out
      have j5 : isR R5 hh = true := by unfold isR; rw [hhEH.out]; simp
      have j6 := (hk6.isR hh).trans j5
      have m6 := hM5.out.keeps hk6
      have hbw10 := Lib.hid (hbwW.out.trans (hT6.to_below hbwW.out.size hF5.out))
      have hAl := Lib.hid (sall_at hS6b)
      have hSp := fun W (hb : Below w10.heap.size w10 W) => anySplit_at (hS6b.below hb) sh6 rd hrt key ha i6
      have hSpH := Lib.hid hSp
      have hK6 := Lib.hid hk6
      have i6H := Lib.hid i6
      have j6H := Lib.hid j6
      have m6H := Lib.hid m6
      clear hput hS6 hS6b hT6 sh6 i6 j5 j6 m6 hk6 hSp
      go_wp2_with fail
      refine hAl.out.mono ?_
      rintro e w11 ⟨v11, Hs, rfl, hpm, hro, hb11⟩
      obtain ⟨A11, c11, rfl⟩ := ownsRow_form hro
      have hHl : Hid (Hs.length = H5.length) := Lib.hid hpm.length_eq
      have hSp2 := Lib.hid (hSpH.out _ hb11)
      have hT11 := Lib.hid (Turn.below (F := F5) hb11)
      clear hpm hro hb11 hAl hSpH
      go_wp2_with fail
      refine hSp2.out.mono ?_
      rintro e w12 ⟨a7, b7, c7, R7, rfl, hk7, sh7, hS7, hT7⟩
      have hCo := Lib.hid (anyConcat_at hS7 sh7 rd hhlt hrt ((hk7.isR hh).trans j6H.out) ((hk7.isR rt).trans i6H.out))
      have i7H := Lib.hid ((hk7.isR rt).trans i6H.out)
      have m7H := Lib.hid (m6H.out.keeps hk7)
      have hT12 := Lib.hid (hT11.out.trans hT7)
      clear hk7 sh7 hS7 hT7 hSp2 hT11 i6H m6H
      go_wp2_with fail
      refine hCo.out.mono ?_
      rintro e w13 ⟨a8, R8, rfl, hk8, sh8, hS8, hT8⟩
      have hIn := Lib.hid (anyInsert_at hS8 sh8 rd hrt hxm ((hk8.isR rt).trans i7H.out) (m7H.out.keeps hk8))
      have i8H := Lib.hid ((hk8.isR rt).trans i7H.out)
      have hT13 := Lib.hid (hT12.out.trans hT8)
      clear hk8 sh8 hS8 hT8 hCo hT12 i7H m7H
      go_wp2_with fail
      refine hIn.out.mono ?_
      rintro e w14 ⟨a9, b9, R9, rfl, hk9, sh9, hS9, hT9⟩
      have hDe := Lib.hid (anyDelete_at hS9 sh9 rd hrt key ha ((hk9.isR rt).trans i8H.out))
      have hT14 := Lib.hid (hT13.out.trans hT9)
      clear hk9 sh9 hS9 hT9 hIn hT13 i8H
      go_wp2_with fail
      refine hDe.out.mono ?_
      rintro e w15 ⟨a10, b10, R10, rfl, hk10, sh10, hS10, hT10⟩
      have hAl2 := Lib.hid (sall_at hS10)
      have hbw15 := Lib.hid (hbw10.out.trans ((hT14.out.trans hT10).to_below hbw10.out.size hF5.out))
      clear hk10 sh10 hS10 hT10 hDe hT14
      go_wp2_with fail
      refine hAl2.out.mono ?_
      rintro e w17 ⟨v17, Hs2, rfl, hpm, hro, hb17⟩
      obtain ⟨A17, c17, rfl⟩ := ownsRow_form hro
      have hlenS2 : Hs2.length = Hs.length := by rw [hpm.length_eq, hHl.out]
      rw [hlenS2]
      have e4 : ((Hs.length : Int) == (Hs.length : Int)) = true := by simp
      have hb17H := Lib.hid (hbw15.out.trans (hb17.mono hbw15.out.size))
      clear hb17 hpm hro hlenS2 hAl2
      have hAw := Lib.hid (awake14_at (hTH.out.below hb17H.out (tab_lt hTH.out)))
      go_wp2_with fail
      refine hAw.out.mono ?_
      rintro e w9 ⟨rfl, hb9⟩
      have hb9H := Lib.hid (hb17H.out.trans (hb9.mono hb17H.out.size))
      clear hb9 hAw
      go_wp2
      go_ret
      exact ⟨rfl, hb9H.out⟩
end Go.Proofs.YtjpmlneihbckpaaGreatDoor
