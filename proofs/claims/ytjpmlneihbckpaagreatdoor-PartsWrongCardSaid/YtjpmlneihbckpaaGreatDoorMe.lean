/-
  The seat's own texts, part e: Rd, TxPlain, TxWords, TxEqual, TxPlain2, TxOf, TxAll, TxCompare, TxCb, Blob, Blob2, Blob3, Bput, Node.
-/
import Derived.Test.YtjpmlneihbckpaaGreatDoorMd
import Derived.Lib.Bytealg
import Derived.Laws.BitsAllLaws
import Derived.Laws.BitsLemmas
import Derived.Test.YtjpmlneihbckpaaGreatDoorChecked
import Derived.WalkKit
import Derived.Below
import Derived.WalkLawsBesides
import Derived.WalkSpells
import Derived.Deep.OwnRows
import Derived.Laws.IdiomStrings
import Derived.Lib.Hide
import Derived.Deep.Draws
import Derived.OwnWalk
import Derived.Maps.AppendAt
import Derived.Maps.OwnIn
/- A store that is only read: what its blocks' bound is, and how many words are granted. -/
set_option linter.unusedVariables false
set_option linter.unusedSimpArgs false
namespace Go.Proofs.YtjpmlneihbckpaaGreatDoor
open Go.RowKit Go.Shelf
theorem HTab.kb {Cs : Nat → Prop} {w w' : World} {t most last : Nat} {v : Value} {sl : List Sl} (h : HTab w t v most last sl) (hk : KB Cs w w') (hc : ∀ b, HTabF t v b → ¬ Cs b) : HTab w' t v most last sl :=
  h.same fun b hF => by
    have hn := hc b hF
    rcases hF with rfl | hF
    · obtain ⟨o, ho, h4⟩ := cell_obj h.c0
      exact (hk.same _ o ho (.inl h4) hn).trans ho.symm
    · rcases h.row.2 with ⟨h1, _⟩ | ⟨g, cap, cur, h1, h2, h3, h4⟩
      · rw [h1] at hF; simp [Value.ownBlock] at hF
      · rw [h1] at hF
        have : g = b := by simpa [Value.ownBlock] using hF
        subst this
        exact (hk.same _ _ h3 (.inl rfl) hn).trans h3.symm
theorem HeapIs.kb {Cs : Nat → Prop} {w w' : World} {ha a q : Nat} {F : Nat → Prop} {L : HL} {mem : Nat → Nat} (h : HeapIs w ha a F L q mem) (hk : KB Cs w w') (h1 : ∀ k, F k → ¬ Cs k) (h2 : ¬ Cs ha) (h3 : ¬ Cs 1) : HeapIs w' ha a F L q mem := by
  obtain ⟨⟨mb, D, k1, rfl⟩, k2, k3⟩ := h
  exact ⟨⟨mb, D, k1.kb hk (fun k hc hf => h1 k hf hc) h2 h3, rfl⟩, k2, k3⟩
/-- a store whose blocks lie below N, and which has granted n words -/
def Rd (N : Nat) (w : World) (s : Nat) (R : Nat → Option (List Nat)) (n : Nat) : Prop :=
  ∃ F H P q most last G a ha t v L mem sl Fh, StIn w s F R H P q most last G a ha t v L mem sl Fh ∧ n = 64 * (runs L).length ∧ (∀ b, F b → b < N) ∧ s < N ∧ ha < N ∧ 1 < N
section
variable {w w' : World} {s N : Nat} {F : Nat → Prop} {R : Nat → Option (List Nat)} {H : List Nat} {P q most last G n : Nat}
theorem Rd.below (h : Rd N w s R n) (hb : Below w.heap.size w w') : Rd N w' s R n := by
  obtain ⟨F, H, P, q, most, last, G, a, ha, t, v, L, mem, sl, Fh, h, hn⟩ := h
  exact ⟨F, H, P, q, most, last, G, a, ha, t, v, L, mem, sl, Fh, h.below hb, hn⟩
theorem Rd.mono {N' : Nat} (h : Rd N w s R n) (hN : N ≤ N') : Rd N' w s R n := by
  obtain ⟨F, H, P, q, most, last, G, a, ha, t, v, L, mem, sl, Fh, h, hn, h1, h2, h3, h4⟩ := h
  exact ⟨F, H, P, q, most, last, G, a, ha, t, v, L, mem, sl, Fh, h, hn, fun b hb => Nat.lt_of_lt_of_le (h1 b hb) hN, by omega, by omega, by omega⟩
theorem Rd.kb {Cs : Nat → Prop} (h : Rd N w s R n) (hk : KB Cs w w') (hc : ∀ k, Cs k → N ≤ k) : Rd N w' s R n := by
  obtain ⟨F, H, P, q, most, last, G, a, ha, t, v, L, mem, sl, Fh, h, hn, h1, h2, h3, h4⟩ := h
  have hno : ∀ b, b < N → ¬ Cs b := fun b hb hcb => by have := hc b hcb; omega
  have hF := h.F_eq
  refine ⟨F, H, P, q, most, last, G, a, ha, t, v, L, mem, sl, Fh, { h with
    ca := hk.cell h.ca (hno _ h2)
    ch := hk.cell h.ch (hno _ h2)
    ct := hk.cell h.ct (hno _ h2)
    heap := h.heap.kb hk (fun k hf => hno k (h1 k (by rw [hF]; exact .inl hf))) (hno _ h3) (hno _ h4)
    tab := h.tab.kb hk (fun k hf => hno k (h1 k (by rw [hF]; exact .inr hf))) }, hn, h1, h2, h3, h4⟩
theorem StoreIs.rd (h : StoreIs w s F R H P q most last G) : ∃ n, Rd w.heap.size w s R n ∧ WordsR R H P n := by
  obtain ⟨a, ha, t, v, L, mem, sl, Fh, h⟩ := h
  refine ⟨_, ⟨F, H, P, q, most, last, G, a, ha, t, v, L, mem, sl, Fh, h, rfl, fun b hb => h.lt hb, cell_lt (a := ⟨s, 2, none⟩) h.ca, ?_, ?_⟩, h.words⟩
  · obtain ⟨⟨mb, D, k1, rfl⟩, k2, k3⟩ := h.heap
    exact cell_lt k1.hs
  · obtain ⟨⟨mb, D, k1, rfl⟩, k2, k3⟩ := h.heap
    exact cell_lt (a := ⟨1, 0, none⟩) (k1.tab 0 (by decide))
theorem Rd.is (h : Rd N w s R n) : ∃ F H P q most last G, StoreIs w s F R H P q most last G := by
  obtain ⟨F, H, P, q, most, last, G, a, ha, t, v, L, mem, sl, Fh, h, _⟩ := h
  exact ⟨F, H, P, q, most, last, G, a, ha, t, v, L, mem, sl, Fh, h⟩
theorem Rd.here (h : Rd N w s R n) : Rd w.heap.size w s R n := by
  obtain ⟨F, H, P, q, most, last, G, a, ha, t, v, L, mem, sl, Fh, h, hn, h1, h2, h3, h4⟩ := h
  refine ⟨F, H, P, q, most, last, G, a, ha, t, v, L, mem, sl, Fh, h, hn, fun b hb => h.lt hb, cell_lt (a := ⟨s, 2, none⟩) h.ca, ?_, ?_⟩
  · obtain ⟨⟨mb, D, k1, rfl⟩, k2, k3⟩ := h.heap
    exact cell_lt k1.hs
  · obtain ⟨⟨mb, D, k1, rfl⟩, k2, k3⟩ := h.heap
    exact cell_lt (a := ⟨1, 0, none⟩) (k1.tab 0 (by decide))
theorem Rd.s_lt (h : Rd N w s R n) : s < N := by
  obtain ⟨F, H, P, q, most, last, G, a, ha, t, v, L, mem, sl, Fh, h, hn, h1, h2, h3, h4⟩ := h
  exact h2
theorem Rd.le (h : Rd N w s R n) : n ≤ 262144 := by
  obtain ⟨F, H, P, q, most, last, G, a, ha, t, v, L, mem, sl, Fh, h, rfl, _⟩ := h
  obtain ⟨⟨mb, D, k1, rfl⟩, k3, k4⟩ := h.heap
  have h1 := k1.sl.room; have h2 := k1.sl.quota; rw [k1.sl.count] at h1; omega
theorem Rd.u64 (h : Rd N w s R n) {x : Nat} {ws : List Nat} (hR : R x = some ws) : x < 18446744073709551616 ∧ ws.length ≤ 3998 ∧ ∀ i (hi : i < ws.length), ws[i] < 18446744073709551616 := by
  obtain ⟨F, H, P, q, most, last, G, a, ha, t, v, L, mem, sl, Fh, h, _⟩ := h
  obtain ⟨k, nm, hr⟩ := h.record hR
  obtain ⟨⟨mb, D, k1, rfl⟩, k3, k4⟩ := h.heap
  exact ⟨h.R64 hR, hr.len, fun i hi => hr.wd i hi ▸ k1.sl.word _⟩
theorem rlen_at (h : Rd N w s R n) (x : Nat) (hx : x < 18446744073709551616) :
    Calls Tryz.prog 51 #[.pointer (some ⟨s, 0, none⟩), .int .u64 (x : Nat)] w fun e w' => e = .returned (lenR R x) ∧ w = w' := by
  obtain ⟨F, H, P, q, most, last, G, h⟩ := h.is
  exact slen_at h x hx
theorem rget_at (h : Rd N w s R n) {x i : Nat} {ws : List Nat} (hR : R x = some ws) (hi : i < ws.length) :
    Calls Tryz.prog 67 #[.pointer (some ⟨s, 0, none⟩), .int .u64 (x : Nat), .int .i64 (i : Nat)] w fun e w' => e = .returned (.tuple #[.int .u64 (ws[i] : Nat), .int .i64 0]) ∧ w = w' := by
  obtain ⟨F, H, P, q, most, last, G, h⟩ := h.is
  exact sget_at h hR hi
set_option maxRecDepth 100000 in
theorem rwords_at (h : Rd N w s R n) :
    Calls Tryz.prog 123 #[.pointer (some ⟨s, 0, none⟩)] w fun e w' => e = .returned (.int .i64 (n : Nat)) ∧ Below w.heap.size w w' := by
  obtain ⟨F, H, P, q, most, last, G, a, ha, t, v, L, mem, sl, Fh, h, rfl, _⟩ := h
  have hN := Lib.hid (snone_at h)
  have hca := h.ca
  obtain ⟨⟨mb, D, k1, rfl⟩, k3, k4⟩ := h.heap
  have hP := Lib.hid (pages_row k1.sl (runs_rise k3))
  have hle : 64 * (runs L).length ≤ 262144 := by have h1 := k1.sl.room; have h2 := k1.sl.quota; rw [k1.sl.count] at h1; omega
  have hlen4 : (runs L).length ≤ 4096 := by omega
  generalize (runs L).length = n at *
  clear h k1 k3 k4
  go_enter Tryz.func123, Tryz.ntmps123
  go_wp2_with fail
  refine hN.out.mono ?_
  rintro e w' ⟨rfl, rfl⟩
  go_wp2_with fail
  refine hP.out.mono ?_
  rintro e w1 ⟨v, rfl, hrow, hb⟩
  obtain ⟨A, c, rfl⟩ := ownsRow_form hrow
  have hbH := Lib.hid hb
  clear hrow hb
  go_wp2
  go_ret
  exact ⟨by rw [show ((64 * n : Nat) : Int) = (n : Int) * 64 by push_cast; omega]; rfl, hbH.out⟩
end
end Go.Proofs.YtjpmlneihbckpaaGreatDoor
/- The words of a text, in plain Lean: a word is eight bytes, the first one the highest, zeros behind the end. -/
namespace Go.Proofs.YtjpmlneihbckpaaGreatDoor.Tx
open Go

/-! ### words -/
def byteAt (l : List UInt8) (i : Nat) : Nat := ((l[i]?).getD 0).toNat
theorem byteAt_lt (l : List UInt8) (i : Nat) : byteAt l i < 256 := by unfold byteAt; have := ((l[i]?).getD 0).toNat_lt; omega
theorem byteAt_ge (l : List UInt8) (i : Nat) (h : l.length ≤ i) : byteAt l i = 0 := by unfold byteAt; rw [List.getElem?_eq_none h]; rfl
theorem byteAt_take (l : List UInt8) (p i : Nat) : byteAt (l.take p) i = if i < p then byteAt l i else 0 := by
  unfold byteAt
  rw [List.getElem?_take]
  split <;> rfl

def hor (f : Nat → Nat) : Nat → Nat
  | 0 => 0
  | n + 1 => hor f n * 256 + f n
theorem hor_congr {f g : Nat → Nat} : ∀ (n : Nat), (∀ k, k < n → f k = g k) → hor f n = hor g n
  | 0, _ => rfl
  | n + 1, h => by rw [hor, hor, hor_congr n (fun k hk => h k (by omega)), h n (by omega)]
theorem hor_lt {f : Nat → Nat} (hf : ∀ k, f k < 256) : ∀ n, hor f n < 256 ^ n
  | 0 => by simp [hor]
  | n + 1 => by
    have := hor_lt hf n
    have h2 := hf n
    rw [hor, Nat.pow_succ]
    omega
theorem hor_zeros {f : Nat → Nat} (r : Nat) : ∀ d, (∀ k, r ≤ k → f k = 0) → hor f (r + d) = hor f r * 256 ^ d
  | 0, _ => by simp
  | d + 1, h => by
    rw [← Nat.add_assoc, hor, hor_zeros r d h, h (r + d) (by omega), Nat.pow_succ]
    simp [Nat.mul_assoc]
/-- word number i of a text's bytes -/
def wd (l : List UInt8) (i : Nat) : Nat := hor (fun k => byteAt l (8 * i + k)) 8
theorem wd_lt (l : List UInt8) (i : Nat) : wd l i < 18446744073709551616 := by
  have := hor_lt (f := fun k => byteAt l (8 * i + k)) (fun k => byteAt_lt _ _) 8
  exact this
/-- one byte more: another word is as it was -/
theorem wd_other (l : List UInt8) (p i : Nat) (h : i ≠ p / 8) : wd (l.take (p + 1)) i = wd (l.take p) i := by
  unfold wd
  refine hor_congr 8 fun k hk => ?_
  rw [byteAt_take, byteAt_take]
  have : 8 * i + k ≠ p := by omega
  by_cases h2 : 8 * i + k < p
  · rw [if_pos h2, if_pos (by omega)]
  · rw [if_neg h2, if_neg (by omega)]
theorem wd_head (l : List UInt8) (p : Nat) : wd (l.take p) (p / 8) = hor (fun k => byteAt l (8 * (p / 8) + k)) (p % 8) * 256 ^ (8 - p % 8) := by
  unfold wd
  have h := hor_zeros (f := fun k => byteAt (l.take p) (8 * (p / 8) + k)) (p % 8) (8 - p % 8) (fun k hk => by
    show byteAt (l.take p) (8 * (p / 8) + k) = 0
    rw [byteAt_take, if_neg (by omega)])
  rw [show p % 8 + (8 - p % 8) = 8 by omega] at h
  rw [h]
  congr 1
  refine hor_congr _ fun k hk => ?_
  rw [byteAt_take, if_pos (by omega)]
theorem wd_step (l : List UInt8) (p : Nat) : wd (l.take (p + 1)) (p / 8) = wd (l.take p) (p / 8) ||| byteAt l p * 2 ^ (8 * (7 - p % 8)) := by
  have h2 : (256 : Nat) ^ (7 - p % 8) = 2 ^ (8 * (7 - p % 8)) := by rw [Nat.pow_mul]
  have h3 : (256 : Nat) ^ (8 - p % 8) = 2 ^ (8 * (8 - p % 8)) := by rw [Nat.pow_mul]
  have hb := byteAt_lt l p
  have hlt : byteAt l p * 2 ^ (8 * (7 - p % 8)) < 2 ^ (8 * (8 - p % 8)) := by
    rw [← h2, ← h3, show 8 - p % 8 = (7 - p % 8) + 1 by omega, Nat.pow_succ, Nat.mul_comm]
    exact Nat.mul_lt_mul_of_pos_left hb (Nat.pow_pos (by omega))
  rw [wd_head l p, h3, Nat.mul_comm (hor _ _), ← Nat.two_pow_add_eq_or_of_lt hlt]
  unfold wd
  have h := hor_zeros (f := fun k => byteAt (l.take (p + 1)) (8 * (p / 8) + k)) (p % 8 + 1) (7 - p % 8) (fun k hk => by
    show byteAt (l.take (p + 1)) (8 * (p / 8) + k) = 0
    rw [byteAt_take, if_neg (by omega)])
  rw [show p % 8 + 1 + (7 - p % 8) = 8 by omega] at h
  rw [h, hor, Nat.add_mul, ← h2, ← h3]
  have h4 : byteAt (l.take (p + 1)) (8 * (p / 8) + p % 8) = byteAt l p := by
    rw [byteAt_take, if_pos (by omega), show 8 * (p / 8) + p % 8 = p by omega]
  rw [h4]
  congr 1
  rw [Nat.mul_assoc, show 8 - p % 8 = (7 - p % 8) + 1 by omega, Nat.pow_succ, Nat.mul_comm (256 ^ _) 256, Nat.mul_comm]
  congr 1
  refine hor_congr _ fun k hk => ?_
  rw [byteAt_take, if_pos (by omega)]

/-- how many words -/
def many (n : Nat) : Nat := 1 + (n + 7) / 8
/-- the words of a text -/
def wordAt (l : List UInt8) (j : Nat) : Nat := if j = 0 then l.length else wd l (j - 1)
def wordsL (l : List UInt8) : List Nat := (List.range (many l.length)).map (wordAt l)
theorem wordsL_length (l : List UInt8) : (wordsL l).length = many l.length := by simp [wordsL]
theorem wordsL_get (l : List UInt8) (j : Nat) (h : j < many l.length) : (wordsL l)[j]? = some (wordAt l j) := by simp [wordsL, h]
theorem wordAt_lt (l : List UInt8) (j : Nat) (hl : l.length < 18446744073709551616) : wordAt l j < 18446744073709551616 := by
  unfold wordAt; split
  · exact hl
  · exact wd_lt _ _
/-- the state of the words behind p bytes -/
def partAt (l : List UInt8) (p j : Nat) : Nat := if j = 0 then l.length else wd (l.take p) (j - 1)
theorem partAt_zero (l : List UInt8) (j : Nat) : partAt l 0 j = if j = 0 then l.length else 0 := by
  unfold partAt
  split
  · rfl
  · have h := hor_zeros (f := fun k => byteAt (l.take 0) (8 * (j - 1) + k)) 0 8 (fun k _ => byteAt_ge _ _ (by simp))
    rw [hor, Nat.zero_mul, Nat.zero_add] at h
    exact h
theorem partAt_end (l : List UInt8) (j : Nat) : partAt l l.length j = wordAt l j := by unfold partAt wordAt; rw [List.take_length]
theorem partAt_step (l : List UInt8) (p j : Nat) : partAt l (p + 1) j = if j = 1 + p / 8 then partAt l p (1 + p / 8) ||| byteAt l p * 2 ^ (8 * (7 - p % 8)) else partAt l p j := by
  unfold partAt
  by_cases h : j = 1 + p / 8
  · rw [if_pos h, if_neg (by omega), if_neg (by omega), h, show 1 + p / 8 - 1 = p / 8 by omega]
    exact wd_step l p
  · rw [if_neg h]
    split
    · rfl
    · exact wd_other l p _ (by omega)
theorem partAt_lt (l : List UInt8) (p j : Nat) (hl : l.length < 18446744073709551616) : partAt l p j < 18446744073709551616 := by
  unfold partAt; split
  · exact hl
  · exact wd_lt _ _
end Go.Proofs.YtjpmlneihbckpaaGreatDoor.Tx
/- The walks of text.Many and text.Words: a text of at most 1000 bytes gives its words in a new row; a longer one is refused. -/
set_option linter.unusedVariables false
namespace Go.Proofs.YtjpmlneihbckpaaGreatDoor.Tx
open Go.RowKit
theorem many_nat (k m : Nat) (w : World) (hk : k ≤ 1000) (hm : Hid (m = many k)) :
    Calls Tryz.prog 112 #[.int .i64 k] w fun e w' => e = .returned (.int .i64 m) ∧ w = w' := by
  go_enter Tryz.func112, Tryz.ntmps112
  go_wp2
  go_ret
  exact ⟨by rw [hm.out]; simp [many]; omega, rfl⟩
theorem lay_any (i c g n m : Nat) (v : Int) (B : Nat) (w : World) (hi : i < 1000) (hc : c < 256) (hn : 1 + i / 8 < n) (hn2 : n < 2000)
    (hB : w.cell? ⟨B, 0, none⟩ = some (.slice (some ⟨g, 0, none⟩) n m))
    (hv : w.cell? ⟨g, 1 + i / 8, none⟩ = some (.int .u64 v)) (hf : w.frozen? ⟨g, 1 + i / 8, none⟩ = false) :
    Calls Tryz.prog 113 #[.int .i64 i, .int .u8 c, .pointer (some ⟨B, 0, none⟩)] w fun e w' => e = .returned (.tuple #[]) ∧ ∃ nq, w' = (w.drewN nq).setCell ⟨g, 1 + i / 8, none⟩ (.int .u64 (bits .or .u64 v (IntKind.u64.wrap (c * 2 ^ (8 * (7 - i % 8)))))) := by
  have hq : (1 + (i : Int) / 8) < (n : Int) := by omega
  have h7 : (i : Int) % 8 ≤ 7 := by omega
  have h70 : 0 ≤ (i : Int) % 8 := by omega
  go_enter Tryz.func113, Tryz.ntmps113
  go_wp2
  refine wp_region_quiet_tail 15 (by kernel_rfl) (by kernel_rfl) ?_
  simp only [List.take_succ_cons, List.take_zero, List.drop_succ_cons, List.drop_zero]
  repeat (go_big_quiet_step (fail))
  refine wpQuiet_nil ?_
  rintro _ ⟨nq, rfl⟩
  go_wp2
  go_end0
  exact ⟨rfl, nq, rfl⟩
/-- what one byte does to the row of words -/
theorem lay_row (l : List UInt8) (i g n m B : Nat) (w : World) (hl : l.length ≤ 1000) (hi : i < l.length) (hn : n = many l.length)
    (hB : w.cell? ⟨B, 0, none⟩ = some (.slice (some ⟨g, 0, none⟩) n m)) (hr : w.rowIs g 31 n (fun j => .int .u64 (partAt l i j : Nat))) :
    Calls Tryz.prog 113 #[.int .i64 i, .int .u8 (byteAt l i : Nat), .pointer (some ⟨B, 0, none⟩)] w fun e w' => e = .returned (.tuple #[]) ∧
      w'.rowIs g 31 n (fun j => .int .u64 (partAt l (i + 1) j : Nat)) ∧ w.grownBy w' (some g) := by
  have hq : 1 + i / 8 < n := by rw [hn]; unfold many; omega
  have hp1 := partAt_lt l i (1 + i / 8) (by omega)
  have hp2 : byteAt l i * 2 ^ (8 * (7 - i % 8)) < 18446744073709551616 := by
    have h1 := byteAt_lt l i
    have h2 : 2 ^ (8 * (7 - i % 8)) ≤ 2 ^ 56 := Nat.pow_le_pow_right (by omega) (by omega)
    have h3 : byteAt l i * 2 ^ (8 * (7 - i % 8)) ≤ 255 * 2 ^ 56 := Nat.mul_le_mul (by omega) h2
    have : (255 : Nat) * 2 ^ 56 < 18446744073709551616 := by decide
    omega
  refine (lay_any i (byteAt l i) g n m _ B w (by omega) (byteAt_lt l i) hq (by rw [hn]; unfold many; omega) hB (hr.cell hq) (hr.frozen _)).mono ?_
  rintro e w' ⟨rfl, nq, rfl⟩
  refine ⟨rfl, ?_, ?_⟩
  · have h1 : (w.drewN nq).rowIs g 31 n (fun j => .int .u64 (partAt l i j : Nat)) := hr
    refine (h1.set (1 + i / 8) _).congr fun j hj => ?_
    show (if j = 1 + i / 8 then Value.int .u64 _ else _) = _
    rw [partAt_step]
    by_cases h : j = 1 + i / 8
    · rw [if_pos h, if_pos h]
      have hw : IntKind.u64.wrap ((byteAt l i : Int) * 2 ^ (8 * (7 - i % 8))) = ((byteAt l i * 2 ^ (8 * (7 - i % 8)) : Nat) : Int) := by
        rw [IntWalk.u64_in]
        · push_cast; rfl
        · have : ((byteAt l i : Int) * 2 ^ (8 * (7 - i % 8))) = ((byteAt l i * 2 ^ (8 * (7 - i % 8)) : Nat) : Int) := by push_cast; rfl
          rw [this]; omega
      rw [hw, bits_or_u64_nat _ _ (by omega) (by omega)]
    · rw [if_neg h, if_neg h]
  · exact ⟨rfl, rfl, rfl, by simp [World.setCell], fun k hk hne => Below.heap_setCell _ _ _ _ (fun e => hne (by rw [e]))⟩
theorem hinfo37 : (Tryz.prog.info? 31).map (fun i => (i.zero, i.size, i.bytes)) = some (some (.int .u64 0), 1, 8) := by kernel_rfl
theorem words_start (s : ByteArray) (m cap : Nat) (w : World) (hm : 0 < m) :
    ∀ W0, (((w.alloc (Obj.cells ((madeCells #[Value.int IntKind.u64 0] m).setIfInBounds 0 (Value.int IntKind.u64 ↑s.size)) 31)).alloc
        (Obj.cells #[Value.slice (some { block := w.heap.size, off := 0 }) m m] 155)).alloc
        (Obj.cells (bytesRow s cap) 5 ((bytesRow s cap).size, (bytesRow s cap).size + 1))).drew = W0 →
    W0.rowIs w.heap.size 31 m (fun j => .int .u64 (partAt s.data.toList 0 j : Nat)) ∧
    W0.cell? ⟨w.heap.size + 1, 0, none⟩ = some (.slice (some ⟨w.heap.size, 0, none⟩) m m) ∧
    (∀ j, j < s.size → W0.cell? ⟨w.heap.size + 1 + 1, j, none⟩ = some (.int .u8 (byteAt s.data.toList j : Nat))) ∧
    Below w.heap.size w W0 := by
  rintro W0 rfl
  refine ⟨?_, ?_, ?_, ?_⟩
  · have h := World.rowIs_alloc w ((madeCells #[Value.int IntKind.u64 0] m).setIfInBounds 0 (Value.int IntKind.u64 ↑s.size)) 31 (fun j => .int .u64 (partAt s.data.toList 0 j : Nat)) (fun i hi => by
      have hsz : (madeCells #[Value.int IntKind.u64 0] m).size = m := size_madeCells _ _
      rw [Array.size_setIfInBounds, hsz] at hi
      rw [Array.getElem?_setIfInBounds, partAt_zero]
      by_cases h0 : 0 = i
      · subst h0
        rw [if_pos rfl, if_pos (by rw [hsz]; exact hm)]
        simp
      · rw [if_neg h0, if_neg (by omega)]
        simp [madeCells, hi, Nat.mod_one])
    rw [Array.size_setIfInBounds, size_madeCells] at h
    exact ((h.alloc _).alloc _).drew
  · exact (World.cell?_alloc_lt _ _ _ (by simp)).trans (by
      rw [cell_of_row ((w.alloc (Obj.cells ((madeCells #[Value.int IntKind.u64 0] m).setIfInBounds 0 (Value.int IntKind.u64 ↑s.size)) 31)).alloc (Obj.cells #[Value.slice (some { block := w.heap.size, off := 0 }) m m] 155)) (w.heap.size + 1) 0 #[Value.slice (some { block := w.heap.size, off := 0 }) m m] 155 (0, 0) (by
          have := heap_alloc_new (w.alloc (Obj.cells ((madeCells #[Value.int IntKind.u64 0] m).setIfInBounds 0 (Value.int IntKind.u64 ↑s.size)) 31)) (Obj.cells #[Value.slice (some { block := w.heap.size, off := 0 }) m m] 155)
          rwa [World.size_alloc] at this)]
      rfl)
  · intro j hj
    have hn := heap_alloc_new ((w.alloc (Obj.cells ((madeCells #[Value.int IntKind.u64 0] m).setIfInBounds 0 (Value.int IntKind.u64 ↑s.size)) 31)).alloc (Obj.cells #[Value.slice (some { block := w.heap.size, off := 0 }) m m] 155)) (Obj.cells (bytesRow s cap) 5 ((bytesRow s cap).size, (bytesRow s cap).size + 1))
    rw [World.size_alloc, World.size_alloc] at hn
    have := cell_of_row _ (w.heap.size + 1 + 1) j _ 5 _ hn
    refine (show _ = _ from this).trans ?_
    have hlt : j < s.data.size := hj
    unfold bytesRow byteAt
    rw [Array.getElem?_append_left (by simpa using hlt)]
    rw [Array.getElem?_map, Array.getElem?_toList, Array.getElem?_eq_getElem hlt]
    rfl
  · exact (((((Below.refl _ w).alloc (Nat.le_refl _) _).alloc (by simp) _).alloc (by simp; omega) _)).drew
set_option maxRecDepth 100000 in
theorem words_any (s : ByteArray) (w : World) (hs : s.size ≤ 1000) :
    Calls Tryz.prog 87 #[.string s] w fun e w' => e = .returned (.tuple #[.slice (some ⟨w.heap.size, 0, none⟩) (many s.size) (many s.size), .int .i64 0]) ∧
      w'.rowIs w.heap.size 31 (many s.size) (fun j => .int .u64 (wordAt s.data.toList j : Nat)) ∧ Below w.heap.size w w' := by
  obtain ⟨m, hm0⟩ : ∃ m, m = many s.size := ⟨_, rfl⟩
  rw [← hm0]
  have hmb : m = 1 + (s.size + 7) / 8 := hm0
  have hm2 : m ≤ 200 := by omega
  have hm1 : 0 < m := by omega
  clear hmb
  have hlen : s.data.toList.length = s.size := Array.length_toList
  have hm := Lib.hid hm0
  have hlenH := Lib.hid hlen
  clear hm0 hlen
  have hmk : ∀ W, (Instr.makeSlice 155 (.int .i64 (m : Int)) (.int .i64 (m : Int))).run Tryz.prog W = .ok (.slice (some ⟨W.heap.size, 0, none⟩) m m) (W.alloc (.cells (madeCells #[.int .u64 0] m) 31)) := fun W =>
    run_make_row' (P := Tryz.prog) 155 31 (.int .u64 0) 8 Tryz.underlying155 hinfo37 rfl .i64 .i64 m (by omega) (by omega) W
  have hcv : ∀ W, (convert 9 70 (.string s)).run Tryz.prog W = _ := fun W => run_bytes_of_string (P := Tryz.prog) W 9 70 5 s Tryz.underlying9 Tryz.underlying70 Tryz.underlying5
  have hmc : (madeCells #[Value.int IntKind.u64 0] m)[0]? = some (Value.int IntKind.u64 0) := by simp [madeCells, hm1]
  go_enter Tryz.func87, Tryz.ntmps87
  go_wp2_with (go_at_call 112; refine (many_nat _ m _ hs hm).mono ?_; rintro e w' ⟨rfl, rfl⟩)
  generalize hcap : grownCap _ s.size 0 5 = cap
  generalize hW : World.drew _ = W0
  obtain ⟨hrow, hbox, hby, hbel⟩ := words_start s m cap w hm1 W0 hW
  have hbf := Lib.hid hbel
  have hbyH := Lib.hid hby
  clear hmk hmc hcv hcap hW hbel hby
  go_loopw [24] (fun i wr => ∃ k : Nat, k ≤ s.size ∧ i = .int .i64 k ∧ wr.rowIs w.heap.size 31 m (fun j => .int .u64 (partAt s.data.toList k j : Nat)) ∧ W0.grownBy wr (some w.heap.size)) (fun i _ => s.size - (intOf i).toNat)
  case atStart => exact ⟨0, Nat.zero_le _, rfl, hrow, World.grownBy.refl _ _⟩
  case round =>
    obtain ⟨k, hk, rfl, hr, hg⟩ := hrel
    have hbox' : wr.cell? ⟨w.heap.size + 1, 0, none⟩ = some (.slice (some ⟨w.heap.size, 0, none⟩) m m) := hg.cell hbox (by simp)
    by_cases hlt : k < s.size
    · have hby' : wr.cell? ⟨w.heap.size + 1 + 1, k, none⟩ = some (.int .u8 (byteAt s.data.toList k : Nat)) := hg.cell (hbyH.out k hlt) (by simp; omega)
      have hlay := Lib.hid (lay_row s.data.toList k w.heap.size m m (w.heap.size + 1) wr (by rw [hlenH.out]; exact hs) (by rw [hlenH.out]; exact hlt) (by rw [hlenH.out]; exact hm.out) hbox' hr)
      clear hr hbox hrow
      go_wp2_with (go_at_call 113; refine (hlay.out).mono ?_; rintro e w1 ⟨rfl, hr1, hg1⟩)
      go_roundw
      case rel => exact ⟨k + 1, by omega, by go_num, hr1, hg.trans hg1⟩
      case measure => simp [intOf]; omega
    · obtain rfl : k = s.size := by omega
      have hbb : Below w.heap.size w wr := hbf.out.grown hg (hbf.out.size) (fun k e => by cases e; exact Nat.le_refl _)
      have hrH := Lib.hid hr
      have hgH := Lib.hid hbb
      clear hr hg hbb
      go_wp2
      go_ret2
      exact ⟨rfl, hrH.out.congr fun j _ => by rw [← hlenH.out, partAt_end], hgH.out⟩
theorem words_long (s : ByteArray) (w : World) (hs : 1000 < s.size) (hs2 : s.size ≤ 9223372036854775807) :
    Calls Tryz.prog 87 #[.string s] w fun e w' => e = .returned (.tuple #[.slice none 0 0, .int .i64 4]) ∧ w = w' := by
  go_enter Tryz.func87, Tryz.ntmps87
  go_wp2
  go_ret2
  exact ⟨rfl, rfl⟩
end Go.Proofs.YtjpmlneihbckpaaGreatDoor.Tx
/- The walks of slices.Equal and of the document's Same: both tell whether two rows of words are the same. -/
set_option linter.unusedVariables false
namespace Go.Proofs.YtjpmlneihbckpaaGreatDoor.Tx
open Go.RowKit
theorem ret_bool {a b : Bool} (h : a = b) : Ending.returned (.bool a) = Ending.returned (.bool b) := by rw [h]
theorem ret_int {k : IntKind} {a b : Int} (h : a = b) : Ending.returned (.int k a) = Ending.returned (.int k b) := by rw [h]
/-- a slice's address at which a list of words stands -/
def U64s (w : World) (A : Option Addr) (l : List Nat) : Prop :=
  l = [] ∨ ∃ b o, A = some ⟨b, o, none⟩ ∧ b < w.heap.size ∧ ∀ j, j < l.length → w.cell? ⟨b, o + j, none⟩ = some (.int .u64 (l[j]?.getD 0 : Nat))
theorem U64s.below {w w' : World} {A : Option Addr} {l : List Nat} (h : U64s w A l) (hb : Below w.heap.size w w') : U64s w' A l := by
  rcases h with h | ⟨b, o, rfl, hlt, hc⟩
  · exact .inl h
  · exact .inr ⟨b, o, rfl, Nat.lt_of_lt_of_le hlt hb.size, fun j hj => (hb.cell (p := ⟨b, o + j, none⟩) hlt).trans (hc j hj)⟩
theorem drewN_below (w : World) (k : Nat) : Below w.heap.size w (w.drewN k) := ⟨rfl, rfl, rfl, Nat.le_refl _, fun _ _ => rfl⟩
theorem list_step {l l' : List Nat} {k : Nat} (h : ∀ j, j < k → l[j]?.getD 0 = l'[j]?.getD 0) (hk : l[k]?.getD 0 = l'[k]?.getD 0) : ∀ j, j < k + 1 → l[j]?.getD 0 = l'[j]?.getD 0 := by
  intro j hj
  by_cases e : j = k
  · subst e; exact hk
  · exact h j (by omega)
theorem list_all {l l' : List Nat} (hl : l.length = l'.length) (h : ∀ j, j < l.length → l[j]?.getD 0 = l'[j]?.getD 0) : l = l' := by
  refine List.ext_getElem hl fun j h1 h2 => ?_
  have := h j h1
  simpa [h1, h2] using this
set_option maxRecDepth 100000 in
theorem equal_any (A A' : Option Addr) (c c' : Nat) (l l' : List Nat) (w : World) (hl : l.length ≤ 9223372036854775807) (hl' : l'.length ≤ 9223372036854775807) (h : U64s w A l) (h' : U64s w A' l') :
    Calls Tryz.prog 126 #[.slice A l.length c, .slice A' l'.length c'] w fun e w' => e = .returned (.bool (decide (l = l'))) ∧ ∃ k, w' = w.drewN k := by
  by_cases hlen : l.length = l'.length
  · have hH := Lib.hid h
    have hH' := Lib.hid h'
    obtain ⟨n, hn⟩ : ∃ n, n = l.length := ⟨_, rfl⟩
    have hn' : n = l'.length := hn.trans hlen
    rw [← hn, ← hn']
    rw [← hn] at hl
    have hnH := Lib.hid hn
    have hnH' := Lib.hid hn'
    clear hn hn' hlen h h' hl'
    go_enter Tryz.func126, Tryz.ntmps126
    go_wp2
    go_loopw [13] (fun i wr => ∃ k d : Nat, k ≤ n ∧ i = .int .i64 k ∧ wr = w.drewN d ∧ Hid (∀ j, j < k → l[j]?.getD 0 = l'[j]?.getD 0)) (fun i _ => n - (intOf i).toNat)
    case atStart => exact ⟨0, 0, Nat.zero_le _, rfl, rfl, fun j hj => absurd hj (by omega)⟩
    case round =>
      obtain ⟨k, d, hk, rfl, rfl, hall⟩ := hrel
      by_cases hlt : k < n
      · obtain ⟨b, o, rfl, -, hc⟩ : ∃ b o, A = some ⟨b, o, none⟩ ∧ b < w.heap.size ∧ ∀ j, j < l.length → w.cell? ⟨b, o + j, none⟩ = some (.int .u64 (l[j]?.getD 0 : Nat)) := by
          rcases hH.out with e | e
          · have := hnH.out; rw [e] at this; simp at this; omega
          · exact e
        obtain ⟨b', o', rfl, -, hc'⟩ : ∃ b o, A' = some ⟨b, o, none⟩ ∧ b < w.heap.size ∧ ∀ j, j < l'.length → w.cell? ⟨b, o + j, none⟩ = some (.int .u64 (l'[j]?.getD 0 : Nat)) := by
          rcases hH'.out with e | e
          · have := hnH'.out; rw [e] at this; simp at this; omega
          · exact e
        have h1 := hc k (by rw [← hnH.out]; exact hlt)
        have h2 := hc' k (by rw [← hnH'.out]; exact hlt)
        have hxx : ∃ x, x = l[k]?.getD 0 := ⟨_, rfl⟩
        have hyy : ∃ y, y = l'[k]?.getD 0 := ⟨_, rfl⟩
        obtain ⟨x, hx⟩ := hxx
        obtain ⟨y, hy⟩ := hyy
        rw [← hx] at h1
        rw [← hy] at h2
        have HX := Lib.hid hx
        have HY := Lib.hid hy
        clear hx hy hc hc'
        have hli : (k : Int) < (n : Int) := by omega
        by_cases hxy : x = y
        · have hb : ((x : Int) != (y : Int)) = false := by simp [hxy]
          go_wp2_with fail
          go_quiet (fail)
          go_wp2
          go_roundw
          case rel => exact ⟨k + 1, _, by omega, by go_num, rfl, list_step hall.out (by rw [← HX.out, ← HY.out]; exact hxy)⟩
          case measure => simp [intOf]; omega
        · have hb : ((x : Int) != (y : Int)) = true := by simp; omega
          go_wp2_with fail
          go_quiet (fail)
          go_wp2
          go_ret
          refine ⟨?_, d + nq, by rw [World.drewN_drewN]⟩
          have : ¬ l = l' := fun e => hxy (by rw [HX.out, HY.out, e])
          simp [this]
      · have hkn : k = n := by omega
        have hend : l = l' := list_all (by rw [← hnH.out, ← hnH'.out]) (fun j hj => hall.out j (by rw [hkn, hnH.out]; exact hj))
        have hendH := Lib.hid hend
        clear hend hall
        subst hkn
        go_wp2
        go_ret
        exact ⟨ret_bool (decide_eq_true hendH.out).symm, d, rfl⟩
  · have hne : ¬ l = l' := fun e => hlen (by rw [e])
    have hb : ((l.length : Int) != (l'.length : Int)) = true := by simp; omega
    have hneH := Lib.hid hne
    clear hne h h'
    go_enter Tryz.func126, Tryz.ntmps126
    go_wp2
    go_ret
    exact ⟨ret_bool (decide_eq_false hneH.out).symm, 0, rfl⟩
end Go.Proofs.YtjpmlneihbckpaaGreatDoor.Tx
/- Texts and words, there and back, in plain Lean. -/
namespace Go.Proofs.YtjpmlneihbckpaaGreatDoor.Tx
open Go
def unp (l : List Nat) (i : Nat) : Nat := (l[1 + i / 8]?.getD 0) / 2 ^ (8 * (7 - i % 8)) % 256
def unpL (l : List Nat) (n : Nat) : List UInt8 := (List.range n).map fun i => UInt8.ofNat (unp l i)
theorem unpL_length (l : List Nat) (n : Nat) : (unpL l n).length = n := by simp [unpL]
theorem unp_lt (l : List Nat) (i : Nat) : unp l i < 256 := Nat.mod_lt _ (by omega)
theorem unpL_get (l : List Nat) (n j : Nat) (h : j < n) : (unpL l n)[j]? = some (UInt8.ofNat (unp l j)) := by simp [unpL, h]
theorem unpL_succ (l : List Nat) (n : Nat) : unpL l (n + 1) = unpL l n ++ [UInt8.ofNat (unp l n)] := by simp [unpL, List.range_succ]
theorem byteAt_unpL (l : List Nat) (n j : Nat) : byteAt (unpL l n) j = if j < n then unp l j else 0 := by
  split
  · rename_i h
    unfold byteAt
    rw [unpL_get l n j h]
    have := unp_lt l j
    simp
    omega
  · exact byteAt_ge _ _ (by rw [unpL_length]; omega)
theorem hor_digit {f : Nat → Nat} (hf : ∀ k, f k < 256) : ∀ (n r : Nat), r < n → hor f n / 256 ^ (n - 1 - r) % 256 = f r
  | 0, _, h => absurd h (by omega)
  | n + 1, r, h => by
    have hn := hf n
    by_cases hr : r = n
    · subst hr
      rw [show r + 1 - 1 - r = 0 by omega, Nat.pow_zero, Nat.div_one, hor]
      omega
    · rw [show n + 1 - 1 - r = (n - 1 - r) + 1 by omega, Nat.pow_succ, Nat.mul_comm, ← Nat.div_div_eq_div_mul, hor, show (hor f n * 256 + f n) / 256 = hor f n by omega]
      exact hor_digit hf n r (by omega)
theorem hor_digits : ∀ (n x : Nat), hor (fun k => x / 256 ^ (n - 1 - k) % 256) n = x % 256 ^ n
  | 0, x => by simp [hor, Nat.mod_one]
  | n + 1, x => by
    rw [hor, show n + 1 - 1 - n = 0 by omega, Nat.pow_zero, Nat.div_one]
    have h1 : hor (fun k => x / 256 ^ (n + 1 - 1 - k) % 256) n = hor (fun k => (x / 256) / 256 ^ (n - 1 - k) % 256) n := hor_congr n fun k hk => by
      show x / 256 ^ (n + 1 - 1 - k) % 256 = _
      rw [show n + 1 - 1 - k = (n - 1 - k) + 1 by omega, Nat.pow_succ, Nat.mul_comm, ← Nat.div_div_eq_div_mul]
    rw [h1, hor_digits n (x / 256), Nat.pow_succ, Nat.mul_comm (256 ^ n) 256, Nat.mod_mul]
    omega
theorem pow8 (r : Nat) : (256 : Nat) ^ r = 2 ^ (8 * r) := by rw [Nat.pow_mul]
/-- the bytes of a text's words are the text's -/
theorem unp_words (L : List UInt8) (j : Nat) (h : j < 8 * (many L.length - 1)) : unp (wordsL L) j = byteAt L j := by
  unfold unp
  rw [wordsL_get L (1 + j / 8) (by unfold many at *; omega)]
  show wordAt L (1 + j / 8) / 2 ^ (8 * (7 - j % 8)) % 256 = _
  unfold wordAt wd
  rw [if_neg (by omega), ← pow8, show 1 + j / 8 - 1 = j / 8 by omega]
  have := hor_digit (f := fun k => byteAt L (8 * (j / 8) + k)) (fun k => byteAt_lt _ _) 8 (j % 8) (by omega)
  rw [show 8 - 1 - j % 8 = 7 - j % 8 by omega] at this
  rw [this, show 8 * (j / 8) + j % 8 = j by omega]
theorem ofNat_byteAt (L : List UInt8) (j : Nat) (h : j < L.length) : UInt8.ofNat (byteAt L j) = L[j] := by
  unfold byteAt
  rw [List.getElem?_eq_getElem h]
  simp
theorem unpL_words (L : List UInt8) : unpL (wordsL L) L.length = L := by
  refine List.ext_getElem (unpL_length _ _) fun j h1 h2 => ?_
  have h3 := unpL_get (wordsL L) L.length j h2
  rw [List.getElem?_eq_getElem h1] at h3
  rw [Option.some.inj h3, unp_words L j (by unfold many; omega), ofNat_byteAt L j h2]
/-- a word is made of its bytes -/
theorem hor_unp (l : List Nat) (i : Nat) (h : l[1 + i]?.getD 0 < 18446744073709551616) : hor (fun k => unp l (8 * i + k)) 8 = l[1 + i]?.getD 0 := by
  have h2 := hor_digits 8 (l[1 + i]?.getD 0)
  rw [Nat.mod_eq_of_lt (show _ < 256 ^ 8 from h)] at h2
  rw [← h2]
  refine hor_congr 8 fun k hk => ?_
  show unp l (8 * i + k) = _
  unfold unp
  rw [show 1 + (8 * i + k) / 8 = 1 + i by omega, show (8 * i + k) % 8 = k by omega, ← pow8, show 8 - 1 - k = 7 - k by omega]
def tailZero (l : List Nat) (x t : Nat) : Prop := ∀ j, x ≤ j → j < t → unp l j = 0
theorem tail_iff (l : List Nat) (x t : Nat) (ht : t = 8 * (many x - 1)) (hl : l.length = many x) (h0 : l[0]?.getD 0 = x) (hlt : ∀ j : Nat, l[j]?.getD 0 < 18446744073709551616) :
    tailZero l x t ↔ wordsL (unpL l x) = l := by
  have hlen := unpL_length l x
  constructor
  · intro h
    refine List.ext_getElem (by rw [wordsL_length, hlen, hl]) fun j h1 h2 => ?_
    have h3 := wordsL_get (unpL l x) j (by rw [hlen, ← hl]; exact h2)
    rw [List.getElem?_eq_getElem h1] at h3
    rw [Option.some.inj h3]
    have h4 : l[j] = l[j]?.getD 0 := by rw [List.getElem?_eq_getElem h2]; rfl
    rw [h4]
    unfold wordAt
    by_cases hj : j = 0
    · subst hj; rw [if_pos rfl, hlen, h0]
    · rw [if_neg hj]
      have h5 := hor_unp l (j - 1) (by rw [show 1 + (j - 1) = j by omega]; exact hlt j)
      rw [show 1 + (j - 1) = j by omega] at h5
      rw [← h5]
      unfold wd
      refine hor_congr 8 fun k hk => ?_
      rw [byteAt_unpL]
      split
      · rfl
      · rename_i hx
        exact (h _ (by omega) (by rw [ht, ← hl]; omega)).symm
  · intro h j h1 h2
    rw [← h, unp_words _ _ (by rw [hlen, ← ht]; exact h2), byteAt_unpL, if_neg (by omega)]
end Go.Proofs.YtjpmlneihbckpaaGreatDoor.Tx
/- The walk of text.Of: words are read as the text whose words they are, or refused. -/
set_option linter.unusedVariables false
namespace Go.Proofs.YtjpmlneihbckpaaGreatDoor.Tx
open Go.RowKit
def strOf (l : List Nat) (n : Nat) : ByteArray := ⟨(unpL l n).toArray⟩
theorem strOf_size (l : List Nat) (n : Nat) : (strOf l n).size = n := by simp [strOf, ByteArray.size, unpL_length]
theorem strOf_list (l : List Nat) (n : Nat) : (strOf l n).data.toList = unpL l n := rfl
theorem hinfo5 : (Tryz.prog.info? 5).map (fun i => (i.zero, i.size, i.bytes)) = some (some (.int .u8 0), 1, 1) := by kernel_rfl
theorem of_nil (A : Option Addr) (c : Nat) (w : World) :
    Calls Tryz.prog 100 #[.slice A 0 c] w fun e w' => e = .returned (.tuple #[.string ⟨#[]⟩, .int .i64 8]) ∧ w = w' := by
  go_enter Tryz.func100, Tryz.ntmps100
  go_wp2
  go_ret2
  exact ⟨rfl, rfl⟩
theorem of_big (b o n c x : Nat) (w : World) (hn : 0 < n) (hn2 : n ≤ 9223372036854775807) (hc : w.cell? ⟨b, o, none⟩ = some (.int .u64 (x : Nat))) (hx : 1000 < x) :
    Calls Tryz.prog 100 #[.slice (some ⟨b, o, none⟩) n c] w fun e w' => e = .returned (.tuple #[.string ⟨#[]⟩, .int .i64 8]) ∧ w = w' := by
  have h0 : ((n : Int) == 0) = false := by simp; omega
  have h1 : decide ((1000 : Int) < (x : Int)) = true := by simp; omega
  go_enter Tryz.func100, Tryz.ntmps100
  go_wp2
  go_ret2
  exact ⟨rfl, rfl⟩
theorem of_many (b o n c x m : Nat) (w : World) (hn : 0 < n) (hn2 : n ≤ 9223372036854775807) (hc : w.cell? ⟨b, o, none⟩ = some (.int .u64 (x : Nat))) (hx : x ≤ 1000) (hm : Hid (m = many x)) (hmn : m ≠ n) (hm2 : m ≤ 200) :
    Calls Tryz.prog 100 #[.slice (some ⟨b, o, none⟩) n c] w fun e w' => e = .returned (.tuple #[.string ⟨#[]⟩, .int .i64 8]) ∧ w = w' := by
  have h0 : ((n : Int) == 0) = false := by simp; omega
  have h1 : decide ((1000 : Int) < (x : Int)) = false := by simp; omega
  have h2 : ((m : Int) != (n : Int)) = true := by simp; omega
  clear hmn
  go_enter Tryz.func100, Tryz.ntmps100
  go_wp2_with (go_at_call 112; refine (many_nat x m _ hx hm).mono ?_; rintro e w' ⟨rfl, rfl⟩)
  go_ret2
  exact ⟨rfl, rfl⟩
theorem unp_bound (l : List Nat) (n j : Nat) : ∀ x ∈ (unpL l n).map (fun b : UInt8 => Value.int .u8 (b.toNat : Int)), x.oneCell' = true := by
  intro x hx
  simp at hx
  obtain ⟨_, _, rfl⟩ := hx
  rfl
theorem toNat_unp (l : List Nat) (i : Nat) : ((UInt8.ofNat (unp l i)).toNat : Int) = (unp l i : Nat) := by
  have := unp_lt l i
  simp [UInt8.toNat_ofNat']
  omega
theorem conv_own (l : List Nat) (n : Nat) (v : Value) (w : World) {B : Nat} (h : w.ownsRow B 5 1 v n ((unpL l n).map (fun b : UInt8 => Value.int .u8 (b.toNat : Int)))) :
    (convert 70 9 v).run Tryz.prog w = .ok (.string (strOf l n)) w := by
  rcases h.2 with ⟨rfl, rfl⟩ | ⟨g, cap, cur, rfl, _, _, _⟩
  · exact run_convert_bytes_nil (P := Tryz.prog) w 70 5 Tryz.underlying70 Tryz.underlying5 0 0 9 Tryz.underlying9
  · have hl := unpL_length l n
    have := run_convert_bytes_back (P := Tryz.prog) w 70 9 5 ⟨g, 0, none⟩ cap (unpL l n) Tryz.underlying70 Tryz.underlying5 Tryz.underlying9 (fun j hj => h.cells (g := g) rfl j _ (by simp [hj]))
    rw [hl] at this
    exact this
set_option maxRecDepth 100000 in
theorem of_main (b o c x m : Nat) (l : List Nat) (w : World) (hn2 : l.length ≤ 200) (hb : b < w.heap.size) (hc : ∀ j, j < l.length → w.cell? ⟨b, o + j, none⟩ = some (.int .u64 (l[j]?.getD 0 : Nat)))
    (hlt : ∀ j : Nat, l[j]?.getD 0 < 18446744073709551616) (hx : x ≤ 1000) (hx0 : Hid (x = l[0]?.getD 0)) (hm : Hid (m = many x)) (hmn : Hid (m = l.length)) (hmp : 0 < m) (hm2 : m ≤ 200) :
    Calls Tryz.prog 100 #[.slice (some ⟨b, o, none⟩) m c] w fun e w' => e = .returned (.tuple (if wordsL (unpL l x) = l then #[.string (strOf l x), .int .i64 0] else #[.string ⟨#[]⟩, .int .i64 8])) ∧ Below w.heap.size w w' := by
  have hc0 : w.cell? ⟨b, o, none⟩ = some (.int .u64 (x : Nat)) := by have := hc 0 (by rw [← hmn.out]; exact hmp); rw [← hx0.out] at this; exact this
  have hxm : ∀ k, k < x → 1 + k / 8 < m := fun k hk => by rw [hm.out]; unfold many; omega
  have hcH := Lib.hid hc
  have hltH := Lib.hid hlt
  have hxmH := Lib.hid hxm
  clear hc hlt hxm
  have h0 : ((m : Int) == 0) = false := by simp; omega
  have h1 : decide ((1000 : Int) < (x : Int)) = false := by simp; omega
  have h2 : ((m : Int) != (m : Int)) = false := by simp
  obtain ⟨i0, hi, hz0, hz1, hz2⟩ := info_parts hinfo5
  go_enter Tryz.func100, Tryz.ntmps100
  go_wp2_with (go_at_call 112; refine (many_nat x m _ hx hm).mono ?_; rintro e w' ⟨rfl, rfl⟩)
  go_loopw [4, 32] (fun v i wr => ∃ k : Nat, k ≤ x ∧ i = .int .i64 k ∧ wr.ownsRow w.heap.size 5 1 v k ((unpL l k).map (fun b : UInt8 => Value.int .u8 (b.toNat : Int))) ∧ Below w.heap.size w wr) (fun _ i _ => x - (intOf i).toNat)
  case atStart => exact ⟨0, Nat.zero_le _, rfl, World.ownsRow_nil _ _ _ _, Below.refl _ _⟩
  case round =>
    obtain ⟨k, hk, rfl, hown, hbel⟩ := hrel
    by_cases hlt : k < x
    · have hq : (1 + (k : Int) / 8) < (m : Int) := by have := hxmH.out k hlt; omega
      have h7 : (k : Int) % 8 ≤ 7 := by omega
      have h70 : 0 ≤ (k : Int) % 8 := by omega
      have hcell : wr.cell? ⟨b, o + (1 + k / 8), none⟩ = some (.int .u64 (l[1 + k / 8]?.getD 0 : Nat)) := (hbel.cell (p := ⟨b, o + (1 + k / 8), none⟩) hb).trans (hcH.out _ (by rw [← hmn.out]; exact hxmH.out k hlt))
      have hbsz := hbel.size
      have hbelH := Lib.hid hbel
      clear hbel
      go_wp2_with (at_builtin; go_loud (refine wpList_append_own _ rfl _ _ 70 rfl w.heap.size 5 i0 (.int .u8 0) 1 1 Tryz.underlying70 hi hz0 hz1 hz2 rfl (by decide) _ _ _ rfl (hown.alloc _) ⟨wr.heap.size, 0, none⟩ 1 1 [_] rfl rfl (cell_one_new _ _ _) ?c2 ?c3 ?c4 ?c5 ?_))
      case c2 => intro u hu; simp at hu; subst hu; rfl
      case c3 => unfold maxLen; omega
      case c4 => omega
      case c5 => simp; omega
      intro v' w1 hown1 hgrow1 _
      have hown2 : w1.ownsRow w.heap.size 5 1 v' (k + 1) ((unpL l (k + 1)).map (fun b : UInt8 => Value.int .u8 (b.toNat : Int))) := by
        rw [unpL_succ, List.map_append, List.map_cons, List.map_nil, toNat_unp]
        have e : ((l[1 + k / 8]?.getD 0 : Nat) : Int) / 2 ^ (8 * (7 - k % 8)) % 256 = (unp l k : Nat) := by unfold unp; push_cast; rfl
        rw [e] at hown1
        exact hown1
      have hbel1 : Below w.heap.size w w1 := (hbelH.out.alloc hbsz _).grown hgrow1 (by simp; omega) (fun g e => (hown.lt g e).1)
      have HO := Lib.hid hown2
      have HB := Lib.hid hbel1
      clear hown hown1 hown2 hgrow1 hbel1 hcell
      go_wp2
      go_roundw
      case rel => exact ⟨k + 1, by omega, by go_num, HO.out, HB.out⟩
      case measure => simp [intOf]; omega
    · obtain rfl : k = x := by omega
      have hconv := conv_own l k u4 wr hown
      have hz : (strOf l k).size ≤ 1000 := by rw [strOf_size]; exact hx
      have HB := Lib.hid hbel
      clear hbel hown
      go_wp2_with (go_at_call 87; refine (words_any _ _ hz).mono ?_; rintro e w2 ⟨rfl, hrow2, hbel2⟩)
      have hwl : (wordsL (unpL l k)).length = many k := by rw [wordsL_length, unpL_length]
      have hu1 : U64s w2 (some ⟨wr.heap.size, 0, none⟩) (wordsL (unpL l k)) := .inr ⟨_, _, rfl, hrow2.lt, fun j hj => by
        rw [hwl] at hj
        have := hrow2.cell (i := j) (by rw [strOf_size]; exact hj)
        rw [Nat.zero_add, this, wordsL_get _ _ (by rw [unpL_length]; exact hj), strOf_list]
        rfl⟩
      have hu2 : U64s w2 (some ⟨b, o, none⟩) l := .inr ⟨b, o, rfl, Nat.lt_of_lt_of_le hb (Nat.le_trans HB.out.size hbel2.size), fun j hj =>
        (hbel2.cell (p := ⟨b, o + j, none⟩) (Nat.lt_of_lt_of_le hb HB.out.size)).trans ((HB.out.cell (p := ⟨b, o + j, none⟩) hb).trans (hcH.out j hj))⟩
      have heq := equal_any (some ⟨wr.heap.size, 0, none⟩) (some ⟨b, o, none⟩) (many k) c (wordsL (unpL l k)) l w2 (by rw [hwl, ← hm.out]; omega) (by omega) hu1 hu2
      have hmk := hm.out
      rw [hwl, ← hmn.out] at heq
      rw [strOf_size]
      have HQ := Lib.hid heq
      have HB2 := Lib.hid (HB.out.trans (hbel2.mono HB.out.size))
      clear heq hu1 hu2 hrow2 hbel2 hwl hmk
      by_cases hfin : wordsL (unpL l k) = l
      · refine (HQ.out).mono ?_
        rintro e w3 ⟨rfl, d, rfl⟩
        rw [decide_eq_true hfin]
        have HF := Lib.hid hfin
        clear hfin
        go_wp2
        go_ret2
        exact ⟨by first | rfl | (rw [if_pos HF.out]; rfl), HB2.out.trans (drewN_below _ _ |>.mono (Nat.le_trans HB2.out.size (Nat.le_refl _)))⟩
      · refine (HQ.out).mono ?_
        rintro e w3 ⟨rfl, d, rfl⟩
        rw [decide_eq_false hfin]
        have HF := Lib.hid hfin
        clear hfin
        go_wp2
        go_ret2
        exact ⟨by first | rfl | (rw [if_neg HF.out]; rfl), HB2.out.trans (drewN_below _ _ |>.mono (Nat.le_trans HB2.out.size (Nat.le_refl _)))⟩
end Go.Proofs.YtjpmlneihbckpaaGreatDoor.Tx
/- The contracts of the text package and of the document's answers, each in one sentence; Compare; awake. -/
set_option linter.unusedVariables false
namespace Go.Proofs.YtjpmlneihbckpaaGreatDoor.Tx
open Go.RowKit
/-- what words are read as -/
def isText (l : List Nat) : Prop := l ≠ [] ∧ l[0]?.getD 0 ≤ 1000 ∧ many (l[0]?.getD 0) = l.length ∧ wordsL (unpL l (l[0]?.getD 0)) = l
instance (l : List Nat) : Decidable (isText l) := by unfold isText; infer_instance
def textOf (l : List Nat) : ByteArray := strOf l (l[0]?.getD 0)
def ofR (l : List Nat) : Value := .tuple (if isText l then #[.string (textOf l), .int .i64 0] else #[.string ⟨#[]⟩, .int .i64 8])
theorem ofR_no {l : List Nat} (h : ¬ isText l) : ofR l = .tuple #[.string ⟨#[]⟩, .int .i64 8] := by unfold ofR; rw [if_neg h]
theorem ofR_yes {l : List Nat} (h : isText l) : ofR l = .tuple #[.string (textOf l), .int .i64 0] := by unfold ofR; rw [if_pos h]
def OfPost (w : World) (l : List Nat) (e : Ending) (w' : World) : Prop := e = .returned (ofR l) ∧ Below w.heap.size w w'
theorem of_any (A : Option Addr) (c n : Nat) (l : List Nat) (w : World) (hn : n = l.length) (hl : l.length ≤ 200) (h : U64s w A l) (hlt : ∀ j : Nat, l[j]?.getD 0 < 18446744073709551616) :
    Calls Tryz.prog 100 #[.slice A n c] w (OfPost w l) := by
  subst hn
  by_cases h0 : l = []
  · subst h0
    have hno : ¬ isText [] := fun e => e.1 rfl
    exact (of_nil A c w).mono fun e w' ⟨he, hw⟩ => ⟨by rw [ofR_no hno]; exact he, hw ▸ Below.refl _ _⟩
  · obtain ⟨b, o, rfl, hb, hc⟩ := h.resolve_left h0
    have hpos : 0 < l.length := List.length_pos_iff.2 h0
    obtain ⟨x, hx⟩ : ∃ x, x = l[0]?.getD 0 := ⟨_, rfl⟩
    have hc0 : w.cell? ⟨b, o, none⟩ = some (.int .u64 (x : Nat)) := by rw [hx]; exact hc 0 hpos
    by_cases h1 : x ≤ 1000
    · by_cases h2 : many x = l.length
      · have hfin : ∀ e : Ending, e = .returned (.tuple (if wordsL (unpL l x) = l then #[.string (strOf l x), .int .i64 0] else #[.string ⟨#[]⟩, .int .i64 8])) → e = .returned (ofR l) := by
          rintro e rfl
          by_cases h3 : wordsL (unpL l x) = l
          · rw [if_pos h3, ofR_yes ⟨h0, by rw [← hx]; exact h1, by rw [← hx]; exact h2, by rw [← hx]; exact h3⟩]
            unfold textOf
            rw [hx]
          · rw [if_neg h3, ofR_no (fun e => h3 (by have := e.2.2.2; rw [← hx] at this; exact this))]
        have k1 := of_main b o c x l.length l w hl hb hc hlt h1 hx h2.symm rfl hpos hl
        exact k1.mono fun e w' ⟨he, hw⟩ => ⟨hfin e he, hw⟩
      · have hno : ¬ isText l := fun e => h2 (by rw [hx]; exact e.2.2.1)
        have k1 := of_many b o l.length c x (many x) w hpos (by omega) hc0 h1 rfl h2 (by unfold many; omega)
        exact k1.mono fun e w' ⟨he, hw⟩ => ⟨by rw [ofR_no hno]; exact he, hw ▸ Below.refl _ _⟩
    · have hno : ¬ isText l := fun e => h1 (by rw [hx]; exact e.2.1)
      have k1 := of_big b o l.length c x w hpos (by omega) hc0 (by omega)
      exact k1.mono fun e w' ⟨he, hw⟩ => ⟨by rw [ofR_no hno]; exact he, hw ▸ Below.refl _ _⟩
/-- what Words answers: the words in memory that the call made, or an error -/
def WordsPost (w : World) (s : ByteArray) (e : Ending) (w' : World) : Prop :=
  Below w.heap.size w w' ∧ ((s.size ≤ 1000 ∧ ∃ A c, e = .returned (.tuple #[.slice A (wordsL s.data.toList).length c, .int .i64 0]) ∧ U64s w' A (wordsL s.data.toList)) ∨ (1000 < s.size ∧ e = .returned (.tuple #[.slice none 0 0, .int .i64 4])))
theorem size_list (s : ByteArray) : s.data.toList.length = s.size := Array.length_toList
theorem words_all (s : ByteArray) (w : World) (hs : s.size ≤ 9223372036854775807) :
    Calls Tryz.prog 87 #[.string s] w (WordsPost w s) := by
  have hlen := size_list s
  by_cases h : s.size ≤ 1000
  · have hwl : (wordsL s.data.toList).length = many s.size := by rw [wordsL_length, hlen]
    refine (words_any s w h).mono fun e w' ⟨he, hr, hb⟩ => ⟨hb, .inl ⟨h, some ⟨w.heap.size, 0, none⟩, many s.size, by rw [hwl]; exact he, .inr ⟨_, _, rfl, hr.lt, fun j hj => ?_⟩⟩⟩
    rw [hwl] at hj
    rw [Nat.zero_add, hr.cell hj, wordsL_get _ _ (by rw [hlen]; exact hj)]
    rfl
  · exact (words_long s w (by omega) hs).mono fun e w' ⟨he, hw⟩ => ⟨hw ▸ Below.refl _ _, .inr ⟨by omega, he⟩⟩
theorem wordsL_lt (s : ByteArray) (h : s.size ≤ 1000) (j : Nat) : (wordsL s.data.toList)[j]?.getD 0 < 18446744073709551616 := by
  by_cases hj : j < many s.data.toList.length
  · rw [wordsL_get _ _ hj]
    exact wordAt_lt _ _ (by rw [size_list]; omega)
  · rw [List.getElem?_eq_none (by rw [wordsL_length]; omega)]
    simp
end Go.Proofs.YtjpmlneihbckpaaGreatDoor.Tx
/- The walks of text.Compare and of the document's Compare: both tell how the bytes stand. -/
set_option linter.unusedVariables false
namespace Go.Proofs.YtjpmlneihbckpaaGreatDoor.Tx
open Go.RowKit
theorem index_str (s : ByteArray) (q : Nat) (h : q < s.size) (W : World) : (Instr.index 9 (.string s) (.int .i64 (q : Int))).run Tryz.prog W = .ok (.int .u8 (byteAt s.data.toList q : Nat)) W := by
  rw [run_index_string W 9 s .i64 q Tryz.underlying9]
  have e : s.data[q]? = some (s[q]'h) := Array.getElem?_eq_getElem h
  unfold byteAt
  rw [Array.getElem?_toList, e]
  simp [h]
theorem cmp_ext (a b : ByteArray) (w : World) : (callFunc 154 #[.string a, .string b]).run Tryz.prog w = .ok (.value (.int .i64 (Lib.compareBytes a.data.toList b.data.toList))) w := by
  rw [run_callFunc_extern Tryz.func154 (by kernel_rfl) (by kernel_rfl) (by kernel_rfl) (e := Extern.BytealgCompare.compare) (by kernel_rfl), Lib.run_compareString]
  rfl
theorem cmp_any (a b : ByteArray) (w : World) :
    Calls Tryz.prog 82 #[.string a, .string b] w fun e w' => e = .returned (.int .i64 (Lib.compareBytes a.data.toList b.data.toList)) ∧ w = w' := by
  have hx := cmp_ext a b
  go_enter Tryz.func82, Tryz.ntmps82
  go_wp2
  go_ret
  exact ⟨rfl, rfl⟩
theorem cmp_lt (a b : List UInt8) (i : Nat) (ha : i < a.length) (hb : i < b.length) (h : byteAt a i < byteAt b i) : Lib.compareBytes (a.drop i) (b.drop i) = -1 := by
  rw [List.drop_eq_getElem_cons ha, List.drop_eq_getElem_cons hb, Lib.compareBytes]
  have : a[i] < b[i] := by
    unfold byteAt at h
    rw [List.getElem?_eq_getElem ha, List.getElem?_eq_getElem hb] at h
    exact h
  rw [if_pos this]
theorem cmp_gt (a b : List UInt8) (i : Nat) (ha : i < a.length) (hb : i < b.length) (h : byteAt b i < byteAt a i) : Lib.compareBytes (a.drop i) (b.drop i) = 1 := by
  rw [List.drop_eq_getElem_cons ha, List.drop_eq_getElem_cons hb, Lib.compareBytes]
  have h2 : b[i].toNat < a[i].toNat := by
    unfold byteAt at h
    rw [List.getElem?_eq_getElem ha, List.getElem?_eq_getElem hb] at h
    exact h
  rw [if_neg (fun e : a[i] < b[i] => by have : a[i].toNat < b[i].toNat := e; omega), if_pos (show b[i] < a[i] from h2)]
theorem cmp_eq (a b : List UInt8) (i : Nat) (ha : i < a.length) (hb : i < b.length) (h : byteAt a i = byteAt b i) : Lib.compareBytes (a.drop i) (b.drop i) = Lib.compareBytes (a.drop (i + 1)) (b.drop (i + 1)) := by
  rw [List.drop_eq_getElem_cons ha, List.drop_eq_getElem_cons hb, Lib.compareBytes]
  have h2 : a[i].toNat = b[i].toNat := by
    unfold byteAt at h
    rw [List.getElem?_eq_getElem ha, List.getElem?_eq_getElem hb] at h
    exact h
  rw [if_neg (fun e : a[i] < b[i] => by have : a[i].toNat < b[i].toNat := e; omega), if_neg (fun e : b[i] < a[i] => by have : b[i].toNat < a[i].toNat := e; omega)]
theorem cmp_end (a b : List UInt8) (i : Nat) (ha : i ≤ a.length) (hb : i ≤ b.length) (h : i = a.length ∨ i = b.length) :
    Lib.compareBytes (a.drop i) (b.drop i) = if a.length < b.length then -1 else if b.length < a.length then 1 else 0 := by
  rcases h with h | h
  · subst h
    rw [List.drop_length]
    by_cases h2 : a.length < b.length
    · rw [List.drop_eq_getElem_cons h2, if_pos h2]; rfl
    · have : b.length = a.length := by omega
      rw [← this, List.drop_length, if_neg (by omega), if_neg (by omega)]; rfl
  · subst h
    rw [List.drop_length]
    by_cases h2 : b.length < a.length
    · rw [List.drop_eq_getElem_cons h2, if_neg (by omega), if_pos h2]; rfl
    · have : b.length = a.length := by omega
      rw [this, List.drop_length, if_neg (by omega), if_neg (by omega)]; rfl
set_option maxRecDepth 100000 in
theorem refCmp_any (a b : ByteArray) (w : World) (ha : a.size ≤ 9223372036854775807) (hb : b.size ≤ 9223372036854775807) :
    Calls Tryz.prog 77 #[.string a, .string b] w fun e w' => e = .returned (.int .i64 (Lib.compareBytes a.data.toList b.data.toList)) ∧ ∃ d, w' = w.drewN d := by
  have hla := Lib.hid (size_list a)
  have hlb := Lib.hid (size_list b)
  have hlenA : ∀ W, (Builtin.len_ #[9] 3 #[.string a]).run Tryz.prog W = .ok (.int .i64 (a.size : Nat)) W := fun W => by
    rw [run_len_string W 9 3 a Tryz.underlying9]; rfl
  obtain ⟨C, hC⟩ : ∃ C, C = Lib.compareBytes a.data.toList b.data.toList := ⟨_, rfl⟩
  rw [← hC]
  have hC0 := Lib.hid hC
  clear hC
  go_enter Tryz.func77, Tryz.ntmps77
  go_wp2
  go_loopw [5] (fun i wr => ∃ k d : Nat, k ≤ a.size ∧ k ≤ b.size ∧ i = .int .i64 k ∧ wr = w.drewN d ∧ Hid (C = Lib.compareBytes (a.data.toList.drop k) (b.data.toList.drop k))) (fun i _ => a.size - (intOf i).toNat)
  case atStart => exact ⟨0, 0, Nat.zero_le _, Nat.zero_le _, rfl, rfl, hC0⟩
  case round =>
    obtain ⟨k, d, hka, hkb, rfl, rfl, hc⟩ := hrel
    by_cases h1 : k < a.size
    · by_cases h2 : k < b.size
      · obtain ⟨x, hx⟩ : ∃ x, x = byteAt a.data.toList k := ⟨_, rfl⟩
        obtain ⟨y, hy⟩ : ∃ y, y = byteAt b.data.toList k := ⟨_, rfl⟩
        have hix : ∀ W, (Instr.index 9 (.string a) (.int .i64 (k : Int))).run Tryz.prog W = .ok (.int .u8 (x : Nat)) W := fun W => by rw [hx]; exact index_str a k h1 W
        have hiy : ∀ W, (Instr.index 9 (.string b) (.int .i64 (k : Int))).run Tryz.prog W = .ok (.int .u8 (y : Nat)) W := fun W => by rw [hy]; exact index_str b k h2 W
        have ha' : k < a.data.toList.length := by rw [hla.out]; exact h1
        have hb' : k < b.data.toList.length := by rw [hlb.out]; exact h2
        have kL := fun h => cmp_lt a.data.toList b.data.toList k ha' hb' h
        have kG := fun h => cmp_gt a.data.toList b.data.toList k ha' hb' h
        have kE := fun h => cmp_eq a.data.toList b.data.toList k ha' hb' h
        rw [← hx, ← hy] at kL kG kE
        rw [← hc.out] at kL kG kE
        have kL := Lib.hid kL
        have kG := Lib.hid kG
        have kE := Lib.hid kE
        clear hx hy ha' hb'
        rcases Nat.lt_trichotomy x y with hxy | hxy | hxy
        · have e1 : decide (x < y) = true := by simp; omega
          go_wp2_with fail
          go_quiet (fail)
          go_wp2
          go_ret
          exact ⟨ret_int (kL.out hxy).symm, _, by first | rfl | exact World.drewN_drewN ..⟩
        · have e1 : decide (x < y) = false := by simp; omega
          have e2 : decide (y < x) = false := by simp; omega
          have kE2 := Lib.hid (kE.out hxy)
          clear hxy
          go_wp2_with fail
          go_quiet (fail)
          go_wp2_with fail
          go_quiet (fail)
          go_wp2
          go_roundw
          case rel => exact ⟨k + 1, _, by omega, by omega, by go_num, by first | rfl | exact World.drewN_drewN .. | exact (World.drewN_drewN ..).trans (World.drewN_drewN ..), kE2⟩
          case measure => simp [intOf]; omega
        · have e1 : decide (x < y) = false := by simp; omega
          have e2 : decide (y < x) = true := by simp; omega
          go_wp2_with fail
          go_quiet (fail)
          go_wp2_with fail
          go_quiet (fail)
          go_wp2
          go_ret
          exact ⟨ret_int (kG.out hxy).symm, _, by first | rfl | exact World.drewN_drewN .. | exact (World.drewN_drewN ..).trans (World.drewN_drewN ..)⟩
      · have hk : k = b.size := by omega
        have ke := cmp_end a.data.toList b.data.toList k (by rw [hla.out]; omega) (by rw [hlb.out]; omega) (.inr (by rw [hlb.out]; exact hk))
        rw [hla.out, hlb.out, ← hc.out] at ke
        have hkl : b.size < a.size := by omega
        rw [if_neg (by omega), if_pos hkl] at ke
        have kH := Lib.hid ke
        have hge : (b.size : Int) ≤ (k : Int) := by omega
        clear ke hk hc hC0
        go_wp2
        go_ret
        exact ⟨ret_int kH.out.symm, _, rfl⟩
    · have hk : k = a.size := by omega
      have ke := cmp_end a.data.toList b.data.toList k (by rw [hla.out]; omega) (by rw [hlb.out]; omega) (.inl (by rw [hla.out]; exact hk))
      rw [hla.out, hlb.out, ← hc.out] at ke
      have hge : (a.size : Int) ≤ (k : Int) := by omega
      have hle : a.size ≤ b.size := by omega
      by_cases hl : a.size < b.size
      · rw [if_pos hl] at ke
        have kH := Lib.hid ke
        clear ke hk hc hC0
        go_wp2
        go_ret
        exact ⟨ret_int kH.out.symm, _, rfl⟩
      · rw [if_neg hl, if_neg (by omega)] at ke
        have kH := Lib.hid ke
        clear ke hk hc hC0
        go_wp2
        go_ret
        exact ⟨ret_int kH.out.symm, _, rfl⟩
end Go.Proofs.YtjpmlneihbckpaaGreatDoor.Tx
/- Plain laws on texts and their words. -/
set_option linter.unusedVariables false
namespace Go.Proofs.YtjpmlneihbckpaaGreatDoor.Tx
open Go.RowKit
theorem text_words (s : ByteArray) (hs : s.size ≤ 1000) : isText (wordsL s.data.toList) ∧ textOf (wordsL s.data.toList) = s := by
  have hlen := size_list s
  have h0 : (wordsL s.data.toList)[0]?.getD 0 = s.size := by
    rw [wordsL_get _ _ (by unfold many; omega)]
    simp [wordAt]
  have hu := unpL_words s.data.toList
  rw [hlen] at hu
  refine ⟨⟨fun e => ?_, by rw [h0]; exact hs, by rw [h0, wordsL_length, hlen], by rw [h0, hu]⟩, ?_⟩
  · have := wordsL_length s.data.toList
    rw [e, hlen] at this
    unfold many at this
    simp at this
    omega
  · unfold textOf strOf
    rw [h0, hu]
theorem u8_lt_iff (a b : UInt8) : a < b ↔ a.toNat < b.toNat := Iff.rfl
theorem u8_eq {a b : UInt8} (h1 : ¬ a < b) (h2 : ¬ b < a) : a = b := by
  rw [u8_lt_iff] at h1 h2
  exact UInt8.toNat_inj.1 (by omega)
theorem cb_range : ∀ (a b : List UInt8), Lib.compareBytes a b = -1 ∨ Lib.compareBytes a b = 0 ∨ Lib.compareBytes a b = 1
  | [], [] => .inr (.inl rfl)
  | [], _ :: _ => .inl rfl
  | _ :: _, [] => .inr (.inr rfl)
  | a :: xs, b :: ys => by
    rw [Lib.compareBytes]
    split
    · exact .inl rfl
    · split
      · exact .inr (.inr rfl)
      · exact cb_range xs ys
theorem cb_zero : ∀ (a b : List UInt8), Lib.compareBytes a b = 0 ↔ a = b
  | [], [] => by simp [Lib.compareBytes]
  | [], _ :: _ => by simp [Lib.compareBytes]
  | _ :: _, [] => by simp [Lib.compareBytes]
  | a :: xs, b :: ys => by
    rw [Lib.compareBytes]
    by_cases h1 : a < b
    · rw [if_pos h1]
      constructor
      · intro h; omega
      · intro h
        injection h with h2 _
        subst h2
        exact absurd h1 (UInt8.lt_irrefl a)
    · rw [if_neg h1]
      by_cases h2 : b < a
      · rw [if_pos h2]
        constructor
        · intro h; omega
        · intro h
          injection h with h3 _
          subst h3
          exact absurd h2 (UInt8.lt_irrefl a)
      · rw [if_neg h2, cb_zero xs ys, u8_eq h1 h2]
        simp
theorem cb_swap : ∀ (a b : List UInt8), Lib.compareBytes b a = -Lib.compareBytes a b
  | [], [] => by simp [Lib.compareBytes]
  | [], _ :: _ => by simp [Lib.compareBytes]
  | _ :: _, [] => by simp [Lib.compareBytes]
  | a :: xs, b :: ys => by
    rw [Lib.compareBytes, Lib.compareBytes]
    by_cases h1 : a < b
    · have h2 : ¬ b < a := by rw [u8_lt_iff] at *; omega
      rw [if_neg h2, if_pos h1, if_pos h1]
      rfl
    · by_cases h2 : b < a
      · rw [if_pos h2, if_neg h1, if_pos h2]
      · rw [if_neg h2, if_neg h1, if_neg h1, if_neg h2]
        exact cb_swap xs ys
theorem cb_append : ∀ (a c : List UInt8), Lib.compareBytes a (a ++ c) ≤ 0
  | [], [] => by simp [Lib.compareBytes]
  | [], _ :: _ => by simp [Lib.compareBytes]
  | a :: xs, c => by
    rw [List.cons_append, Lib.compareBytes, if_neg (UInt8.lt_irrefl a), if_neg (UInt8.lt_irrefl a)]
    exact cb_append xs c
/-- a ≤ b and b ≤ c: a ≤ c; and a < c where one of the two is less -/
theorem cb_trans : ∀ (a b c : List UInt8), Lib.compareBytes a b ≤ 0 → Lib.compareBytes b c ≤ 0 → Lib.compareBytes a c ≤ 0 ∧ (Lib.compareBytes a b < 0 ∨ Lib.compareBytes b c < 0 → Lib.compareBytes a c < 0)
  | [], [], c => by
    intro _ h
    exact ⟨h, fun h2 => h2.resolve_left (by simp [Lib.compareBytes])⟩
  | [], b :: ys, [] => by intro _ h; simp [Lib.compareBytes] at h
  | [], b :: ys, c :: zs => by intro _ _; simp [Lib.compareBytes]
  | a :: xs, [], c => by intro h; simp [Lib.compareBytes] at h
  | a :: xs, b :: ys, [] => by intro _ h; simp [Lib.compareBytes] at h
  | a :: xs, b :: ys, c :: zs => by
    intro h1 h2
    rw [Lib.compareBytes] at h1 h2 ⊢
    rw [Lib.compareBytes, Lib.compareBytes]
    simp only [u8_lt_iff] at *
    by_cases ab : a.toNat < b.toNat
    · have : a.toNat < c.toNat := by
        by_cases bc : b.toNat < c.toNat
        · omega
        · rw [if_neg bc] at h2
          by_cases cb : c.toNat < b.toNat
          · rw [if_pos cb] at h2; omega
          · omega
      rw [if_pos this]
      exact ⟨by omega, fun _ => by omega⟩
    · rw [if_neg ab] at h1
      by_cases ba : b.toNat < a.toNat
      · rw [if_pos ba] at h1; omega
      · rw [if_neg ba] at h1
        by_cases bc : b.toNat < c.toNat
        · rw [if_pos (by omega : a.toNat < c.toNat)]
          exact ⟨by omega, fun _ => by omega⟩
        · rw [if_neg bc] at h2
          by_cases cb : c.toNat < b.toNat
          · rw [if_pos cb] at h2; omega
          · rw [if_neg cb] at h2
            rw [if_neg (by omega : ¬ a.toNat < c.toNat), if_neg (by omega : ¬ c.toNat < a.toNat), if_neg ab, if_neg ba, if_neg bc, if_neg cb]
            exact cb_trans xs ys zs h1 h2
def cmp (a b : ByteArray) : Int := Lib.compareBytes a.data.toList b.data.toList
theorem cmp_call (a b : ByteArray) (w : World) : Calls Tryz.prog 82 #[.string a, .string b] w fun e w' => e = .returned (.int .i64 (cmp a b)) ∧ w = w' := cmp_any a b w
theorem toList_eq (a : ByteArray) : a.toList = a.data.toList := ByteArray.toList_eq a
theorem cmp_beq (a b : ByteArray) : (a.toList == b.toList) = (cmp a b == 0) := by
  rw [toList_eq, toList_eq, Bool.eq_iff_iff, beq_iff_eq, beq_iff_eq]
  exact (cb_zero _ _).symm
theorem text_of {l : List Nat} (h : isText l) : wordsL (textOf l).data.toList = l ∧ (textOf l).size ≤ 1000 := by
  obtain ⟨_, h1, _, h3⟩ := h
  have hsz : (textOf l).size = l[0]?.getD 0 := strOf_size _ _
  exact ⟨h3, by omega⟩
end Go.Proofs.YtjpmlneihbckpaaGreatDoor.Tx
/- The words of a record, as an iterator; slices.Collect of them; blob.Get, Drop. -/
set_option linter.unusedVariables false
set_option linter.unusedSimpArgs false
namespace Go.Proofs.YtjpmlneihbckpaaGreatDoor
open Go.RowKit Go.Shelf
attribute [local go_sem] Oper.semAt_some wide_fn
section
variable {w w' : World} {s N : Nat} {R : Nat → Option (List Nat)} {n : Nat}
theorem lenR_some {x : Nat} {ws : List Nat} (hR : R x = some ws) : lenR R x = .tuple #[.int .i64 (ws.length : Nat), .int .i64 0] := by unfold lenR; rw [hR]
theorem lenR_none {x : Nat} (hR : R x = none) : lenR R x = .tuple #[.int .i64 0, .int .i64 7] := by unfold lenR; rw [hR]
set_option maxRecDepth 100000 in
theorem words_calls (s x : Nat) (w : World) : Calls Tryz.prog 102 #[.pointer (some ⟨s, 0, none⟩), .int .u64 (x : Nat)] w fun e w' => e = .returned (.func (.func 128) #[] #[.pointer (some ⟨w.heap.size, 0, none⟩), .pointer (some ⟨w.heap.size + 1, 0, none⟩)]) ∧ w' = (w.alloc (.cells #[.pointer (some ⟨s, 0, none⟩)] 25)).alloc (.cells #[.int .u64 (x : Nat)] 32) := by
  go_enter Tryz.func102, Tryz.ntmps102
  go_wp2
  go_ret
  exact ⟨rfl, rfl⟩
set_option maxHeartbeats 2000000 in
set_option maxRecDepth 100000 in
theorem words_stops (h : Rd N w s R n) {x B1 B2 : Nat} {ws : List Nat} (hR : R x = some ws) (hB1 : w.cell? ⟨B1, 0, none⟩ = some (.pointer (some ⟨s, 0, none⟩))) (hB2 : w.cell? ⟨B2, 0, none⟩ = some (.int .u64 (x : Nat))) (c1 : B1 < N) (c2 : B2 < N) (cN : N ≤ w.heap.size) :
    SeqStopsK Fence.wide 8 Tryz.prog 128 #[.pointer (some ⟨B1, 0, none⟩), .pointer (some ⟨B2, 0, none⟩)] (fun z : {z : Nat // z < ws.length} => #[.int .u64 (ws[z.1]'z.2 : Nat)]) (KB (fun k => N ≤ k)) (fun xs => xs.map (·.1) = List.range ws.length) (fun pre => ∃ t, List.range ws.length = pre.map (·.1) ++ t) ws.length w := fun l J Jx W hBW hJ hJx hY h0 => by
  have H0 := Lib.hid (h.below hBW)
  have hb1 := (hBW.cell (p := ⟨B1, 0, none⟩) (cell_lt hB1)).trans hB1
  have hb2 := (hBW.cell (p := ⟨B2, 0, none⟩) (cell_lt hB2)).trans hB2
  obtain ⟨hx, hlen, hu⟩ := h.u64 hR
  have hLn := (callsIn_wide (n := 7)).2 (rlen_at H0.out x hx)
  rw [lenR_some hR] at hLn
  have hLnH := Lib.hid hLn
  have hRH := Lib.hid hR
  have huH := Lib.hid hu
  have J0 := Lib.hid h0
  clear hLn hBW hB1 hB2 h h0 hR hu
  refine callsIn_of_wp Tryz.func128 rfl trivial ?_ rfl
  simp only [Tryz.ntmps128, List.size_toArray, List.length_cons, List.length_nil, Nat.reduceAdd, Nat.reduceSub, Array.replicate_succ, Array.replicate_zero, List.push_toArray, List.append_toArray, List.nil_append, List.cons_append]
  gi_wp2_with fail
  refine hLnH.out.mono ?_
  rintro e w1 ⟨rfl, rfl⟩
  gi_wp2_with fail
  gi_loopw [16] (fun iv wr => ∃ (pre : List {z : Nat // z < ws.length}) (i : Nat), i ≤ ws.length ∧ iv = .int .i64 i ∧ Hid (pre.map (·.1) = List.range i) ∧ Hid (Rd N wr s R n) ∧ wr.cell? ⟨B1, 0, none⟩ = some (.pointer (some ⟨s, 0, none⟩)) ∧ wr.cell? ⟨B2, 0, none⟩ = some (.int .u64 (x : Nat)) ∧ Hid (J pre wr)) (fun iv _ => ws.length - (intOf iv).toNat)
  case atStart => exact ⟨[], 0, by omega, rfl, Lib.hid rfl, H0, hb1, hb2, J0⟩
  case round =>
    obtain ⟨pre, i, hi, rfl, hp, Hr, hc1, hc2, hj⟩ := hrel
    by_cases hlt : i < ws.length
    · have hG := Lib.hid ((callsIn_wide (n := 7)).2 (rget_at Hr.out hRH.out hlt))
      have hpl : pre.length = i := by have := congrArg List.length hp.out; simpa using this
      have hYH := Lib.hid hY
      clear hY hb1 hb2
      gi_wp2_with fail
      refine hG.out.mono ?_
      rintro e w2 ⟨rfl, rfl⟩
      gi_wp2_with fail
      obtain ⟨fn, tmps, assign, body, hy, hRr⟩ := hYH.out pre ⟨i, hlt⟩ _ hj.out (by omega)
      have hRH2 := Lib.hid hRr
      clear hRr
      rw [hy]
      gi_wp2
      refine (hRH2.out).mono ?_
      have hmap : Hid ((pre ++ [(⟨i, hlt⟩ : {z : Nat // z < ws.length})]).map (·.1) = List.range (i + 1)) := Lib.hid (by rw [List.map_append, hp.out, List.range_succ]; rfl)
      rintro e W2 (⟨rfl, hJ2, hK2⟩ | ⟨rfl, hJx2⟩)
      · have H4 := Lib.hid (Hr.out.kb hK2 (fun k hk => hk))
        have hd1 := hK2.cell hc1 (by simp; omega)
        have hd2 := hK2.cell hc2 (by simp; omega)
        have hJ4 := Lib.hid hJ2
        clear hJ2 hK2 hc1 hc2
        gi_wp2
        go_roundw
        case rel => exact ⟨pre ++ [⟨i, hlt⟩], i + 1, by omega, by go_num, hmap, H4, hd1, hd2, hJ4⟩
        case measure => simp [intOf]; omega
      · have hJx4 := Lib.hid hJx2
        clear hJx2
        gi_wp2
        refine bodyPost_ret (results_none rfl _ _ _) rfl ?_
        refine ⟨⟨_, rfl⟩, .inr ⟨_, ⟨(List.range ws.length).drop (i + 1), ?_⟩, hJx4.out⟩⟩
        rw [hmap.out]
        have := List.take_append_drop (i + 1) (List.range ws.length)
        rw [List.take_range, Nat.min_eq_left (by omega)] at this
        exact this.symm
    · obtain rfl : i = ws.length := by omega
      clear hY
      gi_wp2
      go_end0
      exact ⟨⟨_, rfl⟩, .inl ⟨_, hp.out, hj.out⟩⟩
end
end Go.Proofs.YtjpmlneihbckpaaGreatDoor
/- slices.AppendSeq and slices.Collect of a record's words. -/
set_option linter.unusedVariables false
set_option linter.unusedSimpArgs false
namespace Go.Proofs.YtjpmlneihbckpaaGreatDoor
open Go.RowKit Go.Shelf
attribute [local go_sem] Oper.semAt_some wide_fn
theorem Tryz.under_words : Tryz.prog.underlying 155 = some (.slice 31) := by kernel_rfl
theorem Tryz.info_word : (Tryz.prog.info? 31).map (fun i => (i.zero, i.size, i.bytes)) = some (some (.int .u64 0), 1, 8) := by kernel_rfl
theorem KB.from_below {B N : Nat} {A C : World} (h : Below B A C) (hB : N ≤ B) : KB (fun k => N ≤ k) A C := ⟨h.size, fun k o hk _ hn => (h.block k (by omega)).trans hk⟩
def wordsV (l : List Nat) : List Value := l.map fun u => .int .u64 (u : Nat)
/-- a row of values in a box -/
def RowI (w : World) (bt et : TypeId) (l : List Value) (W : World) : Prop := ∃ v, Boxed W w.heap.size bt v ∧ W.ownsRow w.heap.size et 1 v l.length l ∧ Below w.heap.size w W
theorem RowI.below {w X Y : World} {bt et : TypeId} {l : List Value} (h : RowI w bt et l X) (hb : Below X.heap.size X Y) : RowI w bt et l Y := by
  obtain ⟨v, h1, h2, h3⟩ := h
  exact ⟨v, (hb.block _ h1.lt).trans h1, ownsRow_kb (Cs := fun _ => False) h2 (KB.below hb) (fun _ h => h.elim), h3.trans (hb.mono h3.size)⟩
theorem rowI_own {β : Type} (w : World) (bt et : TypeId) (f : β → List Value) (n : Nat) (hn : w.heap.size ≤ n) : OwnFrom n (fun s W => RowI w bt et (f s) W) := fun s X Y row hs hg hr => by
  obtain ⟨v, h1, h2, h3⟩ := hs
  obtain ⟨v', a, b, _⟩ := holdsRow_own w.heap.size w.heap.size bt et 1 (fun s => (f s).length) (fun s => f s) (fun _ _ => True) s X Y row ⟨v, h1, h2, trivial⟩ hg (fun r e => (hr r e).2)
  exact ⟨v', a, b, ownFrom_below (β := β) (Nat.le_refl _) hn s X Y row h3 hg hr⟩
/-- what an append leaves -/
theorem row_append {w W w1 : World} {bt et : TypeId} {l l' : List Value} {v v' : Value} {tmp : Obj} (hbe : bt ≠ et) (hv : Boxed W w.heap.size bt v) (hrow : W.ownsRow w.heap.size et 1 v l.length l) (hb : Below w.heap.size w W)
    (hown' : w1.ownsRow w.heap.size et 1 v' l'.length l') (hgrow : (W.alloc tmp).grownBy w1 v.ownBlock) :
    Boxed w1 w.heap.size bt v ∧ RowI w bt et l' (w1.setCell ⟨w.heap.size, 0, none⟩ v') ∧ KeepsOthers W (w1.setCell ⟨w.heap.size, 0, none⟩ v') ∧ Below w.heap.size W (w1.setCell ⟨w.heap.size, 0, none⟩ v') := by
  obtain ⟨a1, a2, a3, a4, a5⟩ := hv.appended hbe hrow hb.size (Nat.le_refl _) hown' hgrow
  exact ⟨a1, ⟨v', a2, a3, hb.trans a5⟩, a4, a5⟩
theorem words_row {ws : List Nat} {xs : List {z : Nat // z < ws.length}} (h : xs.map (·.1) = List.range ws.length) : xs.map (fun (z : {z : Nat // z < ws.length}) => Value.int .u64 (ws[z.1]'z.2 : Nat)) = wordsV ws := by
  have h1 : xs.map (fun (z : {z : Nat // z < ws.length}) => Value.int .u64 (ws[z.1]'z.2 : Nat)) = (xs.map (·.1)).map fun i => Value.int .u64 (ws[i]?.getD 0 : Nat) := by
    rw [List.map_map]
    refine List.map_congr_left fun z _ => ?_
    simp [z.2]
  rw [h1, h]
  refine List.ext_getElem (by simp [wordsV]) fun i h1 h2 => ?_
  simp only [List.length_map, List.length_range] at h1
  simp [wordsV, h1]
section
variable {w w' : World} {s N : Nat} {R : Nat → Option (List Nat)} {n : Nat}
set_option maxHeartbeats 4000000 in
set_option maxRecDepth 100000 in
theorem appendSeq_at (h : Rd N w s R n) {x B1 B2 : Nat} {ws : List Nat} (hR : R x = some ws) (hB1 : w.cell? ⟨B1, 0, none⟩ = some (.pointer (some ⟨s, 0, none⟩))) (hB2 : w.cell? ⟨B2, 0, none⟩ = some (.int .u64 (x : Nat))) (c1 : B1 < N) (c2 : B2 < N) (cN : N ≤ w.heap.size) :
    CallsIn Fence.wide 9 Tryz.prog 127 #[.slice none 0 0, .func (.func 128) #[] #[.pointer (some ⟨B1, 0, none⟩), .pointer (some ⟨B2, 0, none⟩)]] w fun e w' => ∃ v, e = .returned v ∧ w'.ownsRow w.heap.size 31 1 v ws.length (wordsV ws) ∧ Below w.heap.size w w' := by
  obtain ⟨i0, hi, hz0, hz1, hz2⟩ := info_parts Tryz.info_word
  have hlen := (h.u64 hR).2.1
  have HH := Lib.hid h
  have hRH := Lib.hid hR
  clear h hR
  refine callsIn_of_wp_marks Tryz.func127 rfl trivial ?_ rfl
  simp only [Tryz.ntmps127, List.size_toArray, List.length_cons, List.length_nil, Nat.reduceAdd, Nat.reduceSub, Array.replicate_succ, Array.replicate_zero, List.push_toArray, List.append_toArray, List.nil_append, List.cons_append]
  gi_wp2_with fail
  have hbx : Boxed (w.alloc (Obj.cells #[Value.slice none 0 0] 155)) w.heap.size 155 (.slice none 0 0) := Boxed.new w _ _
  have hb2w : Below w.heap.size w (w.alloc (Obj.cells #[Value.slice none 0 0] 155)) := (Below.refl _ w).alloc (Nat.le_refl _) _
  have hx1 := (hb2w.cell (p := ⟨B1, 0, none⟩) (cell_lt hB1)).trans hB1
  have hx2 := (hb2w.cell (p := ⟨B2, 0, none⟩) (cell_lt hB2)).trans hB2
  have HH2 := Lib.hid (HH.out.below hb2w)
  have hz2' : w.heap.size + 1 ≤ (w.alloc (Obj.cells #[Value.slice none 0 0] 155)).heap.size := by simp
  generalize w.alloc (Obj.cells #[Value.slice none 0 0] 155) = w2 at *
  refine wpIn_rangeFunc_ownH (α := {z : Nat // z < ws.length}) rfl (by omega) (gf := 128) (lb := #[.pointer (some ⟨B1, 0, none⟩), .pointer (some ⟨B2, 0, none⟩)]) rfl trivial (enters_of Tryz.func128 (by kernel_rfl) rfl)
    (words_stops HH2.out hRH.out hx1 hx2 c1 c2 (by omega))
    (fun h k => h.trans k) (fun W l o o' _ hl h1 h2 => KB.putObj o' hl h1 h2) (Below.refl _ _) (fun _ => rfl)
    (fun pre W => RowI w 155 31 (pre.map (fun (z : {z : Nat // z < ws.length}) => Value.int .u64 (ws[z.1]'z.2 : Nat))) W)
    (fun cd pre W => False)
    (rowI_own w _ _ (fun pre : List {z : Nat // z < ws.length} => pre.map (fun (z : {z : Nat // z < ws.length}) => Value.int .u64 (ws[z.1]'z.2 : Nat))) _ (by omega))
    (fun _ _ _ _ _ hs _ _ => hs)
    ⟨_, hbx, World.ownsRow_nil _ _ _ _, hb2w⟩
    (fun z a' W => a' = { tmps := #[Value.slice none 0 0, Value.func (Fn.func 128) #[] #[Value.pointer (some { block := B1, off := 0 }), Value.pointer (some { block := B2, off := 0 })], Value.pointer (some { block := w.heap.size, off := 0 }), undef, Value.slice none 0 0, Value.int IntKind.u64 (ws[z.1]'z.2 : Nat), Value.func (Fn.func 128) #[] #[Value.pointer (some { block := B1, off := 0 }), Value.pointer (some { block := B2, off := 0 })], Value.int IntKind.u64 (ws[z.1]'z.2 : Nat), undef, undef, undef, undef, undef], defers := [] })
    (fun _ _ _ _ _ _ hs _ _ => hs)
    ?assign ?body ?done ?stop
  case assign =>
    rintro l pre ⟨z, hz⟩ W K hi hK
    dsimp only at hK ⊢
    gi_wp2
    exact hK _ W (KeepsOthers.refl _ |>.from _) (KB.refl _ _) hi rfl
  case body =>
    rintro l pre ⟨z, hz⟩ a' W hl ⟨r, hr⟩ hi rfl hlen
    dsimp only
    obtain ⟨v, hv, hrow, hb⟩ := hi
    have hnext : Hid ((pre ++ [(⟨z, hz⟩ : {z : Nat // z < ws.length})]).map (fun (z : {z : Nat // z < ws.length}) => Value.int .u64 (ws[z.1]'z.2 : Nat)) = pre.map (fun (z : {z : Nat // z < ws.length}) => Value.int .u64 (ws[z.1]'z.2 : Nat)) ++ [Value.int .u64 (ws[z] : Nat)]) := Lib.hid (by rw [List.map_append]; rfl)
    have hpl : (pre.map (fun (z : {z : Nat // z < ws.length}) => Value.int .u64 (ws[z.1]'z.2 : Nat))).length ≤ 3998 := by rw [List.length_map]; omega
    generalize pre.map (fun (z : {z : Nat // z < ws.length}) => Value.int .u64 (ws[z.1]'z.2 : Nat)) = told at *
    have hc := hv.cell
    have hbH := Lib.hid hb
    have hrowH := Lib.hid hrow
    have hvH := Lib.hid hv
    clear hb hrow hv
    have hz : w.heap.size ≤ W.heap.size := hbH.out.size
    gi_wp2_with (gi_at_builtin; refine wpListIn_append_own_at _ rfl _ _ 155 rfl w.heap.size 31 i0 (.int .u64 0) 1 8 Tryz.under_words hi hz0 hz1 hz2 rfl (by decide) _ _ _ rfl (hrowH.out.alloc _) ⟨W.heap.size, 0, none⟩ 1 1 [.int .u64 (ws[z] : Nat)] rfl rfl (cell_one_new _ _ _) (by simp [Value.oneCell']) (by unfold maxLen; omega) (by omega) (by simp; omega) ?_; intro v' w1 hown' hgrow _ hblk; obtain ⟨g', cap', rfl⟩ := ownsRow_succ hown'; obtain ⟨b1, b2, b4, b5⟩ := row_append (l' := told ++ [Value.int .u64 (ws[z] : Nat)]) (by decide) hvH.out hrowH.out hbH.out (by simpa using hown') hgrow; have hc1 := b1.cell; have hf1 := b1.frozen)
    exact ⟨b4.from _, KB.from_below b5 cN, by show RowI w _ _ _ _; rw [hnext.out]; exact b2⟩
  case done =>
    rintro D' xs W hD hxs hi hK
    have hrw := words_row hxs
    rw [hrw] at hi
    have hwl : (wordsV ws).length = ws.length := by simp [wordsV]
    obtain ⟨v, hv, hrow, hb⟩ := hi
    rw [hwl] at hrow
    have hc := hv.cell
    have hbH := Lib.hid hb
    have hrowH := Lib.hid hrow
    clear hb hrow hv hxs hrw
    gi_wp2
    refine ⟨by simp, .inl ⟨_, _, rfl, run_takeDeferred hK, ?_⟩⟩
    refine ⟨v, by simp [results, Tryz.f127], v, rfl, ownsRow_kb (Cs := fun _ => False) hrowH.out (KB.putObj _ hK rfl rfl) (fun _ h => h.elim), ?_⟩
    exact hbH.out.trans (belowK_b (w := w) (Nat.le_refl _) _ D' _ _ (by omega) hK rfl rfl)
  case stop =>
    rintro D' cd pre W hD hSp hf
    exact hf.elim
set_option maxRecDepth 100000 in
theorem collect_at (h : Rd N w s R n) {x B1 B2 : Nat} {ws : List Nat} (hR : R x = some ws) (hB1 : w.cell? ⟨B1, 0, none⟩ = some (.pointer (some ⟨s, 0, none⟩))) (hB2 : w.cell? ⟨B2, 0, none⟩ = some (.int .u64 (x : Nat))) (c1 : B1 < N) (c2 : B2 < N) (cN : N ≤ w.heap.size) :
    Calls Tryz.prog 101 #[.func (.func 128) #[] #[.pointer (some ⟨B1, 0, none⟩), .pointer (some ⟨B2, 0, none⟩)]] w fun e w' => ∃ A c, e = .returned (.slice A ws.length c) ∧ Tx.U64s w' A ws ∧ Below w.heap.size w w' := by
  have hA := Lib.hid ((callsIn_wide (n := 9)).1 (appendSeq_at h hR hB1 hB2 c1 c2 cN))
  clear h hR hB1 hB2
  go_enter Tryz.func101, Tryz.ntmps101
  go_wp2_with fail
  refine hA.out.mono ?_
  rintro e w1 ⟨v, rfl, hrow, hb⟩
  obtain ⟨A, c, rfl⟩ := ownsRow_form hrow
  have hrowH := Lib.hid hrow
  have hbH := Lib.hid hb
  clear hrow hb
  go_wp2
  go_ret
  refine ⟨A, c, rfl, ?_, hbH.out⟩
  rcases hrowH.out.2 with ⟨h1, h2⟩ | ⟨g, cap, cur, h1, h2, h3, h4⟩
  · exact .inl (List.eq_nil_of_length_eq_zero h2)
  · cases h1
    refine .inr ⟨g, 0, rfl, (Array.getElem?_eq_some_iff.1 h3).1, fun j hj => ?_⟩
    rw [Nat.zero_add]
    have h9 := hrowH.out.cells (g := g) rfl j (.int .u64 (ws[j]?.getD 0 : Nat)) (by simp [wordsV, hj])
    have he : (⟨g, 0, none⟩ : Addr).add j = ⟨g, j, none⟩ := by
      unfold Addr.add
      split
      · next h0 => have : j = 0 := by simpa using h0
                   rw [this]
      · simp
    rw [← he]
    exact h9
end
end Go.Proofs.YtjpmlneihbckpaaGreatDoor
/- blob.Get, Drop. -/
set_option linter.unusedVariables false
set_option linter.unusedSimpArgs false
namespace Go.Proofs.YtjpmlneihbckpaaGreatDoor
open Go.RowKit Go.Shelf
/-- what Get of a blob answers -/
def blobR (R : Nat → Option (List Nat)) (x : Nat) : Option ByteArray :=
  match R x with
  | some ws => if Tx.isText ws then some (Tx.textOf ws) else none
  | none => none
def blobE (R : Nat → Option (List Nat)) (x : Nat) : Nat :=
  match R x with
  | some ws => if Tx.isText ws then 0 else 8
  | none => 7
def blobV (R : Nat → Option (List Nat)) (x : Nat) : Value := .tuple #[.string ((blobR R x).getD ⟨#[]⟩), .int .i64 (blobE R x : Nat)]
/-- records are not long -/
def Short (R : Nat → Option (List Nat)) : Prop := ∀ x ws, R x = some ws → ws.length ≤ 200
theorem blobV_some {R : Nat → Option (List Nat)} {x : Nat} {ws : List Nat} (h : R x = some ws) : blobV R x = Tx.ofR ws := by
  unfold blobV blobR blobE Tx.ofR
  rw [h]
  by_cases ht : Tx.isText ws
  · simp only [if_pos ht]; rfl
  · simp only [if_neg ht]; rfl
theorem blobV_none {R : Nat → Option (List Nat)} {x : Nat} (h : R x = none) : blobV R x = .tuple #[.string ⟨#[]⟩, .int .i64 7] := by
  unfold blobV blobR blobE
  rw [h]
  rfl
section
variable {w w' : World} {s N : Nat} {R : Nat → Option (List Nat)} {n : Nat}
set_option maxRecDepth 100000 in
theorem bget_nil (x : Nat) (w : World) : Calls Tryz.prog 71 #[.pointer none, .int .u64 (x : Nat)] w fun e w' => e = .returned (.tuple #[.string ⟨#[]⟩, .int .i64 1]) ∧ w = w' := by
  go_enter Tryz.func71, Tryz.ntmps71
  go_wp2_with (go_at_call 51; refine (slen_nil _ _).mono ?_; rintro e w' ⟨rfl, rfl⟩)
  go_ret2
  exact ⟨rfl, rfl⟩
set_option maxRecDepth 100000 in
theorem bget_at (h : Rd N w s R n) (hsh : Short R) (x : Nat) (hx : x < 18446744073709551616) :
    Calls Tryz.prog 71 #[.pointer (some ⟨s, 0, none⟩), .int .u64 (x : Nat)] w fun e w' => e = .returned (blobV R x) ∧ Below w.heap.size w w' := by
  have hL := Lib.hid (rlen_at h x hx)
  have hH := Lib.hid h
  cases hR : R x with
  | none =>
    rw [lenR_none hR] at hL
    rw [blobV_none hR]
    clear hR h
    go_enter Tryz.func71, Tryz.ntmps71
    go_wp2_with fail
    refine hL.out.mono ?_
    rintro e w1 ⟨rfl, rfl⟩
    go_wp2
    go_ret2
    exact ⟨rfl, Below.refl _ _⟩
  | some ws =>
    rw [lenR_some hR] at hL
    obtain ⟨_, _, hu⟩ := h.u64 hR
    have hlt : Hid (∀ j : Nat, ws[j]?.getD 0 < 18446744073709551616) := Lib.hid (fun j => by
      by_cases hj : j < ws.length
      · rw [List.getElem?_eq_getElem hj]; exact hu j hj
      · rw [List.getElem?_eq_none (by omega)]; simp)
    have h200 := Lib.hid (hsh x ws hR)
    have hWd := Lib.hid (fun w => words_calls s x w)
    have hRH := Lib.hid hR
    have hs := Lib.hid (blobV_some hR)
    clear hR h hu
    go_enter Tryz.func71, Tryz.ntmps71
    go_wp2_with fail
    refine hL.out.mono ?_
    rintro e w1 ⟨rfl, rfl⟩
    go_wp2_with fail
    refine (hWd.out _).mono ?_
    rintro e w2 ⟨rfl, hw2⟩
    have hb2 : Below w.heap.size w w2 := by rw [hw2]; exact ((Below.refl _ w).alloc (Nat.le_refl _) _).alloc (by simp) _
    have hx1 : w2.cell? ⟨w.heap.size, 0, none⟩ = some (.pointer (some ⟨s, 0, none⟩)) := by rw [hw2]; go_simp
    have hx2 : w2.cell? ⟨w.heap.size + 1, 0, none⟩ = some (.int .u64 (x : Nat)) := by rw [hw2]; go_simp
    have hz2 : w.heap.size + 2 ≤ w2.heap.size := by rw [hw2]; simp
    have hr2 := hH.out.below hb2
    have hC := Lib.hid (collect_at (hH.out.here.below hb2 |>.mono (show w.heap.size ≤ w.heap.size + 2 by omega)) hRH.out hx1 hx2 (by omega) (by omega) hz2)
    have hb2H := Lib.hid hb2
    clear hw2 hx1 hx2 hr2 hb2
    go_wp2_with fail
    refine hC.out.mono ?_
    rintro e w3 ⟨A, c, rfl, hU, hb3⟩
    have hO := Lib.hid (Tx.of_any A c ws.length ws w3 rfl h200.out hU hlt.out)
    have hb3H := Lib.hid (hb2H.out.trans (hb3.mono hb2H.out.size))
    clear hU hb3
    go_wp2_with fail
    refine hO.out.mono ?_
    rintro e w4 ⟨rfl, hb4⟩
    have hb4H := Lib.hid (hb3H.out.trans (hb4.mono hb3H.out.size))
    clear hb4
    by_cases ht : Tx.isText ws
    · rw [Tx.ofR_yes ht]
      go_wp2
      go_ret2
      exact ⟨by rw [hs.out, Tx.ofR_yes ht]; rfl, hb4H.out⟩
    · rw [Tx.ofR_no ht]
      go_wp2
      go_ret2
      exact ⟨by rw [hs.out, Tx.ofR_no ht]; rfl, hb4H.out⟩
end
end Go.Proofs.YtjpmlneihbckpaaGreatDoor
/- blob.Put, Drop. -/
set_option linter.unusedVariables false
set_option linter.unusedSimpArgs false
namespace Go.Proofs.YtjpmlneihbckpaaGreatDoor
open Go.RowKit Go.Shelf
/-- a record more, of these words; or an error -/
def MadeW (w : World) (s : Nat) (F : Nat → Prop) (R : Nat → Option (List Nat)) (H : List Nat) (P q most last G : Nat) (ws : List Nat) (e : Ending) (w' : World) : Prop :=
  (∃ x F', R x = none ∧ x ≠ 0 ∧ x < 18446744073709551616 ∧ e = .returned (.tuple #[.int .u64 (x : Nat), .int .i64 0]) ∧ StoreIs w' s F' (updR R x (some ws)) (x :: H) (P + pgsN (ws.length + 2)) q most last (G + 1) ∧ Turn w F w' F') ∨
  (∃ er F', e = .returned (.tuple #[.int .u64 0, .int .i64 (er : Nat)]) ∧ ((er = 3 ∧ q < (P + pgsN (ws.length + 2)) * 64) ∨ (er = 10 ∧ (most ≤ H.length ∨ last ≤ G))) ∧ StoreIs w' s F' R H (P + pgsN (ws.length + 2)) q most last G ∧ Turn w F w' F')
theorem lenR_form (R : Nat → Option (List Nat)) (x : Nat) : ∃ a b : Nat, lenR R x = .tuple #[.int .i64 (a : Nat), .int .i64 (b : Nat)] ∧ b ≠ 1 := by
  unfold lenR
  cases R x with
  | none => exact ⟨0, 7, rfl, by decide⟩
  | some ws => exact ⟨ws.length, 0, rfl, by decide⟩
theorem updR_twice (R : Nat → Option (List Nat)) (x : Nat) (o o' : Option (List Nat)) : updR (updR R x o) x o' = updR R x o' := by
  funext y; unfold updR; split <;> rfl
/-- the words that are put so far, zeros behind them -/
def part (ws : List Nat) (k : Nat) : List Nat := ws.take k ++ List.replicate (ws.length - k) 0
theorem part_len (ws : List Nat) (k : Nat) : (part ws k).length = ws.length := by unfold part; simp; omega
theorem part_zero (ws : List Nat) : part ws 0 = List.replicate ws.length 0 := by unfold part; simp
theorem part_all (ws : List Nat) : part ws ws.length = ws := by unfold part; simp
theorem part_at (ws : List Nat) (k i : Nat) (hk : k ≤ ws.length) : (part ws k)[i]? = if i < k then ws[i]? else if i < ws.length then some 0 else none := by
  unfold part
  rw [List.getElem?_append, List.length_take, Nat.min_eq_left hk]
  by_cases h : i < k
  · rw [if_pos h, if_pos h, List.getElem?_take, if_pos h]
  · rw [if_neg h, if_neg h, List.getElem?_replicate]
    by_cases h2 : i < ws.length
    · rw [if_pos h2, if_pos (by omega)]
    · rw [if_neg h2, if_neg (by omega)]
theorem part_set (ws : List Nat) (k : Nat) (hk : k < ws.length) : (part ws k).set k ws[k] = part ws (k + 1) := by
  refine List.ext_getElem? fun i => ?_
  rw [List.getElem?_set, part_at ws k i (by omega), part_at ws (k + 1) i (by omega), part_len]
  by_cases e : k = i
  · subst e
    rw [if_pos rfl, if_pos hk, if_pos (by omega), List.getElem?_eq_getElem hk]
  · rw [if_neg e]
    by_cases h : i < k
    · rw [if_pos h, if_pos (by omega)]
    · rw [if_neg h, if_neg (show ¬ i < k + 1 by omega)]
theorem pgsN_same (a b : Nat) (h : a = b) : pgsN a = pgsN b := by rw [h]
theorem U64s_turn {w w' : World} {A : Option Addr} {l : List Nat} {F F' : Nat → Prop} (h : Tx.U64s w A l) (ht : Turn w F w' F') (hF : ∀ r, A = some r → ¬ F r.block) : Tx.U64s w' A l := by
  rcases h with h | ⟨b, o, rfl, hlt, hc⟩
  · exact .inl h
  · exact .inr ⟨b, o, rfl, Nat.lt_of_lt_of_le hlt ht.size, fun j hj => ht.cell (hc j hj) (hF ⟨b, o, none⟩ rfl)⟩
section
variable {w w' : World} {s : Nat} {F : Nat → Prop} {R : Nat → Option (List Nat)} {H : List Nat} {P q most last G : Nat}
set_option maxHeartbeats 2000000 in
set_option maxRecDepth 100000 in
theorem bput_at (h : StoreIs w s F R H P q most last G) (b : ByteArray) (hb : b.size ≤ 1000) :
    Calls Tryz.prog 59 #[.pointer (some ⟨s, 0, none⟩), .string b] w (MadeW w s F R H P q most last G (Tx.wordsL b.data.toList)) := by
  have hL := Lib.hid (slen_at h 0 (by decide))
  obtain ⟨la, lb, hlr, hl1⟩ := lenR_form R 0
  rw [hlr] at hL
  have d1 : ((lb : Int) == 1) = false := by simp; omega
  have hW := Lib.hid (Tx.words_any b w hb)
  have hwl : (Tx.wordsL b.data.toList).length = Tx.many b.size := by rw [Tx.wordsL_length, Tx.size_list]
  have hm1 : Tx.many b.size ≤ 126 := by unfold Tx.many; omega
  have hget := Lib.hid (fun j (hj : j < Tx.many b.size) => Tx.wordsL_get b.data.toList j (by rw [Tx.size_list]; exact hj))
  have hlt := Lib.hid (Tx.wordsL_lt b hb)
  have hH := Lib.hid h
  obtain ⟨ws, hws⟩ : ∃ ws, ws = Tx.wordsL b.data.toList := ⟨_, rfl⟩
  obtain ⟨m, hm⟩ : ∃ m, m = Tx.many b.size := ⟨_, rfl⟩
  rw [← hws] at hwl hget hlt ⊢
  rw [← hm] at hwl hm1 hget hW
  have hwlH := Lib.hid hwl
  clear hlr hl1 h hws hm hwl
  go_enter Tryz.func59, Tryz.ntmps59
  go_wp2_with fail
  refine hL.out.mono ?_
  rintro e w1 ⟨rfl, rfl⟩
  go_wp2_with fail
  refine hW.out.mono ?_
  rintro e w1 ⟨rfl, hrow, hb1⟩
  have hU : Hid (Tx.U64s w1 (some ⟨w.heap.size, 0, none⟩) ws) := Lib.hid (.inr ⟨_, _, rfl, hrow.lt, fun j hj => by
    rw [hwlH.out] at hj
    rw [Nat.zero_add, hrow.cell hj, hget.out j hj]
    rfl⟩)
  have hM := Lib.hid (smake_at (hH.out.below hb1) m (by omega))
  have hb1H := Lib.hid hb1
  have hFr : Hid (¬ F w.heap.size) := Lib.hid (fun hf => by have := hH.out.lt hf; omega)
  have hwlt : w.heap.size < w1.heap.size := hrow.lt
  clear hrow hb1 hget hL hW
  go_wp2_with fail
  refine hM.out.mono ?_
  rintro e w2 (⟨x, F', hx0, hxn, hx64, rfl, hS, hT⟩ | ⟨er, F', rfl, her, hS, hT⟩)
  · have hT2 := Lib.hid ((Turn.below hb1H.out).trans hT)
    have hFn := Lib.hid (hT.not hwlt hFr.out)
    have hU2 := Lib.hid (U64s_turn hU.out hT (fun r e => by cases e; exact hFr.out))
    have hS2 : Hid (StoreIs w2 s F' (updR R x (some (part ws 0))) (x :: H) (P + pgsN (ws.length + 2)) q most last (G + 1)) := Lib.hid (by rw [part_zero, hwlH.out]; exact hS)
    have hx0H := Lib.hid hx0
    clear hS hT hM hU hH hx0
    go_wp2_with fail
    go_loopw [40] (fun iv wr => ∃ k : Nat, k ≤ m ∧ iv = .int .i64 k ∧ Hid (StoreIs wr s F' (updR R x (some (part ws k))) (x :: H) (P + pgsN (ws.length + 2)) q most last (G + 1)) ∧ Hid (Turn w F wr F') ∧ Hid (Tx.U64s wr (some ⟨w.heap.size, 0, none⟩) ws)) (fun iv _ => m - (intOf iv).toNat)
    case atStart => exact ⟨0, by omega, rfl, hS2, hT2, hU2⟩
    case round =>
      obtain ⟨k, hk, rfl, hSr, hTr, hUr⟩ := hrel
      by_cases hlt2 : k < m
      · obtain ⟨b', o', he, _, hc⟩ := hUr.out.resolve_left (fun e => by have := hwlH.out; rw [e] at this; simp at this; omega)
        simp only [Option.some.injEq, Addr.mk.injEq] at he
        obtain ⟨rfl, rfl, _⟩ := he
        have hck := hc k (by rw [hwlH.out]; exact hlt2)
        rw [Nat.zero_add] at hck
        have hkl : k < ws.length := by rw [hwlH.out]; exact hlt2
        have hPt := sput_at hSr.out (x := x) (i := k) (u := ws[k]?.getD 0) (ws := part ws k) (updR_same _ _ _) (by rw [part_len]; exact hkl) (hlt.out k)
        rw [updR_twice, List.getElem?_eq_getElem hkl] at hPt
        simp only [Option.getD_some] at hPt
        rw [part_set ws k hkl] at hPt
        rw [List.getElem?_eq_getElem hkl] at hck
        simp only [Option.getD_some] at hck
        have hPH := Lib.hid hPt
        have hklH := Lib.hid hkl
        generalize hu : ws[k] = u at *
        clear hc hPt hkl hu
        go_wp2_with fail
        refine hPH.out.mono ?_
        rintro e w3 ⟨rfl, hS3, hT3⟩
        have hS3H := Lib.hid hS3
        have hT3H := Lib.hid (hTr.out.trans hT3)
        have hU3 := Lib.hid (U64s_turn hUr.out hT3 (fun r e => by cases e; exact hFn.out))
        clear hS3 hT3 hck
        go_wp2
        go_roundw
        case rel => exact ⟨k + 1, by omega, by go_num, hS3H, hT3H, hU3⟩
        case measure => simp [intOf]; omega
      · obtain rfl : k = m := by omega
        go_wp2
        go_ret2
        refine .inl ⟨x, F', hx0H.out, hxn, hx64, rfl, ?_, hTr.out⟩
        have := hSr.out
        rw [← hwlH.out, part_all] at this
        exact this
  · have hT2 := Lib.hid ((Turn.below hb1H.out).trans hT)
    have hSH := Lib.hid hS
    have herH := Lib.hid her
    have d2 : ((er : Int) != 0) = true := by simp; omega
    clear hS hT hM hU hH her
    go_wp2
    go_ret2
    refine .inr ⟨er, F', rfl, ?_, ?_, hT2.out⟩
    · rw [hwlH.out]; exact herH.out
    · rw [hwlH.out]; exact hSH.out
end
end Go.Proofs.YtjpmlneihbckpaaGreatDoor
/- Nodes: asked, Get. -/
set_option linter.unusedVariables false
set_option linter.unusedSimpArgs false
namespace Go.Proofs.YtjpmlneihbckpaaGreatDoor
open Go.RowKit Go.Shelf
/-- a node -/
structure Nd where
  key : Nat
  val : Nat
  left : Nat
  right : Nat
  mark : Nat
  size : Nat
def Nd.v (x : Nd) : Value := .agg #[.int .u64 (x.key : Nat), .int .u64 (x.val : Nat), .int .u64 (x.left : Nat), .int .u64 (x.right : Nat), .int .u64 (x.mark : Nat), .int .u64 (x.size : Nat)]
def Nd.ws (x : Nd) : List Nat := [x.key, x.val, x.left, x.right, x.mark, x.size]
def Nd.zero : Nd := ⟨0, 0, 0, 0, 0, 0⟩
def ndOf (ws : List Nat) : Nd := ⟨ws[0]?.getD 0, ws[1]?.getD 0, ws[2]?.getD 0, ws[3]?.getD 0, ws[4]?.getD 0, ws[5]?.getD 0⟩
theorem ndOf_ws (x : Nd) : ndOf x.ws = x := rfl
theorem ws_ndOf {ws : List Nat} (h : ws.length = 6) : (ndOf ws).ws = ws := by
  match ws, h with
  | [a, b, c, d, e, f], _ => rfl
structure Nd.Ok (x : Nd) : Prop where
  key : x.key < 18446744073709551616
  val : x.val < 18446744073709551616
  left : x.left < 18446744073709551616
  right : x.right < 18446744073709551616
  mark : x.mark < 18446744073709551616
  size : x.size < 18446744073709551616
/-- what stands in a record, as a node -/
def nodeR (R : Nat → Option (List Nat)) (x : Nat) : Option Nd :=
  match R x with
  | some ws => if ws.length = 6 then some (ndOf ws) else none
  | none => none
def nodeE (R : Nat → Option (List Nat)) (x : Nat) : Nat :=
  match R x with
  | some ws => if ws.length = 6 then 0 else 8
  | none => 7
def nodeG (R : Nat → Option (List Nat)) (x : Nat) : Nd := (nodeR R x).getD Nd.zero
def nodeV (R : Nat → Option (List Nat)) (x : Nat) : Value := .tuple #[(nodeG R x).v, .int .i64 (nodeE R x : Nat)]
theorem nodeE_zero {R : Nat → Option (List Nat)} {x : Nat} : nodeE R x = 0 ↔ ∃ nd, nodeR R x = some nd := by
  unfold nodeE nodeR
  cases R x with
  | none => simp
  | some ws => by_cases h : ws.length = 6 <;> simp [h]
theorem nodeR_some {R : Nat → Option (List Nat)} {x : Nat} {nd : Nd} (h : nodeR R x = some nd) : R x = some nd.ws := by
  unfold nodeR at h
  cases hR : R x with
  | none => rw [hR] at h; cases h
  | some ws =>
    rw [hR] at h
    simp only at h
    by_cases hl : ws.length = 6
    · rw [if_pos hl] at h
      cases h
      rw [ws_ndOf hl]
    · rw [if_neg hl] at h; cases h
theorem nodeR_of {R : Nat → Option (List Nat)} {x : Nat} {nd : Nd} (h : R x = some nd.ws) : nodeR R x = some nd := by
  unfold nodeR
  rw [h]
  rfl
section
variable {w w' : World} {s N : Nat} {R : Nat → Option (List Nat)} {n : Nat}
theorem Rd.node (h : Rd N w s R n) {x : Nat} {nd : Nd} (hR : nodeR R x = some nd) : nd.Ok := by
  obtain ⟨_, _, hu⟩ := h.u64 (nodeR_some hR)
  exact ⟨hu 0 (by simp [Nd.ws]), hu 1 (by simp [Nd.ws]), hu 2 (by simp [Nd.ws]), hu 3 (by simp [Nd.ws]), hu 4 (by simp [Nd.ws]), hu 5 (by simp [Nd.ws])⟩
theorem Nd.Ok.zero : Nd.zero.Ok := ⟨by decide, by decide, by decide, by decide, by decide, by decide⟩
theorem Rd.nodeG (h : Rd N w s R n) (x : Nat) : (nodeG R x).Ok := by
  unfold Go.Proofs.YtjpmlneihbckpaaGreatDoor.nodeG
  cases hR : nodeR R x with
  | none => exact Nd.Ok.zero
  | some nd => exact h.node hR
set_option maxRecDepth 100000 in
theorem asked_at (h : Rd N w s R n) (x : Nat) (hx : x < 18446744073709551616) :
    Calls Tryz.prog 66 #[.pointer (some ⟨s, 0, none⟩), .int .u64 (x : Nat)] w fun e w' => e = .returned (.int .i64 (nodeE R x : Nat)) ∧ w = w' := by
  have hL := Lib.hid (rlen_at h x hx)
  cases hR : R x with
  | none =>
    rw [lenR_none hR] at hL
    have hv : nodeE R x = 7 := by unfold nodeE; rw [hR]
    rw [hv]
    clear hR h hv
    go_enter Tryz.func66, Tryz.ntmps66
    go_wp2_with fail
    refine hL.out.mono ?_
    rintro e w1 ⟨rfl, rfl⟩
    go_wp2
    go_ret
    exact ⟨rfl, rfl⟩
  | some ws =>
    rw [lenR_some hR] at hL
    have hlen := (h.u64 hR).2.1
    have hv : nodeE R x = if ws.length = 6 then 0 else 8 := by unfold nodeE; rw [hR]
    by_cases h6 : ws.length = 6
    · have hvH := Lib.hid (hv.trans (if_pos h6))
      have d : ((ws.length : Int) != 6) = false := by simp; omega
      clear hR h hv h6
      go_enter Tryz.func66, Tryz.ntmps66
      go_wp2_with fail
      refine hL.out.mono ?_
      rintro e w1 ⟨rfl, rfl⟩
      go_wp2
      go_ret
      exact ⟨by rw [hvH.out]; rfl, rfl⟩
    · have hvH := Lib.hid (hv.trans (if_neg h6))
      have d : ((ws.length : Int) != 6) = true := by simp; omega
      clear hR h hv h6
      go_enter Tryz.func66, Tryz.ntmps66
      go_wp2_with fail
      refine hL.out.mono ?_
      rintro e w1 ⟨rfl, rfl⟩
      go_wp2
      go_ret
      exact ⟨by rw [hvH.out]; rfl, rfl⟩
set_option maxRecDepth 100000 in
theorem asked_nil (x : Nat) (w : World) : Calls Tryz.prog 66 #[.pointer none, .int .u64 (x : Nat)] w fun e w' => e = .returned (.int .i64 1) ∧ w = w' := by
  go_enter Tryz.func66, Tryz.ntmps66
  go_wp2_with (go_at_call 51; refine (slen_nil _ _).mono ?_; rintro e w' ⟨rfl, rfl⟩)
  go_ret
  exact ⟨rfl, rfl⟩
theorem rowIs_keep {w w' : World} {b : Nat} {t : TypeId} {n : Nat} {f : Nat → Value} (h : w.rowIs b t n f) (hk : w'.heap[b]? = w.heap[b]?) : w'.rowIs b t n f := by
  obtain ⟨c, h1, h2⟩ := h
  exact ⟨c, hk.trans h1, h2⟩
theorem six_row (w : World) (t : TypeId) : (w.alloc (Obj.cells #[Value.int IntKind.u64 0, Value.int IntKind.u64 0, Value.int IntKind.u64 0, Value.int IntKind.u64 0, Value.int IntKind.u64 0, Value.int IntKind.u64 0] t)).rowIs w.heap.size t 6 (fun _ => .int .u64 0) :=
  World.rowIs_alloc w _ t _ (fun i hi => by
    simp only [List.size_toArray, List.length_cons, List.length_nil] at hi
    match i, hi with
    | 0, _ => rfl
    | 1, _ => rfl
    | 2, _ => rfl
    | 3, _ => rfl
    | 4, _ => rfl
    | 5, _ => rfl)
set_option maxHeartbeats 2000000 in
set_option maxRecDepth 100000 in
theorem nget_at (h : Rd N w s R n) (x : Nat) (hx : x < 18446744073709551616) :
    Calls Tryz.prog 31 #[.pointer (some ⟨s, 0, none⟩), .int .u64 (x : Nat)] w fun e w' => e = .returned (nodeV R x) ∧ Below w.heap.size w w' := by
  have hA := Lib.hid (fun w' (hb : Below w.heap.size w w') => asked_at (h.below hb) x hx)
  cases hR : nodeR R x with
  | none =>
    obtain ⟨z, hz⟩ : ∃ z, z = nodeE R x := ⟨_, rfl⟩
    have hz0 : z ≠ 0 := fun e => by
      obtain ⟨nd, hnd⟩ := nodeE_zero.1 (hz.symm.trans e)
      rw [hR] at hnd; cases hnd
    have hz1 : z < 10 := by rw [hz]; unfold nodeE; split <;> (try split) <;> omega
    have d : ((z : Int) != 0) = true := by simp; omega
    have hv : Hid (nodeV R x = .tuple #[Nd.zero.v, .int .i64 (z : Nat)]) := Lib.hid (by unfold nodeV nodeG; rw [hR, ← hz]; rfl)
    rw [← hz] at hA
    clear hR h hz
    go_enter Tryz.func31, Tryz.ntmps31
    go_wp2_with fail
    refine (hA.out _ ((Below.refl _ w).alloc (Nat.le_refl _) _)).mono ?_
    rintro e w1 ⟨rfl, rfl⟩
    go_wp2
    refine bodyPost_ret (v := .tuple #[Nd.zero.v, .int .i64 (z : Nat)]) ?_ rfl ⟨by rw [hv.out], (Below.refl _ w).alloc (Nat.le_refl _) _⟩
    simp [results, Tryz.f31, go_sem, Nd.v, Nd.zero]
  | some nd =>
    have hv : Hid (nodeV R x = .tuple #[nd.v, .int .i64 0]) := Lib.hid (by unfold nodeV nodeG; rw [hR, nodeE_zero.2 ⟨_, hR⟩]; rfl)
    rw [nodeE_zero.2 ⟨_, hR⟩] at hA
    have hG := Lib.hid (fun w' (hb : Below w.heap.size w w') k (hk : k < nd.ws.length) => rget_at (h.below hb) (nodeR_some hR) hk)
    have hl6 : nd.ws.length = 6 := rfl
    have hok := Lib.hid (h.node hR)
    clear hR h
    go_enter Tryz.func31, Tryz.ntmps31
    go_wp2_with fail
    refine (hA.out _ ((Below.refl _ w).alloc (Nat.le_refl _) _)).mono ?_
    rintro e w1 ⟨rfl, rfl⟩
    go_wp2_with fail
    obtain ⟨W0, hW0⟩ : ∃ W0, W0 = (w.alloc (Obj.cells #[Value.int IntKind.u64 0, Value.int IntKind.u64 0, Value.int IntKind.u64 0, Value.int IntKind.u64 0, Value.int IntKind.u64 0, Value.int IntKind.u64 0] 53)).alloc (Obj.cells #[Value.int IntKind.u64 0, Value.int IntKind.u64 0, Value.int IntKind.u64 0, Value.int IntKind.u64 0, Value.int IntKind.u64 0, Value.int IntKind.u64 0] 117) := ⟨_, rfl⟩
    rw [← hW0]
    have hb0 : Hid (Below w.heap.size w W0) := Lib.hid (by rw [hW0]; exact ((Below.refl _ w).alloc (Nat.le_refl _) _).alloc (by simp) _)
    have hrb0 : W0.rowIs w.heap.size 53 6 (fun _ => .int .u64 0) := by
      rw [hW0]
      exact rowIs_keep (six_row w _) (Below.heap_alloc _ _ _ (by simp))
    have hr0 : W0.rowIs (w.heap.size + 1) 117 6 (fun _ => .int .u64 0) := by
      rw [hW0]
      have h1 := six_row (w.alloc (Obj.cells #[Value.int IntKind.u64 0, Value.int IntKind.u64 0, Value.int IntKind.u64 0, Value.int IntKind.u64 0, Value.int IntKind.u64 0, Value.int IntKind.u64 0] 53)) 117
      rw [show (w.alloc (Obj.cells #[Value.int IntKind.u64 0, Value.int IntKind.u64 0, Value.int IntKind.u64 0, Value.int IntKind.u64 0, Value.int IntKind.u64 0, Value.int IntKind.u64 0] 53)).heap.size = w.heap.size + 1 by simp] at h1
      exact h1
    clear hW0
    go_loopw [16] (fun iv wr => ∃ k : Nat, k ≤ 6 ∧ iv = .int .i64 k ∧ Hid (Below w.heap.size w wr) ∧ wr.rowIs (w.heap.size + 1) 117 6 (fun j => .int .u64 (if j < k then nd.ws[j]?.getD 0 else 0 : Nat)) ∧ wr.rowIs w.heap.size 53 6 (fun _ => .int .u64 0)) (fun iv _ => 6 - (intOf iv).toNat)
    case atStart => exact ⟨0, by omega, rfl, hb0, hr0, hrb0⟩
    case round =>
      obtain ⟨k, hk, rfl, hb, hr, hrb⟩ := hrel
      by_cases hlt : k < 6
      · have hGk := Lib.hid (hG.out wr hb.out k (by omega))
        have hck := hr.cell hlt
        have hfk := hr.frozen k
        have hkl : k < nd.ws.length := by omega
        have hgd : Hid (nd.ws[k]?.getD 0 = nd.ws[k]) := Lib.hid (by rw [List.getElem?_eq_getElem hkl]; rfl)
        generalize nd.ws[k] = u at *
        go_wp2_with fail
        refine hGk.out.mono ?_
        rintro e w2 ⟨rfl, rfl⟩
        go_wp2
        go_roundw
        case rel =>
          refine ⟨k + 1, by omega, by go_num, Lib.hid (hb.out.setCell (p := ⟨w.heap.size + 1, k, none⟩) (by simp) _), (hr.set k _).congr fun j hj => ?_, rowIs_keep hrb (Below.heap_setCell _ _ _ _ (by simp))⟩
          show (if j = k then Value.int .u64 _ else _) = _
          by_cases e : j = k
          · subst e
            rw [if_pos rfl, if_pos (by omega), hgd.out]
          · rw [if_neg e]
            by_cases h2 : j < k
            · rw [if_pos h2, if_pos (by omega)]
            · rw [if_neg h2, if_neg (by omega)]
        case measure => simp [intOf]; omega
      · obtain rfl : k = 6 := by omega
        have c0 := hr.cell (show 0 < 6 by omega)
        have c1 := hr.cell (show 1 < 6 by omega)
        have c2 := hr.cell (show 2 < 6 by omega)
        have c3 := hr.cell (show 3 < 6 by omega)
        have c4 := hr.cell (show 4 < 6 by omega)
        have c5 := hr.cell (show 5 < 6 by omega)
        rw [if_pos (by decide)] at c0 c1 c2 c3 c4 c5
        change _ = some (Value.int IntKind.u64 (nd.key : Nat)) at c0
        change _ = some (Value.int IntKind.u64 (nd.val : Nat)) at c1
        change _ = some (Value.int IntKind.u64 (nd.left : Nat)) at c2
        change _ = some (Value.int IntKind.u64 (nd.right : Nat)) at c3
        change _ = some (Value.int IntKind.u64 (nd.mark : Nat)) at c4
        change _ = some (Value.int IntKind.u64 (nd.size : Nat)) at c5
        have e0 := hrb.cell (show 0 < 6 by omega)
        have e1 := hrb.cell (show 1 < 6 by omega)
        have e2 := hrb.cell (show 2 < 6 by omega)
        have e3 := hrb.cell (show 3 < 6 by omega)
        have e4 := hrb.cell (show 4 < 6 by omega)
        have e5 := hrb.cell (show 5 < 6 by omega)
        have f0 := hrb.frozen 0
        have f1 := hrb.frozen 1
        have f2 := hrb.frozen 2
        have f3 := hrb.frozen 3
        have f4 := hrb.frozen 4
        have f5 := hrb.frozen 5
        have hrbH := Lib.hid hrb
        clear hr hrb
        go_wp2
        refine bodyPost_ret (v := .tuple #[nd.v, .int .i64 0]) ?_ rfl ⟨by rw [hv.out], ((((((hb.out.setCell (p := ⟨w.heap.size, 0, none⟩) (by simp) _).setCell (p := ⟨w.heap.size, 1, none⟩) (by simp) _).setCell (p := ⟨w.heap.size, 2, none⟩) (by simp) _).setCell (p := ⟨w.heap.size, 3, none⟩) (by simp) _).setCell (p := ⟨w.heap.size, 4, none⟩) (by simp) _).setCell (p := ⟨w.heap.size, 5, none⟩) (by simp) _)⟩
        simp [results, Tryz.f31, go_sem, Nd.v, e0, e1, e2, e3, e4, e5]
set_option maxRecDepth 100000 in
theorem nget_nil (x : Nat) (w : World) : Calls Tryz.prog 31 #[.pointer none, .int .u64 (x : Nat)] w fun e w' => e = .returned (.tuple #[Nd.zero.v, .int .i64 1]) ∧ Below w.heap.size w w' := by
  go_enter Tryz.func31, Tryz.ntmps31
  go_wp2_with fail
  refine (asked_nil x _).mono ?_
  rintro e w1 ⟨rfl, rfl⟩
  go_wp2
  refine bodyPost_ret (v := .tuple #[Nd.zero.v, .int .i64 1]) ?_ rfl ⟨rfl, (Below.refl _ w).alloc (Nat.le_refl _) _⟩
  simp [results, Tryz.f31, go_sem, Nd.v, Nd.zero]
end
end Go.Proofs.YtjpmlneihbckpaaGreatDoor
