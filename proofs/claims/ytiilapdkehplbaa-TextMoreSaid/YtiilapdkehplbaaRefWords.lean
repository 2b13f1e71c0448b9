/- The walk of the document's Words. -/
import Derived.Test.YtiilapdkehplbaaOf
set_option linter.unusedVariables false
namespace Go.Proofs.Ytiilapdkehplbaa
open Go.RowKit
theorem rw_step (l : List UInt8) (i q : Nat) (h : i ≤ q) : hor (fun t => byteAt l (i + t)) (q + 1 - i) = hor (fun t => byteAt l (i + t)) (q - i) * 256 + byteAt l q := by
  rw [show q + 1 - i = (q - i) + 1 by omega, hor, show i + (q - i) = q by omega]
theorem rw_bound (l : List UInt8) (i q : Nat) (h : q < i + 8) : hor (fun t => byteAt l (i + t)) (q - i) ≤ 72057594037927935 := by
  have h1 := hor_lt (f := fun t => byteAt l (i + t)) (fun k => byteAt_lt _ _) (q - i)
  have h2 : 256 ^ (q - i) ≤ 256 ^ 7 := Nat.pow_le_pow_right (by omega) (by omega)
  have h3 : (256 : Nat) ^ 7 = 72057594037927936 := by decide
  omega
def wordsUpto (l : List UInt8) (n : Nat) : List Nat := (List.range n).map (wordAt l)
theorem wordsUpto_succ (l : List UInt8) (n : Nat) : wordsUpto l (n + 1) = wordsUpto l n ++ [wordAt l n] := by simp [wordsUpto, List.range_succ]
theorem wordsUpto_length (l : List UInt8) (n : Nat) : (wordsUpto l n).length = n := by simp [wordsUpto]
def nums (l : List Nat) : List Value := l.map fun x => Value.int .u64 (x : Nat)
theorem nums_length (l : List Nat) : (nums l).length = l.length := by simp [nums]
theorem nums_one (l : List Nat) : ∀ u ∈ nums l, u.oneCell' = true := by
  intro u hu
  simp [nums] at hu
  obtain ⟨_, _, rfl⟩ := hu
  rfl
theorem u64s_of_own {w : World} {B n c : Nat} {A : Option Addr} {l : List Nat} (h : w.ownsRow B 37 1 (.slice A n c) n (nums l)) : U64s w A l := by
  by_cases h0 : l = []
  · exact .inl h0
  · rcases h.2 with ⟨hv, hn⟩ | ⟨g, cap, cur, hv, hb, hg, _⟩
    · exact .inl (List.eq_nil_of_length_eq_zero (by rw [← nums_length, h.1, hn]))
    · cases hv
      refine .inr ⟨g, 0, rfl, lt_of_block hg, fun j hj => ?_⟩
      have := h.cells (g := g) rfl j (.int .u64 (l[j]?.getD 0 : Nat)) (by simp [nums, hj])
      have hadd : (⟨g, 0, none⟩ : Addr).add j = ⟨g, 0 + j, none⟩ := by unfold Addr.add; split <;> simp_all
      rwa [hadd] at this
def RefWords (w : World) (s : ByteArray) (e : Ending) (w' : World) : Prop :=
  ∃ v, e = .returned (.tuple #[v, .int .i64 0]) ∧ w'.ownsRow w.heap.size 37 1 v (many s.size) (nums (wordsUpto s.data.toList (many s.size))) ∧ Below w.heap.size w w'
theorem one_int (k : IntKind) (z : Int) : ∀ u ∈ [Value.int k z], u.oneCell' = true := by
  intro u hu
  simp at hu
  subst hu
  rfl
theorem index_str (s : ByteArray) (q : Nat) (h : q < s.size) (W : World) : (Instr.index 9 (.string s) (.int .i64 (q : Int))).run Try.prog W = .ok (.int .u8 (byteAt s.data.toList q : Nat)) W := by
  rw [run_index_string W 9 s .i64 q Try.underlying9]
  have e : s.data[q]? = some (s[q]'h) := Array.getElem?_eq_getElem h
  unfold byteAt
  rw [Array.getElem?_toList, e]
  simp [h]
theorem ret_u64 {a : Int} {b : Nat} (h : a = (b : Int)) : Value.int .u64 a = Value.int .u64 ((b : Nat) : Int) := by rw [h]
set_option maxRecDepth 100000 in
theorem refWords_any (s : ByteArray) (w : World) (hs : s.size ≤ 1000) :
    Calls Try.prog 12 #[.string s] w fun e w' => RefWords w s e w' := by
  have hlen : s.data.toList.length = s.size := Array.length_toList
  have hlenH := Lib.hid hlen
  clear hlen
  obtain ⟨i0, hi, hz0, hz1, hz2⟩ := info_parts hinfo37
  go_enter Try.func12, Try.ntmps12
  go_wp2
  have hown0 : (w.alloc (Obj.cells #[Value.int IntKind.u64 ↑s.size] 37)).ownsRow w.heap.size 37 1 (.slice (some ⟨w.heap.size, 0, none⟩) 1 1) 1 (nums (wordsUpto s.data.toList 1)) := by
    refine ⟨rfl, .inr ⟨w.heap.size, 1, _, rfl, Nat.le_refl _, heap_alloc_new w _, Nat.le_refl _, by unfold maxLen; omega, rfl, ?_⟩⟩
    simp [wordsUpto, nums, wordAt, hlenH.out]
  have hbel0 : Below w.heap.size w (w.alloc (Obj.cells #[Value.int IntKind.u64 ↑s.size] 37)) := (Below.refl _ w).alloc (Nat.le_refl _) _
  generalize (w.alloc (Obj.cells #[Value.int IntKind.u64 ↑s.size] 37)) = W0 at hown0 hbel0 ⊢
  go_loopw [4, 5] (fun v i wr => ∃ n m : Nat, n < s.size + 8 ∧ Hid (n = 8 * m) ∧ i = .int .i64 n ∧ wr.ownsRow w.heap.size 37 1 v (m + 1) (nums (wordsUpto s.data.toList (m + 1))) ∧ Below w.heap.size w wr) (fun _ i _ => s.size - (intOf i).toNat)
  case atStart => exact ⟨0, 0, by omega, rfl, rfl, hown0, hbel0⟩
  case round =>
    obtain ⟨n, m, hn, hnm, rfl, hown, hbel⟩ := hrel
    have hmb : m ≤ 200 := by have := hnm.out; omega
    by_cases hlt : n < s.size
    · have hbsz := hbel.size
      have hbelH := Lib.hid hbel
      have hownH := Lib.hid hown
      clear hbel hown hown0 hbel0
      go_wp2
      go_loop [6, 7] (fun x k => ∃ q h : Nat, n ≤ q ∧ q ≤ n + 8 ∧ k = .int .i64 q ∧ x = .int .u64 h ∧ Hid (h = hor (fun t => byteAt s.data.toList (n + t)) (q - n))) (fun _ k => n + 8 - (intOf k).toNat)
      case atStart => exact ⟨n, 0, Nat.le_refl _, by omega, rfl, rfl, by unfold Hid; rw [Nat.sub_self]; rfl⟩
      case round =>
        obtain ⟨q, h, hq1, hq2, rfl, rfl, hh⟩ := hrel
        by_cases hq : q < n + 8
        · have hb := rw_bound s.data.toList n q hq
          rw [← hh.out] at hb
          have hst := rw_step s.data.toList n q hq1
          rw [← hh.out] at hst
          have hst2 := Lib.hid hst
          clear hst
          by_cases hqs : q < s.size
          · have hbl := byteAt_lt s.data.toList q
            have hix := index_str s q hqs
            go_wp2
            go_round
            case rel => exact ⟨q + 1, _, by omega, by omega, by go_num, ret_u64 (by rw [hst2.out]; push_cast; rfl), rfl⟩
            case measure => simp [intOf]; omega
          · have hz := byteAt_ge s.data.toList q (by rw [hlenH.out]; omega)
            go_wp2
            go_round
            case rel => exact ⟨q + 1, _, by omega, by omega, by go_num, ret_u64 (by rw [hst2.out, hz]; push_cast; omega), rfl⟩
            case measure => simp [intOf]; omega
        · have hqe : q = n + 8 := by omega
          have hhe : h = wordAt s.data.toList (m + 1) := by
            rw [hh.out, hqe, show n + 8 - n = 8 by omega]
            unfold wordAt wd
            rw [if_neg (by omega), show m + 1 - 1 = m by omega, ← hnm.out]
          have hhH := Lib.hid hhe
          clear hhe hqe
          go_wp2_with (at_builtin; go_loud (refine wpList_append_own _ rfl _ _ 23 rfl w.heap.size 37 i0 (.int .u64 0) 1 8 Try.underlying23 hi hz0 hz1 hz2 rfl (by decide) _ _ _ rfl (hownH.out.alloc _) ⟨wr.heap.size, 0, none⟩ 1 1 [.int .u64 h] rfl rfl (cell_one_new _ _ _) (one_int _ _) (by unfold maxLen; omega) (by omega) (by simp; omega) ?_); intro v' w1 hown1 hgrow1 _)
          have hown2 : w1.ownsRow w.heap.size 37 1 v' (m + 1 + 1) (nums (wordsUpto s.data.toList (m + 1 + 1))) := by
            rw [wordsUpto_succ]
            simp only [nums, List.map_append, List.map_cons, List.map_nil]
            rw [← hhH.out]
            exact hown1
          have hbel1 : Below w.heap.size w w1 := (hbelH.out.alloc hbsz _).grown hgrow1 (by simp; omega) (fun g e => (hownH.out.lt g e).1)
          have HO := Lib.hid hown2
          have HB := Lib.hid hbel1
          clear hown1 hown2 hgrow1 hbel1
          go_wp2
          go_roundw
          case rel => exact ⟨n + 8, m + 1, by omega, by have := hnm.out; unfold Hid; omega, by go_num, HO.out, HB.out⟩
          case measure => simp [intOf]; omega
    · have hme : m + 1 = many s.size := by have := hnm.out; unfold many; omega
      have hbelH := Lib.hid hbel
      have hownH := Lib.hid hown
      have hmeH := Lib.hid hme
      clear hbel hown hown0 hbel0 hme
      go_wp2
      go_ret2
      exact ⟨_, rfl, by rw [← hmeH.out]; exact hownH.out, hbelH.out⟩
theorem refWords_long (s : ByteArray) (w : World) (hs : 1000 < s.size) (hs2 : s.size ≤ 9223372036854775807) :
    Calls Try.prog 12 #[.string s] w fun e w' => e = .returned (.tuple #[.slice none 0 0, .int .i64 4]) ∧ w = w' := by
  go_enter Try.func12, Try.ntmps12
  go_wp2
  go_ret2
  exact ⟨rfl, rfl⟩
end Go.Proofs.Ytiilapdkehplbaa
