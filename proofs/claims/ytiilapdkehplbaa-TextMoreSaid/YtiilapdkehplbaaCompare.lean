/- The walks of text.Compare and of the document's Compare: both tell how the bytes stand. -/
import Derived.Test.YtiilapdkehplbaaAll
import Derived.Lib.Bytealg
set_option linter.unusedVariables false
namespace Go.Proofs.Ytiilapdkehplbaa
open Go.RowKit
theorem cmp_ext (a b : ByteArray) (w : World) : (callFunc 23 #[.string a, .string b]).run Try.prog w = .ok (.value (.int .i64 (Lib.compareBytes a.data.toList b.data.toList))) w := by
  rw [run_callFunc_extern Try.func23 (by kernel_rfl) (by kernel_rfl) (by kernel_rfl) (e := Extern.BytealgCompare.compare) (by kernel_rfl), Lib.run_compareString]
  rfl
theorem cmp_any (a b : ByteArray) (w : World) :
    Calls Try.prog 17 #[.string a, .string b] w fun e w' => e = .returned (.int .i64 (Lib.compareBytes a.data.toList b.data.toList)) ∧ w = w' := by
  have hx := cmp_ext a b
  go_enter Try.func17, Try.ntmps17
  go_wp2
  go_ret
  exact ⟨rfl, rfl⟩
theorem cmp_lt (a b : List UInt8) (i : Nat) (ha : i < a.length) (hb : i < b.length) (h : byteAt a i < byteAt b i) : Lib.compareBytes (a.drop i) (b.drop i) = -1 := by
  rw [List.drop_eq_getElem_cons ha, List.drop_eq_getElem_cons hb, Lib.compareBytes]
  have : a[i] < b[i] := by
    unfold byteAt at h
    rw [List.getElem?_eq_getElem ha, List.getElem?_eq_getElem hb] at h
    exact h
  rw [if_pos this]
theorem cmp_gt (a b : List UInt8) (i : Nat) (ha : i < a.length) (hb : i < b.length) (h : byteAt b i < byteAt a i) : Lib.compareBytes (a.drop i) (b.drop i) = 1 := by
  rw [List.drop_eq_getElem_cons ha, List.drop_eq_getElem_cons hb, Lib.compareBytes]
  have h2 : b[i].toNat < a[i].toNat := by
    unfold byteAt at h
    rw [List.getElem?_eq_getElem ha, List.getElem?_eq_getElem hb] at h
    exact h
  rw [if_neg (fun e : a[i] < b[i] => by have : a[i].toNat < b[i].toNat := e; omega), if_pos (show b[i] < a[i] from h2)]
theorem cmp_eq (a b : List UInt8) (i : Nat) (ha : i < a.length) (hb : i < b.length) (h : byteAt a i = byteAt b i) : Lib.compareBytes (a.drop i) (b.drop i) = Lib.compareBytes (a.drop (i + 1)) (b.drop (i + 1)) := by
  rw [List.drop_eq_getElem_cons ha, List.drop_eq_getElem_cons hb, Lib.compareBytes]
  have h2 : a[i].toNat = b[i].toNat := by
    unfold byteAt at h
    rw [List.getElem?_eq_getElem ha, List.getElem?_eq_getElem hb] at h
    exact h
  rw [if_neg (fun e : a[i] < b[i] => by have : a[i].toNat < b[i].toNat := e; omega), if_neg (fun e : b[i] < a[i] => by have : b[i].toNat < a[i].toNat := e; omega)]
theorem cmp_end (a b : List UInt8) (i : Nat) (ha : i ≤ a.length) (hb : i ≤ b.length) (h : i = a.length ∨ i = b.length) :
    Lib.compareBytes (a.drop i) (b.drop i) = if a.length < b.length then -1 else if b.length < a.length then 1 else 0 := by
  rcases h with h | h
  · subst h
    rw [List.drop_length]
    by_cases h2 : a.length < b.length
    · rw [List.drop_eq_getElem_cons h2, if_pos h2]; rfl
    · have : b.length = a.length := by omega
      rw [← this, List.drop_length, if_neg (by omega), if_neg (by omega)]; rfl
  · subst h
    rw [List.drop_length]
    by_cases h2 : b.length < a.length
    · rw [List.drop_eq_getElem_cons h2, if_neg (by omega), if_pos h2]; rfl
    · have : b.length = a.length := by omega
      rw [this, List.drop_length, if_neg (by omega), if_neg (by omega)]; rfl
set_option maxRecDepth 100000 in
theorem refCmp_any (a b : ByteArray) (w : World) (ha : a.size ≤ 9223372036854775807) (hb : b.size ≤ 9223372036854775807) :
    Calls Try.prog 18 #[.string a, .string b] w fun e w' => e = .returned (.int .i64 (Lib.compareBytes a.data.toList b.data.toList)) ∧ ∃ d, w' = w.drewN d := by
  have hla := Lib.hid (size_list a)
  have hlb := Lib.hid (size_list b)
  have hlenA : ∀ W, (Builtin.len_ #[9] 3 #[.string a]).run Try.prog W = .ok (.int .i64 (a.size : Nat)) W := fun W => by
    rw [run_len_string W 9 3 a Try.underlying9]; rfl
  obtain ⟨C, hC⟩ : ∃ C, C = Lib.compareBytes a.data.toList b.data.toList := ⟨_, rfl⟩
  rw [← hC]
  have hC0 := Lib.hid hC
  clear hC
  go_enter Try.func18, Try.ntmps18
  go_wp2
  go_loopw [5] (fun i wr => ∃ k d : Nat, k ≤ a.size ∧ k ≤ b.size ∧ i = .int .i64 k ∧ wr = w.drewN d ∧ Hid (C = Lib.compareBytes (a.data.toList.drop k) (b.data.toList.drop k))) (fun i _ => a.size - (intOf i).toNat)
  case atStart => exact ⟨0, 0, Nat.zero_le _, Nat.zero_le _, rfl, rfl, hC0⟩
  case round =>
    obtain ⟨k, d, hka, hkb, rfl, rfl, hc⟩ := hrel
    by_cases h1 : k < a.size
    · by_cases h2 : k < b.size
      · obtain ⟨x, hx⟩ : ∃ x, x = byteAt a.data.toList k := ⟨_, rfl⟩
        obtain ⟨y, hy⟩ : ∃ y, y = byteAt b.data.toList k := ⟨_, rfl⟩
        have hix : ∀ W, (Instr.index 9 (.string a) (.int .i64 (k : Int))).run Try.prog W = .ok (.int .u8 (x : Nat)) W := fun W => by rw [hx]; exact index_str a k h1 W
        have hiy : ∀ W, (Instr.index 9 (.string b) (.int .i64 (k : Int))).run Try.prog W = .ok (.int .u8 (y : Nat)) W := fun W => by rw [hy]; exact index_str b k h2 W
        have ha' : k < a.data.toList.length := by rw [hla.out]; exact h1
        have hb' : k < b.data.toList.length := by rw [hlb.out]; exact h2
        have kL := fun h => cmp_lt a.data.toList b.data.toList k ha' hb' h
        have kG := fun h => cmp_gt a.data.toList b.data.toList k ha' hb' h
        have kE := fun h => cmp_eq a.data.toList b.data.toList k ha' hb' h
        rw [← hx, ← hy] at kL kG kE
        rw [← hc.out] at kL kG kE
        have kL := Lib.hid kL
        have kG := Lib.hid kG
        have kE := Lib.hid kE
        clear hx hy ha' hb'
        rcases Nat.lt_trichotomy x y with hxy | hxy | hxy
        · have e1 : decide (x < y) = true := by simp; omega
          go_wp2_with fail
          go_quiet (fail)
          go_wp2
          go_ret
          exact ⟨ret_int (kL.out hxy).symm, _, by first | rfl | exact World.drewN_drewN ..⟩
        · have e1 : decide (x < y) = false := by simp; omega
          have e2 : decide (y < x) = false := by simp; omega
          have kE2 := Lib.hid (kE.out hxy)
          clear hxy
          go_wp2_with fail
          go_quiet (fail)
          go_wp2_with fail
          go_quiet (fail)
          go_wp2
          go_roundw
          case rel => exact ⟨k + 1, _, by omega, by omega, by go_num, by first | rfl | exact World.drewN_drewN .. | exact (World.drewN_drewN ..).trans (World.drewN_drewN ..), kE2⟩
          case measure => simp [intOf]; omega
        · have e1 : decide (x < y) = false := by simp; omega
          have e2 : decide (y < x) = true := by simp; omega
          go_wp2_with fail
          go_quiet (fail)
          go_wp2_with fail
          go_quiet (fail)
          go_wp2
          go_ret
          exact ⟨ret_int (kG.out hxy).symm, _, by first | rfl | exact World.drewN_drewN .. | exact (World.drewN_drewN ..).trans (World.drewN_drewN ..)⟩
      · have hk : k = b.size := by omega
        have ke := cmp_end a.data.toList b.data.toList k (by rw [hla.out]; omega) (by rw [hlb.out]; omega) (.inr (by rw [hlb.out]; exact hk))
        rw [hla.out, hlb.out, ← hc.out] at ke
        have hkl : b.size < a.size := by omega
        rw [if_neg (by omega), if_pos hkl] at ke
        have kH := Lib.hid ke
        have hge : (b.size : Int) ≤ (k : Int) := by omega
        clear ke hk hc hC0
        go_wp2
        go_ret
        exact ⟨ret_int kH.out.symm, _, rfl⟩
    · have hk : k = a.size := by omega
      have ke := cmp_end a.data.toList b.data.toList k (by rw [hla.out]; omega) (by rw [hlb.out]; omega) (.inl (by rw [hla.out]; exact hk))
      rw [hla.out, hlb.out, ← hc.out] at ke
      have hge : (a.size : Int) ≤ (k : Int) := by omega
      have hle : a.size ≤ b.size := by omega
      by_cases hl : a.size < b.size
      · rw [if_pos hl] at ke
        have kH := Lib.hid ke
        clear ke hk hc hC0
        go_wp2
        go_ret
        exact ⟨ret_int kH.out.symm, _, rfl⟩
      · rw [if_neg hl, if_neg (by omega)] at ke
        have kH := Lib.hid ke
        clear ke hk hc hC0
        go_wp2
        go_ret
        exact ⟨ret_int kH.out.symm, _, rfl⟩
end Go.Proofs.Ytiilapdkehplbaa
