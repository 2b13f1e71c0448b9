/- The walk of TextBytes, and the plain law that words of one length stand as bytes do. -/
import Derived.Test.YtiilapdkehplbaaLaws3
set_option linter.unusedVariables false
namespace Go.Proofs.Ytiilapdkehplbaa
open Go.RowKit
theorem hor_less {f g : Nat → Nat} (hf : ∀ k, f k < 256) (hg : ∀ k, g k < 256) : ∀ n, hor f n < hor g n → ∃ t, t < n ∧ (∀ j, j < t → f j = g j) ∧ f t < g t
  | 0, h => absurd h (by simp [hor])
  | n + 1, h => by
    have h1 := hf n
    have h2 := hg n
    rw [hor, hor] at h
    rcases Nat.lt_trichotomy (hor f n) (hor g n) with h3 | h3 | h3
    · obtain ⟨t, a, b, c⟩ := hor_less hf hg n h3
      exact ⟨t, by omega, b, c⟩
    · refine ⟨n, by omega, fun j hj => ?_, by omega⟩
      have d1 := hor_digit hf n j hj
      have d2 := hor_digit hg n j hj
      rw [← d1, ← d2, h3]
    · omega
theorem byte_of_wd (l : List UInt8) (q : Nat) : byteAt l q = wd l (q / 8) / 256 ^ (7 - q % 8) % 256 := by
  have := hor_digit (f := fun k => byteAt l (8 * (q / 8) + k)) (fun k => byteAt_lt _ _) 8 (q % 8) (by omega)
  rw [show 8 - 1 - q % 8 = 7 - q % 8 by omega, show 8 * (q / 8) + q % 8 = q by omega] at this
  exact this.symm
theorem cmp_skip (a b : List UInt8) : ∀ p, p ≤ a.length → p ≤ b.length → (∀ q, q < p → byteAt a q = byteAt b q) → Lib.compareBytes a b = Lib.compareBytes (a.drop p) (b.drop p)
  | 0, _, _, _ => by simp
  | p + 1, ha, hb, h => by
    rw [cmp_skip a b p (by omega) (by omega) (fun q hq => h q (by omega))]
    exact cmp_eq a b p (by omega) (by omega) (h p (by omega))
/-- the first word that differs is less: the text is ahead -/
theorem words_less (a b : List UInt8) (r : Nat) (hlen : a.length = b.length) (he : ∀ j, j < r → wordAt a j = wordAt b j) (hr : wordAt a r < wordAt b r) : Lib.compareBytes a b = -1 := by
  have hr0 : r ≠ 0 := fun e => by subst e; simp [wordAt, hlen] at hr
  have hr' : wd a (r - 1) < wd b (r - 1) := by unfold wordAt at hr; rwa [if_neg hr0, if_neg hr0] at hr
  obtain ⟨t, ht, h1, h2⟩ := hor_less (f := fun k => byteAt a (8 * (r - 1) + k)) (g := fun k => byteAt b (8 * (r - 1) + k)) (fun k => byteAt_lt _ _) (fun k => byteAt_lt _ _) 8 hr'
  have hlow : ∀ q, q < 8 * (r - 1) + t → byteAt a q = byteAt b q := fun q hq => by
    by_cases h8 : q < 8 * (r - 1)
    · rw [byte_of_wd, byte_of_wd]
      have := he (q / 8 + 1) (by omega)
      unfold wordAt at this
      rw [if_neg (by omega), if_neg (by omega), Nat.add_sub_cancel] at this
      rw [this]
    · have := h1 (q - 8 * (r - 1)) (by omega)
      rw [show 8 * (r - 1) + (q - 8 * (r - 1)) = q by omega] at this
      exact this
  have hp : 8 * (r - 1) + t < b.length := by
    rcases Nat.lt_or_ge (8 * (r - 1) + t) b.length with h | h
    · exact h
    · have h3 : byteAt a (8 * (r - 1) + t) < byteAt b (8 * (r - 1) + t) := h2
      rw [byteAt_ge b _ h] at h3
      omega
  rw [cmp_skip a b (8 * (r - 1) + t) (by omega) (by omega) hlow]
  exact cmp_lt a b _ (by omega) hp h2
theorem words_same_text (a b : List UInt8) (hlen : a.length = b.length) (he : ∀ j, j < many a.length → wordAt a j = wordAt b j) : Lib.compareBytes a b = 0 := by
  rw [cb_zero]
  refine List.ext_getElem hlen fun q h1 h2 => ?_
  rw [← ofNat_byteAt a q h1, ← ofNat_byteAt b q h2, byte_of_wd, byte_of_wd b]
  have := he (q / 8 + 1) (by unfold many; omega)
  unfold wordAt at this
  rw [if_neg (by omega), if_neg (by omega), Nat.add_sub_cancel] at this
  rw [this]
/-- how the first k words stand -/
def Stand (l l' : List UInt8) (k : Nat) (c : Int) : Prop :=
  (c = 0 ∧ ∀ j, j < k → wordAt l j = wordAt l' j) ∨ (c ≠ 0 ∧ c = Lib.compareBytes l l')
theorem stand_end {l l' : List UInt8} {k : Nat} {c : Int} (h : Stand l l' k c) (hlen : l.length = l'.length) (hk : c ≠ 0 ∨ k = many l.length) : c = Lib.compareBytes l l' := by
  rcases h with ⟨h1, h2⟩ | ⟨_, h2⟩
  · rcases hk with hk | hk
    · exact absurd h1 hk
    · rw [h1]; exact (words_same_text l l' hlen (by rw [← hk]; exact h2)).symm
  · exact h2
theorem stand_less {l l' : List UInt8} {k : Nat} (h : Stand l l' k 0) (hlen : l.length = l'.length) (hk : wordAt l k < wordAt l' k) : Stand l l' (k + 1) (-1) := by
  rcases h with ⟨_, h2⟩ | ⟨h1, _⟩
  · exact .inr ⟨by omega, (words_less l l' k hlen h2 hk).symm⟩
  · exact absurd rfl h1
theorem stand_more {l l' : List UInt8} {k : Nat} (h : Stand l l' k 0) (hlen : l.length = l'.length) (hk : wordAt l' k < wordAt l k) : Stand l l' (k + 1) 1 := by
  rcases h with ⟨_, h2⟩ | ⟨h1, _⟩
  · refine .inr ⟨by omega, ?_⟩
    have := words_less l' l k hlen.symm (fun j hj => (h2 j hj).symm) hk
    have h3 := cb_swap l' l
    rw [this] at h3
    exact h3.symm
  · exact absurd rfl h1
theorem stand_same {l l' : List UInt8} {k : Nat} (h : Stand l l' k 0) (hk : wordAt l k = wordAt l' k) : Stand l l' (k + 1) 0 := by
  rcases h with ⟨_, h2⟩ | ⟨h1, _⟩
  · refine .inl ⟨rfl, fun j hj => ?_⟩
    by_cases e : j = k
    · rw [e]; exact hk
    · exact h2 j (by omega)
  · exact absurd rfl h1
/-- Words of a text of at most 1000 bytes, told by places -/
theorem words_at (s : ByteArray) (w : World) (h : s.size ≤ 1000) :
    Calls Try.prog 11 #[.string s] w fun e w' => e = .returned (.tuple #[.slice (some ⟨w.heap.size, 0, none⟩) (many s.size) (many s.size), .int .i64 0]) ∧
      (∀ j, j < many s.size → w'.cell? ⟨w.heap.size, j, none⟩ = some (.int .u64 (wordAt s.data.toList j : Nat))) ∧ Below w.heap.size w w' ∧ w.heap.size < w'.heap.size :=
  (words_any s w h).mono fun _ _ ⟨he, hr, hb⟩ => ⟨he, fun j hj => hr.cell hj, hb, hr.lt⟩
set_option maxHeartbeats 4000000 in
set_option maxRecDepth 100000 in
theorem textBytes_walk (a b : ByteArray) (w : World) (ha : a.size ≤ 9223372036854775807) (hb : b.size ≤ 9223372036854775807) :
    Calls Try.prog 8 #[.string a, .string b] w (Yes w) := by
  by_cases h1 : 300 < a.size
  · have d1 : decide ((300 : Int) < (a.size : Int)) = true := by simp; omega
    go_enter Try.func8, Try.ntmps8
    go_wp2_with (go_at_call 10; refine (awake_any _).mono ?_; rintro e w' ⟨rfl, hb⟩)
    go_ret
    exact ⟨rfl, hb⟩
  have d1 : decide ((300 : Int) < (a.size : Int)) = false := by simp; omega
  by_cases h2 : b.size = a.size
  · have hlen : a.data.toList.length = b.data.toList.length := by rw [size_list, size_list, h2]
    have hwa := Lib.hid (fun w => words_at a w (by omega))
    have hwb := Lib.hid (fun w => words_at b w (by omega))
    rw [h2] at hwb
    have d2 : ((b.size : Int) != (a.size : Int)) = false := by simp; omega
    obtain ⟨m, hm⟩ : ∃ m, m = many a.size := ⟨_, rfl⟩
    rw [← hm] at hwa hwb
    have hmb : m ≤ 200 := by rw [hm]; unfold many; omega
    have hmp : 0 < m := by rw [hm]; unfold many; omega
    have d3 : ((m : Int) == 0) = false := by simp; omega
    have d4 : ((m : Int) != (m : Int)) = false := by simp
    have hmH := Lib.hid hm
    have hlenH := Lib.hid hlen
    have hcmp := Lib.hid (cmp_call a b)
    have hend := Lib.hid (fun (k : Nat) (c : Int) (h : Stand a.data.toList b.data.toList k c) (hk : c ≠ 0 ∨ k = m) => (stand_end h hlen (by rw [size_list, ← hm]; exact hk) : c = cmp a b))
    clear hm hlen h2
    go_enter Try.func8, Try.ntmps8
    go_wp2_with fail
    refine (hwa.out w).mono ?_
    rintro e w1 ⟨rfl, hc1, hb1, hz1⟩
    have hC1 := Lib.hid hc1
    have hB1 := Lib.hid hb1
    clear hc1 hb1
    go_wp2_with fail
    refine (hwb.out w1).mono ?_
    rintro e w2 ⟨rfl, hc2, hb2, hz2⟩
    have hC1' := Lib.hid (fun j hj => (hb2.cell (p := ⟨w.heap.size, j, none⟩) hz1).trans (hC1.out j hj))
    have hc0 : w2.cell? ⟨w.heap.size, 0, none⟩ = some (.int .u64 (a.size : Nat)) := by
      have := hC1'.out 0 hmp
      rw [this]
      simp [wordAt]
    have hC2 := Lib.hid hc2
    have hB2 := Lib.hid (hB1.out.trans (hb2.mono hB1.out.size))
    clear hc2 hb2
    have d5 : ((a.size : Int) != (a.size : Int)) = false := by simp
    go_wp2_with (go_at_call 14; refine (many_nat a.size m _ (by omega) hmH.out).mono ?_; rintro e w' ⟨rfl, rfl⟩)
    go_loopw [9, 10] (fun cv i wr => ∃ (k d : Nat) (c : Int), k ≤ m ∧ i = .int .i64 k ∧ cv = .int .i64 c ∧ wr = w2.drewN d ∧ Hid (Stand a.data.toList b.data.toList k c)) (fun _ i _ => m - (intOf i).toNat)
    case atStart => exact ⟨0, 0, 0, Nat.zero_le _, rfl, rfl, rfl, .inl ⟨rfl, fun j hj => absurd hj (by omega)⟩⟩
    case round =>
      obtain ⟨k, d, c, hk, rfl, rfl, rfl, hst⟩ := hrel
      clear hc0
      by_cases hgo : k < m ∧ c = 0
      · obtain ⟨hkm, rfl⟩ := hgo
        obtain ⟨x, hx⟩ : ∃ x, x = wordAt a.data.toList k := ⟨_, rfl⟩
        obtain ⟨y, hy⟩ : ∃ y, y = wordAt b.data.toList k := ⟨_, rfl⟩
        have hcx : w2.cell? ⟨w.heap.size, k, none⟩ = some (.int .u64 (x : Nat)) := by rw [hx]; exact hC1'.out k hkm
        have hcy : w2.cell? ⟨w1.heap.size, k, none⟩ = some (.int .u64 (y : Nat)) := by rw [hy]; exact hC2.out k hkm
        have kL := Lib.hid (stand_less hst.out hlenH.out)
        have kG := Lib.hid (stand_more hst.out hlenH.out)
        have kE := Lib.hid (stand_same hst.out)
        rw [← hx, ← hy] at kL kG kE
        clear hx hy
        rcases Nat.lt_trichotomy x y with hxy | hxy | hxy
        · have e1 : decide (x < y) = true := by simp; omega
          have e2 : decide (y < x) = false := by simp; omega
          have kk := Lib.hid (kL.out hxy)
          clear hxy
          go_wp2_with fail
          go_quiet (fail)
          go_wp2_with fail
          go_quiet (fail)
          go_wp2
          go_roundw
          case rel => exact ⟨k + 1, _, -1, by omega, by go_num, rfl, by first | rfl | exact World.drewN_drewN .. | exact (World.drewN_drewN ..).trans (World.drewN_drewN ..), kk⟩
          case measure => simp [intOf]; omega
        · have e1 : decide (x < y) = false := by simp; omega
          have e2 : decide (y < x) = false := by simp; omega
          have kk := Lib.hid (kE.out hxy)
          clear hxy
          go_wp2_with fail
          go_quiet (fail)
          go_wp2_with fail
          go_quiet (fail)
          go_wp2
          go_roundw
          case rel => exact ⟨k + 1, _, 0, by omega, by go_num, rfl, by first | rfl | exact World.drewN_drewN .. | exact (World.drewN_drewN ..).trans (World.drewN_drewN ..), kk⟩
          case measure => simp [intOf]; omega
        · have e1 : decide (x < y) = false := by simp; omega
          have e2 : decide (y < x) = true := by simp; omega
          have kk := Lib.hid (kG.out hxy)
          clear hxy
          go_wp2_with fail
          go_quiet (fail)
          go_wp2_with fail
          go_quiet (fail)
          go_wp2
          go_roundw
          case rel => exact ⟨k + 1, _, 1, by omega, by go_num, rfl, by first | rfl | exact World.drewN_drewN .. | exact (World.drewN_drewN ..).trans (World.drewN_drewN ..), kk⟩
          case measure => simp [intOf]; omega
      · have hfin : c = cmp a b := hend.out k c hst.out (by omega)
        have hcm : Hid (∀ w, Calls Try.prog 17 #[.string a, .string b] w fun e w' => e = .returned (.int .i64 c) ∧ w = w') := by rw [hfin]; exact hcmp.out
        have dcc : (c == c) = true := by simp
        clear hfin hst
        by_cases hkm : k < m
        · have hc0 : (c == 0) = false := by simp; omega
          have hkm2 : decide ((k : Int) < (m : Int)) = true := by simp; omega
          clear hgo
          go_wp2_with (first | (go_at_call 17; refine (hcm.out _).mono ?_; rintro e w' ⟨rfl, rfl⟩) | (go_at_call 10; refine (awake_any _).mono ?_; rintro e w' ⟨rfl, hb⟩))
          go_ret
          exact ⟨rfl, hB2.out.trans (((drewN_below w2 d).trans (hb.mono (Nat.le_refl _))).mono hB2.out.size)⟩
        · have hge : (m : Int) ≤ (k : Int) := by omega
          clear hgo
          go_wp2_with (first | (go_at_call 17; refine (hcm.out _).mono ?_; rintro e w' ⟨rfl, rfl⟩) | (go_at_call 10; refine (awake_any _).mono ?_; rintro e w' ⟨rfl, hb⟩))
          go_ret
          exact ⟨rfl, hB2.out.trans (((drewN_below w2 d).trans (hb.mono (Nat.le_refl _))).mono hB2.out.size)⟩
  · have d2 : ((b.size : Int) != (a.size : Int)) = true := by simp; omega
    go_enter Try.func8, Try.ntmps8
    go_wp2_with (go_at_call 10; refine (awake_any _).mono ?_; rintro e w' ⟨rfl, hb⟩)
    go_ret
    exact ⟨rfl, hb⟩
end Go.Proofs.Ytiilapdkehplbaa
