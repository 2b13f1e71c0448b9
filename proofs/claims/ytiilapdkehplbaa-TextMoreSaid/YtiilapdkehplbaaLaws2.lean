/- The walks of TextOf, TextCompare, TextBack. -/
import Derived.Test.YtiilapdkehplbaaLaws
set_option linter.unusedVariables false
namespace Go.Proofs.Ytiilapdkehplbaa
open Go.RowKit
def Small (l : List Nat) : Prop := ∀ j : Nat, l[j]?.getD 0 < 18446744073709551616
set_option maxHeartbeats 2000000 in
set_option maxRecDepth 100000 in
theorem textOf_walk (A : Option Addr) (n c : Nat) (l : List Nat) (w : World) (hn : n = l.length) (hl : l.length ≤ 9223372036854775807) (h : U64s w A l) (hlt : Small l) :
    Calls Try.prog 4 #[.slice A n c] w (Yes w) := by
  by_cases hbig : 200 < n
  · have hb2 : (200 : Int) < (n : Int) := by omega
    rw [← hn] at hl
    clear hn
    go_enter Try.func4, Try.ntmps4
    go_wp2_with (go_at_call 10; refine (awake_any _).mono ?_; rintro e w' ⟨rfl, hb⟩)
    go_ret
    exact ⟨rfl, hb⟩
  · have hle : n ≤ 200 := by omega
    have h1 := Lib.hid ((of_any A c n l w hn (by omega) h hlt).1)
    have h2 := Lib.hid (fun w2 (hu : U64s w2 A l) => (of_any A c n l w2 hn (by omega) hu hlt).2)
    have hu := Lib.hid h
    clear h hlt hn hl
    by_cases ht : isText l
    · have hR := ofR_yes ht
      have hRH := Lib.hid hR
      clear hR ht
      generalize textOf l = t at hRH
      go_enter Try.func4, Try.ntmps4
      go_wp2_with fail
      refine (h1.out).mono ?_
      rintro e w1 ⟨rfl, hb1⟩
      rw [hRH.out]
      have hB := Lib.hid hb1
      clear hb1
      go_wp2_with fail
      refine (h2.out w1 (hu.out.below hB.out)).mono ?_
      rintro e w2 ⟨rfl, hb2⟩
      rw [hRH.out]
      have hB2 := Lib.hid (hB.out.trans (hb2.mono hB.out.size))
      clear hb2
      go_wp2_with (go_at_call 10; refine (awake_any _).mono ?_; rintro e w' ⟨rfl, hb⟩)
      go_ret
      exact ⟨rfl, hB2.out.trans (hb.mono hB2.out.size)⟩
    · have hR := ofR_no ht
      have hRH := Lib.hid hR
      clear hR ht
      go_enter Try.func4, Try.ntmps4
      go_wp2_with fail
      refine (h1.out).mono ?_
      rintro e w1 ⟨rfl, hb1⟩
      rw [hRH.out]
      have hB := Lib.hid hb1
      clear hb1
      go_wp2_with fail
      refine (h2.out w1 (hu.out.below hB.out)).mono ?_
      rintro e w2 ⟨rfl, hb2⟩
      rw [hRH.out]
      have hB2 := Lib.hid (hB.out.trans (hb2.mono hB.out.size))
      clear hb2
      go_wp2_with (go_at_call 10; refine (awake_any _).mono ?_; rintro e w' ⟨rfl, hb⟩)
      go_ret
      exact ⟨rfl, hB2.out.trans (hb.mono hB2.out.size)⟩
set_option maxHeartbeats 2000000 in
set_option maxRecDepth 100000 in
theorem textCompare_walk (a b : ByteArray) (w : World) (ha : a.size ≤ 9223372036854775807) (hb : b.size ≤ 9223372036854775807) :
    Calls Try.prog 5 #[.string a, .string b] w (Yes w) := by
  have h1 := Lib.hid (cmp_any a b)
  have h2 := Lib.hid (refCmp_any a b)
  generalize Lib.compareBytes a.data.toList b.data.toList = C at h1 h2
  by_cases hbig : 2000 < a.size
  · have hd : decide ((2000 : Int) < (a.size : Int)) = true := by simp; omega
    go_enter Try.func5, Try.ntmps5
    go_wp2_with (go_at_call 10; refine (awake_any _).mono ?_; rintro e w' ⟨rfl, hb⟩)
    go_ret
    exact ⟨rfl, hb⟩
  · have hd : decide ((2000 : Int) < (a.size : Int)) = false := by simp; omega
    by_cases hbig2 : 2000 < b.size
    · have hd2 : decide ((2000 : Int) < (b.size : Int)) = true := by simp; omega
      go_enter Try.func5, Try.ntmps5
      go_wp2_with (go_at_call 10; refine (awake_any _).mono ?_; rintro e w' ⟨rfl, hb⟩)
      go_ret
      exact ⟨rfl, hb⟩
    · have hd2 : decide ((2000 : Int) < (b.size : Int)) = false := by simp; omega
      go_enter Try.func5, Try.ntmps5
      go_wp2_with fail
      refine (h1.out w).mono ?_
      rintro e w1 ⟨rfl, rfl⟩
      go_wp2_with fail
      refine (h2.out w ha hb).mono ?_
      rintro e w2 ⟨rfl, d, rfl⟩
      go_wp2_with (go_at_call 10; refine (awake_any _).mono ?_; rintro e w' ⟨rfl, hb⟩)
      go_ret
      exact ⟨rfl, (drewN_below w d).trans (hb.mono (Nat.le_refl _))⟩
theorem text_words (s : ByteArray) (hs : s.size ≤ 1000) : isText (wordsL s.data.toList) ∧ textOf (wordsL s.data.toList) = s := by
  have hlen := size_list s
  have h0 : (wordsL s.data.toList)[0]?.getD 0 = s.size := by
    rw [wordsL_get _ _ (by unfold many; omega)]
    simp [wordAt]
  have hu := unpL_words s.data.toList
  rw [hlen] at hu
  refine ⟨⟨fun e => ?_, by rw [h0]; exact hs, by rw [h0, wordsL_length, hlen], by rw [h0, hu]⟩, ?_⟩
  · have := wordsL_length s.data.toList
    rw [e, hlen] at this
    unfold many at this
    simp at this
    omega
  · unfold textOf strOf
    rw [h0, hu]
theorem wordsR_text {l : List Nat} (h : isText l) : wordsR (textOf l) = l ∧ errR (textOf l) = 0 ∧ (textOf l).size ≤ 9223372036854775807 := by
  obtain ⟨_, h1, _, h3⟩ := h
  have hsz : (textOf l).size = l[0]?.getD 0 := strOf_size _ _
  refine ⟨?_, ?_, by omega⟩
  · unfold wordsR
    rw [if_pos (by omega)]
    exact h3
  · unfold errR
    rw [if_pos (by omega)]
theorem same_n (A A' : Option Addr) (c c' n : Nat) (l : List Nat) (w : World) (hn : n = l.length) (hl : l.length ≤ 200) (h : U64s w A l) (h' : U64s w A' l) :
    Calls Try.prog 13 #[.slice A n c, .slice A' n c'] w fun e w' => e = .returned (.bool true) ∧ Below w.heap.size w w' := by
  subst hn
  exact same_self A A' c c' l w (by omega) h h'
theorem back_bool (t s : ByteArray) (h : t = s) : (t.toList == s.toList) = true := by rw [h]; simp
set_option maxHeartbeats 2000000 in
set_option maxRecDepth 100000 in
theorem textBack_walk (s : ByteArray) (A : Option Addr) (n c : Nat) (l : List Nat) (w : World) (hs : s.size ≤ 9223372036854775807) (hn : n = l.length) (hl : l.length ≤ 9223372036854775807) (h : U64s w A l) (hlt : Small l) :
    Calls Try.prog 6 #[.string s, .slice A n c] w (Yes w) := by
  by_cases hbig : 2000 < s.size
  · have hd : decide ((2000 : Int) < (s.size : Int)) = true := by simp; omega
    clear hn hlt h
    go_enter Try.func6, Try.ntmps6
    go_wp2_with (go_at_call 10; refine (awake_any _).mono ?_; rintro e w' ⟨rfl, hb⟩)
    go_ret
    exact ⟨rfl, hb⟩
  have hd : decide ((2000 : Int) < (s.size : Int)) = false := by simp; omega
  by_cases hbig2 : 200 < n
  · have hd2 : decide ((200 : Int) < (n : Int)) = true := by simp; omega
    have hn3 : n ≤ 9223372036854775807 := by omega
    clear hn hlt h hl
    go_enter Try.func6, Try.ntmps6
    go_wp2_with (go_at_call 10; refine (awake_any _).mono ?_; rintro e w' ⟨rfl, hb⟩)
    go_ret
    exact ⟨rfl, hb⟩
  have hd2 : decide ((200 : Int) < (n : Int)) = false := by simp; omega
  have hle : n ≤ 200 := by omega
  have hul := Lib.hid h
  have hlH := Lib.hid hlt
  have hnH := Lib.hid hn
  have hnl := Lib.hid (show l.length ≤ 200 by omega)
  have hwl := wordsR_length s
  have hW := Lib.hid (words_a s w hs)
  have hWt := Lib.hid (fun w2 => words_a (textOf l) w2)
  clear h hlt hn hl
  by_cases h1 : s.size ≤ 1000
  · have hR : wordsR s = wordsL s.data.toList := by unfold wordsR; rw [if_pos h1]
    have hE : errR s = 0 := by unfold errR; rw [if_pos h1]
    obtain ⟨htx, hto⟩ := text_words s h1
    rw [← hR] at htx hto
    have hofR := ofR_yes htx
    rw [hto] at hofR
    have hof := Lib.hid hofR
    have hEH := Lib.hid hE
    obtain ⟨m, hm⟩ : ∃ m, m = (wordsR s).length := ⟨_, rfl⟩
    have hmm : m = many s.size := by rw [hm, hR, wordsL_length, size_list]
    have hmH := Lib.hid hm
    have hmmH := Lib.hid hmm
    have hdd : decide ((s.size : Int) ≤ 1000) = true := by simp; omega
    clear hofR hE hR htx hto hm hmm
    go_enter Try.func6, Try.ntmps6
    go_wp2_with fail
    refine (hW.out).mono ?_
    rintro e w1 ⟨A1, c1, rfl, hu1, hb1⟩
    rw [hEH.out, ← hmH.out]
    have hU1 := Lib.hid hu1
    have hB1 := Lib.hid hb1
    clear hu1 hb1
    go_wp2_with fail
    refine ((of_any A1 c1 m (wordsR s) w1 hmH.out (by omega) hU1.out (wordsR_lt s)).1).mono ?_
    rintro e w2 ⟨rfl, hb2⟩
    rw [hof.out]
    have hB2 := Lib.hid (hB1.out.trans (hb2.mono hB1.out.size))
    clear hb2
    have hss : (s.toList == s.toList) = true := back_bool s s rfl
    go_wp2_with (go_at_call 14; refine (many_nat s.size m _ h1 hmmH.out).mono ?_; rintro e w' ⟨rfl, rfl⟩)

    by_cases ht : isText l
    · have hofl := Lib.hid (ofR_yes ht)
      obtain ⟨hWR, hER, htsz⟩ := wordsR_text ht
      have hWRH := Lib.hid hWR
      have hERH := Lib.hid hER
      clear ht hWR hER
      generalize textOf l = t at hofl hWRH hERH htsz hWt
      refine ((of_any A c n l w2 hnH.out hnl.out (hul.out.below hB2.out) hlH.out).1).mono ?_
      rintro e w3 ⟨rfl, hb3⟩
      rw [hofl.out]
      have hB3 := Lib.hid (hB2.out.trans (hb3.mono hB2.out.size))
      clear hb3
      go_wp2_with fail
      refine (hWt.out w3 htsz).mono ?_
      rintro e w4 ⟨A4, c4, rfl, hu4, hb4⟩
      rw [hWRH.out] at hu4
      rw [hWRH.out, hERH.out, ← hnH.out]
      have hB4 := Lib.hid (hB3.out.trans (hb4.mono hB3.out.size))
      have hQ := Lib.hid (same_n A4 A c4 c n l w4 hnH.out hnl.out hu4 (hul.out.below hB4.out))
      clear hb4 hu4
      go_wp2_with (first | (go_at_call 13; refine (hQ.out).mono ?_; rintro e w5 ⟨rfl, hb5⟩) | (go_at_call 10; refine (awake_any _).mono ?_; rintro e w' ⟨rfl, hb⟩))
      go_ret
      exact ⟨rfl, (hB4.out.trans (hb5.mono hB4.out.size)).trans (hb.mono (Nat.le_trans hB4.out.size hb5.size))⟩
    · have hofl := Lib.hid (ofR_no ht)
      clear ht
      refine ((of_any A c n l w2 hnH.out hnl.out (hul.out.below hB2.out) hlH.out).1).mono ?_
      rintro e w3 ⟨rfl, hb3⟩
      rw [hofl.out]
      have hB3 := Lib.hid (hB2.out.trans (hb3.mono hB2.out.size))
      clear hb3
      go_wp2_with fail
      refine (words_a ⟨#[]⟩ w3 (by decide)).mono ?_
      rintro e w4 ⟨A4, c4, rfl, hu4, hb4⟩
      have hB4 := Lib.hid (hB3.out.trans (hb4.mono hB3.out.size))
      generalize (wordsR ⟨#[]⟩).length = zl
      generalize errR ⟨#[]⟩ = ze
      clear hb4 hu4
      go_wp2_with (go_at_call 10; refine (awake_any _).mono ?_; rintro e w' ⟨rfl, hb⟩)
      all_goals
        go_ret
        exact ⟨rfl, hB4.out.trans (hb.mono hB4.out.size)⟩
  · have hR : wordsR s = [] := by unfold wordsR; rw [if_neg h1]
    have hE : errR s = 4 := by unfold errR; rw [if_neg h1]
    have hof := Lib.hid (ofR_no (l := []) (fun e => e.1 rfl))
    have hEH := Lib.hid hE
    have hRH := Lib.hid hR
    have hdd : decide ((s.size : Int) ≤ 1000) = false := by simp; omega
    clear hE hR
    go_enter Try.func6, Try.ntmps6
    go_wp2_with fail
    refine (hW.out).mono ?_
    rintro e w1 ⟨A1, c1, rfl, hu1, hb1⟩
    rw [hRH.out] at hu1
    rw [hEH.out, hRH.out, List.length_nil]
    have hU1 := Lib.hid hu1
    have hB1 := Lib.hid hb1
    clear hu1 hb1
    go_wp2_with fail
    refine ((of_any A1 c1 0 [] w1 rfl (by decide) hU1.out (lt_of_all (by simp))).1).mono ?_
    rintro e w2 ⟨rfl, hb2⟩
    rw [hof.out]
    have hB2 := Lib.hid (hB1.out.trans (hb2.mono hB1.out.size))
    clear hb2
    go_wp2_with fail
    by_cases ht : isText l
    · have hofl := Lib.hid (ofR_yes ht)
      obtain ⟨hWR, hER, htsz⟩ := wordsR_text ht
      have hWRH := Lib.hid hWR
      have hERH := Lib.hid hER
      clear ht hWR hER
      generalize textOf l = t at hofl hWRH hERH htsz hWt
      refine ((of_any A c n l w2 hnH.out hnl.out (hul.out.below hB2.out) hlH.out).1).mono ?_
      rintro e w3 ⟨rfl, hb3⟩
      rw [hofl.out]
      have hB3 := Lib.hid (hB2.out.trans (hb3.mono hB2.out.size))
      clear hb3
      go_wp2_with fail
      refine (hWt.out w3 htsz).mono ?_
      rintro e w4 ⟨A4, c4, rfl, hu4, hb4⟩
      rw [hWRH.out] at hu4
      rw [hWRH.out, hERH.out, ← hnH.out]
      have hB4 := Lib.hid (hB3.out.trans (hb4.mono hB3.out.size))
      have hQ := Lib.hid (same_n A4 A c4 c n l w4 hnH.out hnl.out hu4 (hul.out.below hB4.out))
      clear hb4 hu4
      go_wp2_with (first | (go_at_call 13; refine (hQ.out).mono ?_; rintro e w5 ⟨rfl, hb5⟩) | (go_at_call 10; refine (awake_any _).mono ?_; rintro e w' ⟨rfl, hb⟩))
      go_ret
      exact ⟨rfl, (hB4.out.trans (hb5.mono hB4.out.size)).trans (hb.mono (Nat.le_trans hB4.out.size hb5.size))⟩
    · have hofl := Lib.hid (ofR_no ht)
      clear ht
      refine ((of_any A c n l w2 hnH.out hnl.out (hul.out.below hB2.out) hlH.out).1).mono ?_
      rintro e w3 ⟨rfl, hb3⟩
      rw [hofl.out]
      have hB3 := Lib.hid (hB2.out.trans (hb3.mono hB2.out.size))
      clear hb3
      go_wp2_with fail
      refine (words_a ⟨#[]⟩ w3 (by decide)).mono ?_
      rintro e w4 ⟨A4, c4, rfl, hu4, hb4⟩
      have hB4 := Lib.hid (hB3.out.trans (hb4.mono hB3.out.size))
      generalize (wordsR ⟨#[]⟩).length = zl
      generalize errR ⟨#[]⟩ = ze
      clear hb4 hu4
      go_wp2_with (go_at_call 10; refine (awake_any _).mono ?_; rintro e w' ⟨rfl, hb⟩)
      all_goals
        go_ret
        exact ⟨rfl, hB4.out.trans (hb.mono hB4.out.size)⟩
/-- a slice of words that came in -/
theorem row_u64s {w : World} {a : Option Addr} {len cap : Nat} {zs : List Int}
    (h : (a = none ∧ len = 0 ∧ cap = 0 ∧ zs = []) ∨ ∃ x, a = some x ∧ len ≤ cap ∧ cap ≤ maxLen ∧ zs.length = cap ∧ (∀ i, i < zs.length → w.cell? (x.add i) = some (.int .u64 (zs.getD i 0))) ∧ ∀ n ∈ zs, (Lit.int .u64 n).wf = true) :
    ∃ l, len = l.length ∧ l.length ≤ 9223372036854775807 ∧ U64s w a l ∧ Small l := by
  refine ⟨(zs.take len).map Int.toNat, ?_⟩
  rcases h with ⟨rfl, rfl, rfl, rfl⟩ | ⟨x, rfl, hl, hm, hz, hc, hwf⟩
  · exact ⟨rfl, by simp, .inl rfl, lt_of_all (by simp)⟩
  · have hlen : ((zs.take len).map Int.toNat).length = len := by simp; omega
    unfold maxLen at hm
    have hget : ∀ j, j < len → ((zs.take len).map Int.toNat)[j]?.getD 0 = (zs.getD j 0).toNat := fun j hj => by
      have hj2 : j < zs.length := by omega
      simp [hj, hj2]
    have hbd : ∀ j, j < zs.length → 0 ≤ zs.getD j 0 ∧ zs.getD j 0 ≤ 18446744073709551615 := fun j hj => by
      have := hwf (zs.getD j 0) (by simp [List.getD, hj])
      simpa [Lit.wf, IntKind.min, IntKind.max, IntKind.signed, IntKind.bits] using this
    refine ⟨hlen.symm, by omega, ?_, ?_⟩
    · by_cases h0 : len = 0
      · exact .inl (List.eq_nil_of_length_eq_zero (by omega))
      · obtain ⟨b, off, spot⟩ := x
        have hc0 := hc 0 (by omega)
        have hspot : spot = none := by simpa [Addr.add] using World.cell?_spot hc0
        subst hspot
        refine .inr ⟨b, off, rfl, by have := World.block_lt_of_cell? _ _ hc0; simpa [Addr.add] using this, fun j hj => ?_⟩
        rw [hlen] at hj
        have h1 := hc j (by omega)
        have hadd : (⟨b, off, none⟩ : Addr).add j = ⟨b, off + j, none⟩ := by unfold Addr.add; split <;> simp_all
        rw [hadd] at h1
        rw [h1, hget j hj]
        have := hbd j (by omega)
        rw [Int.toNat_of_nonneg this.1]
    · refine lt_of_all fun y hy => ?_
      obtain ⟨z, hz1, rfl⟩ := List.mem_map.1 hy
      have hz2 := List.mem_of_mem_take hz1
      have := hwf z hz2
      have h3 : 0 ≤ z ∧ z ≤ 18446744073709551615 := by simpa [Lit.wf, IntKind.min, IntKind.max, IntKind.signed, IntKind.bits] using this
      omega
theorem int_bound {n : Int} (h : (Lit.int .i64 n).wf = true) : -9223372036854775808 ≤ n ∧ n ≤ 9223372036854775807 := by
  simpa [Lit.wf, IntKind.min, IntKind.max, IntKind.signed, IntKind.bits] using h
end Go.Proofs.Ytiilapdkehplbaa
