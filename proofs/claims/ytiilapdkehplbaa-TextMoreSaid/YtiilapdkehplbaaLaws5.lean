/- The walk of TextMore. -/
import Derived.Test.YtiilapdkehplbaaLaws4
set_option linter.unusedVariables false
namespace Go.Proofs.Ytiilapdkehplbaa
open Go.RowKit
theorem words_head (L : List UInt8) : (wordsL L)[0]?.getD 0 = L.length := by
  rw [wordsL_get _ _ (by unfold many; omega)]
  simp [wordAt]
/-- a row of another number of words is no text -/
theorem no_text (l : List Nat) (x : Nat) (h0 : l ≠ [] → l[0]?.getD 0 = x) (hl : l.length ≠ many x) : ¬ isText l := by
  rintro ⟨h1, _, h3, _⟩
  rw [h0 h1] at h3
  exact hl h3.symm
theorem own_slice {w : World} {B e size n : Nat} {v : Value} {xs : List Value} (h : w.ownsRow B e size v n xs) : ∃ A c, v = .slice A n c := by
  rcases h.2 with ⟨hv, hn⟩ | ⟨g, cap, cur, hv, _⟩
  · exact ⟨none, 0, by rw [hv, hn]⟩
  · exact ⟨_, _, hv⟩
theorem own_form {w : World} {B e size n : Nat} {v : Value} {xs : List Value} (h : w.ownsRow B e size v n xs) (hn : 0 < n) : ∃ g c, v = .slice (some ⟨g, 0, none⟩) n c ∧ B ≤ g ∧ g < w.heap.size := by
  rcases h.2 with ⟨_, h0⟩ | ⟨g, cap, cur, hv, hb, hg, _⟩
  · omega
  · exact ⟨g, cap, hv, hb, lt_of_block hg⟩
theorem own_empty (w : World) (B : Nat) (hB : B ≤ w.heap.size) : (w.alloc (.cells #[] 37)).ownsRow B 37 1 (.slice (some ⟨w.heap.size, 0, none⟩) 0 0) 0 [] :=
  ⟨rfl, .inr ⟨w.heap.size, 0, #[], rfl, hB, heap_alloc_new w _, Nat.le_refl _, by unfold maxLen; omega, rfl, rfl⟩⟩
theorem words_cells (s : ByteArray) (m g : Nat) (w1 W : World) (hm : m = many s.size) (hc : ∀ j, j < m → w1.cell? ⟨g, j, none⟩ = some (.int .u64 (wordAt s.data.toList j : Nat))) (hW : ∀ j, j < m → W.cell? ⟨g, j, none⟩ = w1.cell? ⟨g, j, none⟩) :
    ∀ j u, (nums (wordsL s.data.toList))[j]? = some u → W.cell? ((⟨g, 0, none⟩ : Addr).add j) = some u := by
  intro j u hj
  have hadd : (⟨g, 0, none⟩ : Addr).add j = ⟨g, j, none⟩ := by unfold Addr.add; split <;> simp_all
  have hlt : j < m := by
    have := (List.getElem?_eq_some_iff.1 hj).1
    rwa [nums_length, wordsL_length, size_list, ← hm] at this
  rw [hadd, hW j hlt, hc j hlt, ← hj]
  unfold nums
  rw [List.getElem?_map, wordsL_get _ _ (by rw [size_list, ← hm]; exact hlt)]
  rfl
set_option maxHeartbeats 4000000 in
set_option maxRecDepth 100000 in
theorem more_main (s : ByteArray) (x : Nat) (cut : Int) (w : World) (hs : s.size ≤ 300) (hx : x ≤ 18446744073709551615) (hc1 : -9223372036854775808 ≤ cut) (hc2 : cut ≤ 9223372036854775807) :
    Calls Try.prog 9 #[.string s, .int .u64 x, .int .i64 cut] w (Yes w) := by
  obtain ⟨m, hm⟩ : ∃ m, m = many s.size := ⟨_, rfl⟩
  have hmb : m ≤ 39 := by rw [hm]; unfold many; omega
  have hmp : 0 < m := by rw [hm]; unfold many; omega
  have hW := Lib.hid (words_at s w (by omega))
  rw [← hm] at hW
  have hmH := Lib.hid hm
  have hxH := Lib.hid hx
  clear hm hx
  have d1 : decide ((300 : Int) < (s.size : Int)) = false := by simp; omega
  have d2 : ((m : Int) == 0) = false := by simp; omega
  have t1 : cut.tmod m < m := Int.tmod_lt_of_pos _ (by omega)
  have t2 : -(m : Int) < cut.tmod m := by have := Int.tmod_lt_of_pos (-cut) (show (0 : Int) < m by omega); rw [Int.neg_tmod] at this; omega
  have hmi : (m : Int) ≤ 39 := by omega
  have hmi1 : (1 : Int) ≤ m := by omega
  obtain ⟨i0, hi, hz0, hz1, hz2⟩ := info_parts hinfo37
  go_enter Try.func9, Try.ntmps9
  go_wp2_with fail
  refine (hW.out).mono ?_
  rintro e w1 ⟨rfl, hc1, hb1, hz⟩
  have hC1 := Lib.hid hc1
  have hB1 := Lib.hid hb1
  clear hc1 hb1
  have hNH := Lib.hid (fun (W : World) (hW : ∀ j, j < m → W.cell? ⟨w.heap.size, j, none⟩ = w1.cell? ⟨w.heap.size, j, none⟩) => words_cells s m w.heap.size w1 W hmH.out hC1.out hW)
  have hnl : (nums (wordsL s.data.toList)).length = m * 1 := by rw [nums_length, wordsL_length, size_list, Nat.mul_one]; exact hmH.out.symm
  have hNL := Lib.hid hnl
  clear hnl
  go_wp2_with (first
    | (at_builtin; refine wpList_append_own _ rfl (.tmp 41) (.tmp 42) 23 rfl w1.heap.size 37 i0 (.int .u64 0) 1 8 Try.underlying23 hi hz0 hz1 hz2 rfl (by decide) _ _ _ rfl (own_empty w1 _ (Nat.le_refl _)) ⟨w.heap.size, 0, none⟩ m m (nums (wordsL s.data.toList)) rfl hNL.out (hNH.out _ (fun j hj => World.cell?_alloc_lt _ _ _ hz)) (nums_one _) (by unfold maxLen; omega) (by omega) (by simp) ?_; intro v2 w2 hown2 hgrow2 _; simp only [Nat.zero_add, List.nil_append] at hown2)
    | (at_builtin; refine wpList_append_own _ rfl (.tmp 43) (.tmp 45) 23 rfl w1.heap.size 37 i0 (.int .u64 0) 1 8 Try.underlying23 hi hz0 hz1 hz2 rfl (by decide) _ _ _ rfl (hown2.alloc _) ⟨w2.heap.size, 0, none⟩ 1 1 [.int .u64 (x : Nat)] rfl rfl (cell_one_new _ _ _) (one_int _ _) (by unfold maxLen; omega) (by omega) (by have := hgrow2.size; simp at this ⊢; omega) ?_; intro v3 w3 hown3 hgrow3 _)
    | fail)
  obtain ⟨A3, c3, hv3⟩ := own_slice hown3
  have hl3 : nums (wordsL s.data.toList) ++ [.int .u64 (x : Nat)] = nums (wordsL s.data.toList ++ [x]) := by simp [nums]
  rw [hl3, hv3] at hown3
  rw [hv3]
  have hb2 : Below w1.heap.size w1 w2 := ((Below.refl _ w1).alloc (Nat.le_refl _) _).grown hgrow2 (by simp) (fun k e => by cases e; exact Nat.le_refl _)
  have hb3 : Below w1.heap.size w1 w3 := (hb2.alloc hb2.size _).grown hgrow3 (by have := hb2.size; simp; omega) (fun k e => (hown2.lt k e).1)
  have hlen := size_list s
  have hwl : (wordsL s.data.toList).length = m := by rw [wordsL_length, hlen]; exact hmH.out.symm
  have hw0 : (wordsL s.data.toList)[0]?.getD 0 = s.size := by rw [words_head, hlen]
  have hno1 : ¬ isText (wordsL s.data.toList ++ [x]) := no_text _ s.size (fun _ => by rw [List.getElem?_append_left (by omega)]; exact hw0) (by rw [List.length_append, hwl, ← hmH.out]; simp)
  have ho1 := Lib.hid ((of_any A3 c3 (m + 1) (wordsL s.data.toList ++ [x]) w3 (by rw [List.length_append, hwl]; rfl) (by rw [List.length_append, hwl]; simp; omega) (u64s_of_own hown3) (lt_of_all fun y hy => by
    rcases List.mem_append.1 hy with h | h
    · obtain ⟨j, hj, e⟩ := List.getElem_of_mem h
      have := wordsL_lt s (by omega) j
      rw [List.getElem?_eq_getElem hj, e] at this
      exact this
    · have := hxH.out
      simp at h
      omega)).1)
  have hR1 := Lib.hid (ofR_no hno1)
  have hB3 := Lib.hid hb3
  have hW0 := Lib.hid hw0
  have hWL := Lib.hid hwl
  clear hown3 hown2 hgrow2 hgrow3 hl3 hv3 hb2 hb3 hlen hwl hw0 hno1
  refine (ho1.out).mono ?_
  rintro e w4 ⟨rfl, hb4⟩
  rw [hR1.out]
  have hB4 := Lib.hid (hB3.out.trans (hb4.mono hB3.out.size))
  clear hb4 ho1 hR1
  have hk0 : 0 ≤ cut.tmod m % m := Int.emod_nonneg _ (by omega)
  have hk1 : cut.tmod m % m < m := Int.emod_lt_of_pos _ (by omega)
  obtain ⟨q, hq⟩ := Int.eq_ofNat_of_zero_le hk0
  rw [hq] at hk1
  have hqm : q < m := by omega
  clear hk0
  go_wp2_with fail
  have hcells : ∀ j, j < m → w4.cell? ⟨w.heap.size, j, none⟩ = some (.int .u64 (wordAt s.data.toList j : Nat)) := fun j hj => (hB4.out.cell (p := ⟨w.heap.size, j, none⟩) hz).trans (hC1.out j hj)
  have htk : ((wordsL s.data.toList).take q).length = q := by rw [List.length_take, hWL.out]; omega
  have hget : ∀ j : Nat, j < q → ((wordsL s.data.toList).take q)[j]?.getD 0 = wordAt s.data.toList j := fun j hj => by
    rw [List.getElem?_take, if_pos hj, wordsL_get _ _ (by rw [size_list, ← hmH.out]; omega)]
    rfl
  have hno2 : ¬ isText ((wordsL s.data.toList).take q) := no_text _ s.size (fun hne => by
    have hq0 : 0 < q := by
      rcases Nat.eq_zero_or_pos q with h | h
      · exact absurd (by rw [h, List.take_zero]) hne
      · exact h
    rw [hget 0 hq0]
    simp [wordAt]) (by rw [htk, ← hmH.out]; omega)
  have ho2 := Lib.hid ((of_any (some ⟨w.heap.size, 0, none⟩) m q ((wordsL s.data.toList).take q) w4 htk.symm (by rw [htk]; omega) (.inr ⟨_, _, rfl, Nat.lt_of_lt_of_le hz hB4.out.size, fun j hj => by
    rw [htk] at hj
    rw [hget j hj, Nat.zero_add]
    exact hcells j (by omega)⟩) (lt_of_all fun y hy => by
      obtain ⟨j, hj, e⟩ := List.getElem_of_mem (List.mem_of_mem_take hy)
      have := wordsL_lt s (by omega) j
      rw [List.getElem?_eq_getElem hj, e] at this
      exact this)).1)
  have hR2 := Lib.hid (ofR_no hno2)
  clear hcells htk hget hno2
  refine (ho2.out).mono ?_
  rintro e w5 ⟨rfl, hb5⟩
  rw [hR2.out]
  have hB5 := Lib.hid (hB4.out.trans (hb5.mono hB4.out.size))
  have hsz5 := hB5.out.size
  have hz5 : w.heap.size < w5.heap.size := by omega
  have hsame5 : ∀ j, j < m → w5.cell? ⟨w.heap.size, j, none⟩ = w1.cell? ⟨w.heap.size, j, none⟩ := fun j hj => hB5.out.cell (p := ⟨w.heap.size, j, none⟩) hz
  have hS5 := Lib.hid hsame5
  clear hb5 ho2 hR2 hsame5
  have hN0 : (nums (wordsL s.data.toList))[0]? = some (.int .u64 (s.size : Nat)) := by
    unfold nums
    rw [List.getElem?_map, wordsL_get _ _ (by unfold many; omega)]
    simp [wordAt]
  go_wp2_with (first
    | (at_builtin; refine wpList_append_own _ rfl (.tmp 67) (.tmp 68) 23 rfl w5.heap.size 37 i0 (.int .u64 0) 1 8 Try.underlying23 hi hz0 hz1 hz2 rfl (by decide) _ _ _ rfl (own_empty w5 _ (Nat.le_refl _)) ⟨w.heap.size, 0, none⟩ m m (nums (wordsL s.data.toList)) rfl hNL.out (hNH.out _ (fun j hj => (World.cell?_alloc_lt _ _ _ hz5).trans (hS5.out j hj))) (nums_one _) (by unfold maxLen; omega) (by omega) (by simp) ?_; intro v6 w6 hown6 hgrow6 _; simp only [Nat.zero_add, List.nil_append] at hown6; obtain ⟨g6, cap6, hv6, hg6, hlt6⟩ := own_form hown6 hmp; rw [hv6]; rw [hv6] at hown6; have hcl := hown6.cellAt 0 (by omega); have hfr := hown6.frozenAt 0; rw [hN0] at hcl)
    | fail)
  obtain ⟨hst, hgs⟩ := hown6.stored 0 (.int .u64 (x : Nat))
  obtain ⟨l7, hl7⟩ : ∃ l7, l7 = (wordsL s.data.toList).set 0 x := ⟨_, rfl⟩
  have hnl7 : (nums (wordsL s.data.toList)).set 0 (.int .u64 (x : Nat)) = nums l7 := by rw [hl7]; unfold nums; rw [List.map_set]
  rw [hnl7] at hst
  have hlen7 : m = l7.length := by rw [hl7, List.length_set, hWL.out]
  have h07 : l7[0]?.getD 0 = x := by rw [hl7, List.getElem?_set_self (by rw [hWL.out]; exact hmp)]; rfl
  have hb6 : Below w5.heap.size w5 w6 := ((Below.refl _ w5).alloc (Nat.le_refl _) _).grown hgrow6 (by simp) (fun k e => by cases e; exact Nat.le_refl _)
  have hb7 : Below w5.heap.size w5 (w6.setCell ⟨g6, 0, none⟩ (.int .u64 (x : Nat))) := hb6.setCell (p := ⟨g6, 0, none⟩) hg6 _
  have ho7 := (of_any (some ⟨g6, 0, none⟩) cap6 m l7 _ hlen7 (by omega) (u64s_of_own (by rw [← hlen7] at *; exact hst)) (lt_of_all fun y hy => by
    rw [hl7] at hy
    rcases List.mem_or_eq_of_mem_set hy with h | h
    · obtain ⟨j, hj, e⟩ := List.getElem_of_mem h
      have := wordsL_lt s (by omega) j
      rw [List.getElem?_eq_getElem hj, e] at this
      exact this
    · have := hxH.out
      omega)).1
  have ho7 := Lib.hid ho7
  have hB7 := Lib.hid (hB5.out.trans (hb7.mono hB5.out.size))
  by_cases ht : isText l7
  · have hx1 : x ≤ 1000 := by have := ht.2.1; rwa [h07] at this
    have hmx : Hid (m = many x) := by have := ht.2.2.1; rw [h07] at this; rw [this]; exact hlen7
    have hsz7 : (textOf l7).size = x := by unfold textOf; rw [strOf_size, h07]
    have hR7 := Lib.hid (ofR_yes ht)
    clear ht hst hgs hl7 hnl7 hlen7 h07 hb6 hb7 hown6 hgrow6 hcl hfr
    generalize textOf l7 = t at hR7 hsz7
    have hszH := Lib.hid hsz7
    have hlent : ∀ W, (Builtin.len_ #[9] 3 #[.string t]).run Try.prog W = .ok (.int .i64 (x : Nat)) W := fun W => by
      rw [run_len_string W 9 3 t Try.underlying9, hszH.out]; rfl
    clear hsz7
    refine (ho7.out).mono ?_
    rintro e w8 ⟨rfl, hb8⟩
    rw [hR7.out]
    have hB8 := Lib.hid (hB7.out.trans (hb8.mono hB7.out.size))
    clear hb8
    have d6 : ((x : Int) == (x : Int)) = true := by simp
    have d7 : ((m : Int) == (m : Int)) = true := by simp
    go_wp2_with (first | (go_at_call 14; refine (many_nat x m _ hx1 hmx).mono ?_; rintro e w' ⟨rfl, rfl⟩) | (go_at_call 10; refine (awake_any _).mono ?_; rintro e w' ⟨rfl, hb⟩))
    go_ret
    exact ⟨rfl, hB1.out.trans ((hB8.out.trans (hb.mono hB8.out.size)).mono hB1.out.size)⟩
  · have hR7 := Lib.hid (ofR_no ht)
    clear ht hst hgs hl7 hnl7 hlen7 h07 hb6 hb7 hown6 hgrow6 hcl hfr
    refine (ho7.out).mono ?_
    rintro e w8 ⟨rfl, hb8⟩
    rw [hR7.out]
    have hB8 := Lib.hid (hB7.out.trans (hb8.mono hB7.out.size))
    clear hb8
    go_wp2_with (go_at_call 10; refine (awake_any _).mono ?_; rintro e w' ⟨rfl, hb⟩)
    go_ret
    exact ⟨rfl, hB1.out.trans ((hB8.out.trans (hb.mono hB8.out.size)).mono hB1.out.size)⟩
set_option maxRecDepth 100000 in
theorem textMore_walk (s : ByteArray) (x cut : Int) (w : World) (hs : s.size ≤ 9223372036854775807) (hx : 0 ≤ x) (hx2 : x ≤ 18446744073709551615) (hc1 : -9223372036854775808 ≤ cut) (hc2 : cut ≤ 9223372036854775807) :
    Calls Try.prog 9 #[.string s, .int .u64 x, .int .i64 cut] w (Yes w) := by
  by_cases h : s.size ≤ 300
  · obtain ⟨n, rfl⟩ := Int.eq_ofNat_of_zero_le hx
    exact more_main s n cut w h (by omega) hc1 hc2
  · have d1 : decide ((300 : Int) < (s.size : Int)) = true := by simp; omega
    have hW := Lib.hid (words_a s w hs)
    clear hx hx2 h
    go_enter Try.func9, Try.ntmps9
    go_wp2_with fail
    refine (hW.out).mono ?_
    rintro e w1 ⟨A1, c1, rfl, hu1, hb1⟩
    generalize (wordsR s).length = zl
    generalize errR s = ze
    clear hu1
    go_wp2_with (go_at_call 10; refine (awake_any _).mono ?_; rintro e w' ⟨rfl, hb⟩)
    go_ret
    exact ⟨rfl, hb1.trans (hb.mono hb1.size)⟩
theorem u64_bound {n : Int} (h : (Lit.int .u64 n).wf = true) : 0 ≤ n ∧ n ≤ 18446744073709551615 := by
  simpa [Lit.wf, IntKind.min, IntKind.max, IntKind.signed, IntKind.bits] using h
end Go.Proofs.Ytiilapdkehplbaa
