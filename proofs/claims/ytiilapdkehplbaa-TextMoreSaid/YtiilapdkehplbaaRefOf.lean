/- The walk of the document's Of. -/
import Derived.Test.YtiilapdkehplbaaRefWords
set_option linter.unusedVariables false
namespace Go.Proofs.Ytiilapdkehplbaa
open Go.RowKit
def eight (x : Nat) : List UInt8 := (List.range 8).map fun j => UInt8.ofNat (x / 256 ^ (7 - j) % 256)
theorem eight_length (x : Nat) : (eight x).length = 8 := by simp [eight]
theorem eight_get (x j : Nat) (h : j < (eight x).length) : (((eight x)[j]).toNat : Int) = ((x / 256 ^ (7 - j) % 256 : Nat) : Int) := by
  have h256 : x / 256 ^ (7 - j) % 256 < 256 := Nat.mod_lt _ (by omega)
  simp only [eight, List.getElem_map, List.getElem_range]
  rw [UInt8.toNat_ofNat', Nat.mod_eq_of_lt h256]
theorem unpL_take (l : List Nat) (x t : Nat) (h : x ≤ t) : (unpL l t).extract 0 x = unpL l x := by
  unfold unpL
  rw [List.extract_eq_take_drop, List.drop_zero, Nat.sub_zero, ← List.map_take, List.take_range, Nat.min_eq_left h]
theorem unpL_eight (l : List Nat) (c : Nat) : unpL l (8 * (c + 1)) = unpL l (8 * c) ++ eight (l[1 + c]?.getD 0) := by
  unfold unpL
  rw [show 8 * (c + 1) = 8 * c + 8 by omega, List.range_add, List.map_append, List.map_map]
  congr 1
  unfold eight
  refine List.map_congr_left fun j hj => ?_
  have hj8 : j < 8 := by simpa using hj
  show UInt8.ofNat (unp l (8 * c + j)) = _
  unfold unp
  rw [show 1 + (8 * c + j) / 8 = 1 + c by omega, show (8 * c + j) % 8 = j by omega, show (256 : Nat) ^ (7 - j) = 2 ^ (8 * (7 - j)) by rw [Nat.pow_mul]]
def byteRow (x r : Nat) (j : Nat) : Value := if 8 - r ≤ j then .int .u8 (x / 256 ^ (7 - j) % 256 : Nat) else .int .u8 0
theorem hmake8 (W : World) : (Instr.makeSlice 40 (.int .i64 8) (.int .i64 8)).run Try.prog W = .ok (.slice (some ⟨W.heap.size, 0, none⟩) 8 8) (W.alloc (.cells (madeCells #[.int .u8 0] 8) 5)) :=
  run_make_row' (P := Try.prog) 40 5 (.int .u8 0) 1 Try.underlying40 hinfo5 rfl .i64 .i64 8 (by omega) (by omega) W
set_option maxRecDepth 100000 in
theorem refOf_main (b o c x m : Nat) (l : List Nat) (w : World) (hn2 : l.length ≤ 200) (hb : b < w.heap.size) (hc : ∀ j, j < l.length → w.cell? ⟨b, o + j, none⟩ = some (.int .u64 (l[j]?.getD 0 : Nat)))
    (hlt : ∀ j : Nat, l[j]?.getD 0 < 18446744073709551616) (hx : x ≤ 1000) (hx0 : Hid (x = l[0]?.getD 0)) (hm : Hid (m = many x)) (hmn : Hid (m = l.length)) (hmp : 0 < m) (hm2 : m ≤ 200) :
    Calls Try.prog 16 #[.slice (some ⟨b, o, none⟩) m c] w fun e w' => e = .returned (.tuple (if wordsL (unpL l x) = l then #[.string (strOf l x), .int .i64 0] else #[.string ⟨#[]⟩, .int .i64 8])) ∧ Below w.heap.size w w' := by
  have hc0 : w.cell? ⟨b, o, none⟩ = some (.int .u64 (x : Nat)) := by have := hc 0 (by rw [← hmn.out]; exact hmp); rw [← hx0.out] at this; exact this
  have hcH := Lib.hid hc
  have hltH := Lib.hid hlt
  clear hc hlt
  have h0 : ((m : Int) == 0) = false := by simp; omega
  have h1 : decide ((1000 : Int) < (x : Int)) = false := by simp; omega
  have h2 : ((m : Int) != 1 + ((x : Int) + 7) / 8) = false := by have := hm.out; unfold many at this; simp; omega
  have hmk := hmake8
  go_enter Try.func16, Try.ntmps16
  go_wp2
  go_loopw [4, 5] (fun v i wr => ∃ n : Nat, 1 ≤ n ∧ n ≤ m ∧ i = .int .i64 n ∧ v = .string (strOf l (8 * (n - 1))) ∧ Below w.heap.size w wr) (fun _ i _ => m - (intOf i).toNat)
  case atStart => exact ⟨1, Nat.le_refl _, by omega, rfl, rfl, Below.refl _ _⟩
  case round =>
    obtain ⟨n, hn1, hnm, rfl, rfl, hbel⟩ := hrel
    by_cases hlt : n < m
    · obtain ⟨y, hy⟩ : ∃ y, y = l[n]?.getD 0 := ⟨_, rfl⟩
      have hcell : wr.cell? ⟨b, o + n, none⟩ = some (.int .u64 (y : Nat)) := (hbel.cell (p := ⟨b, o + n, none⟩) hb).trans (by rw [hy]; exact hcH.out _ (by rw [← hmn.out]; exact hlt))
      have hyH := Lib.hid hy
      have hbsz := hbel.size
      have hbelH := Lib.hid hbel
      clear hbel hy
      obtain ⟨wo, rfl⟩ : ∃ wo : World, wo = wr := ⟨_, rfl⟩
      have hcell2 : ∀ o1, (wo.alloc o1).cell? ⟨b, o + n, none⟩ = some (.int .u64 (y : Nat)) := fun o1 => (World.cell?_alloc_lt wo o1 _ (by simp; omega)).trans hcell
      clear hcell
      go_wp2
      have hrow0 : (wo.alloc (Obj.cells (madeCells #[Value.int IntKind.u8 0] 8) 5)).rowIs wo.heap.size 5 8 (byteRow y 0) := (World.rowIs_made wo (.int .u8 0) 8 5).congr fun i hi => by unfold byteRow; rw [if_neg (by omega)]
      have hbel0 : Below w.heap.size w (wo.alloc (Obj.cells (madeCells #[Value.int IntKind.u8 0] 8) 5)) := hbelH.out.alloc hbsz _
      generalize (wo.alloc (Obj.cells (madeCells #[Value.int IntKind.u8 0] 8) 5)) = W1 at hrow0 hbel0 ⊢
      have hB0 := Lib.hid hbel0
      clear hbel0 hcell2
      go_loopw [7, 8] (fun yv kv wr => ∃ r : Nat, ∃ z : Nat, ∃ q : Int, r ≤ 8 ∧ Hid (q = 7 - (r : Int)) ∧ kv = .int .i64 q ∧ Hid (z = y / 256 ^ r) ∧ yv = .int .u64 z ∧ wr.rowIs wo.heap.size 5 8 (byteRow y r) ∧ W1.grownBy wr (some wo.heap.size)) (fun _ kv _ => (intOf kv + 1).toNat)
      case atStart => exact ⟨0, y, 7, by omega, rfl, rfl, by unfold Hid; simp, rfl, hrow0, World.grownBy.refl _ _⟩
      case round =>
        obtain ⟨r, z, q, hr8, hq, rfl, hz, rfl, hrow, hg⟩ := hrel
        by_cases hr : r < 8
        · have hq0 : 0 ≤ q := by have := hq.out; omega
          have hq7 : q ≤ 7 := by have := hq.out; omega
          obtain ⟨qn, rfl⟩ := Int.eq_ofNat_of_zero_le hq0
          have hc1 := hrow.cell (i := qn) (by omega)
          have hf1 := hrow.frozen qn
          have hrH := Lib.hid hrow
          have hgH := Lib.hid hg
          clear hrow hg
          go_wp2
          go_roundw
          case rel =>
            have hqe : qn = 7 - r := by have := hq.out; omega
            have hyl := hltH.out n
            rw [← hyH.out] at hyl
            have hzl : z < 18446744073709551616 := by rw [hz.out]; exact Nat.lt_of_le_of_lt (Nat.div_le_self _ _) hyl
            refine ⟨r + 1, z / 256, (qn : Int) - 1, by omega, by unfold Hid; omega, rfl, ?_, ret_u64 (by rw [IntWalk.u64_in _ (by omega)]; omega), ?_, ?_⟩
            · unfold Hid; rw [hz.out, Nat.pow_succ, Nat.div_div_eq_div_mul]
            · refine (hrH.out.set qn _).congr fun j hj => ?_
              show (if j = qn then Value.int .u8 ((z : Int) % 256) else byteRow y r j) = byteRow y (r + 1) j
              unfold byteRow
              by_cases hjq : j = qn
              · rw [if_pos hjq, if_pos (by omega), hz.out, show 7 - j = r by omega]
                rfl
              · rw [if_neg hjq]
                by_cases h3 : 8 - r ≤ j
                · rw [if_pos h3, if_pos (by omega)]
                · rw [if_neg h3, if_neg (by omega)]
            · exact hgH.out.trans ⟨rfl, rfl, rfl, by simp [World.setCell], fun k hk hne => Below.heap_setCell _ _ _ _ (fun e => hne (by rw [e]))⟩
          case measure => simp [intOf]
        · have hr8' : r = 8 := by omega
          subst hr8'
          have hq1 : q = -1 := by have := hq.out; omega
          subst hq1
          have hconv : (convert 40 9 (.slice (some ⟨wo.heap.size, 0, none⟩) 8 8)).run Try.prog wr = .ok (.string ⟨(eight y).toArray⟩) wr := by
            have := run_convert_bytes_back (P := Try.prog) wr 40 9 5 ⟨wo.heap.size, 0, none⟩ 8 (eight y) Try.underlying40 Try.underlying5 Try.underlying9 (fun j hj0 => by
              have hj : j < 8 := by rw [eight_length] at hj0; exact hj0
              have hadd : (⟨wo.heap.size, 0, none⟩ : Addr).add j = ⟨wo.heap.size, j, none⟩ := by unfold Addr.add; split <;> simp_all
              rw [hadd, hrow.cell hj, eight_get]
              unfold byteRow
              rw [if_pos (by omega)])
            rw [eight_length] at this
            exact this
          have hadd : ∀ W, (Op.stringOp .add (strOf l (8 * (n - 1))) ⟨(eight y).toArray⟩).run Try.prog W = .ok (.string (strOf l (8 * n))) W := fun W => by
            have h8 : (⟨(eight y).toArray⟩ : ByteArray).size = 8 := by simp [ByteArray.size, eight_length]
            rw [run_string_add_sum _ _ _ (by rw [strOf_size, h8]; omega)]
            have he : strOf l (8 * (n - 1)) ++ ⟨(eight y).toArray⟩ = strOf l (8 * n) := by
              apply ByteArray.ext
              rw [ByteArray.data_append]
              apply Array.ext'
              rw [Array.toList_append, strOf_list, strOf_list]
              have := unpL_eight l (n - 1)
              rw [show n - 1 + 1 = n by omega, show 1 + (n - 1) = n by omega, ← hyH.out] at this
              rw [this]
            rw [he]
          have hbel1 : Below w.heap.size w wr := hB0.out.grown hg (by have := hB0.out.size; omega) (fun k e => by cases e; exact hbsz)
          have hbel1H := Lib.hid hbel1
          clear hrow hg hbel1
          go_wp2
          go_roundw
          case rel => exact ⟨n + 1, by omega, by omega, by go_num, by rw [Nat.add_sub_cancel], hbel1H.out⟩
          case measure => simp [intOf]; omega
    · have hnm' : n = m := by omega
      have hge : (m : Int) ≤ (n : Int) := by omega
      have hbelH := Lib.hid hbel
      clear hbel hlt hmk
      obtain ⟨t, ht⟩ : ∃ t, t = 8 * (n - 1) := ⟨_, rfl⟩
      rw [← ht]
      have htb : t ≤ 1600 := by omega
      have hxt : x ≤ t := by have := hm.out; unfold many at this; omega
      have htail := tail_iff l x t (by rw [ht, hnm', hm.out]) (by rw [← hmn.out]; exact hm.out) hx0.out.symm hltH.out
      have htlH := Lib.hid htail
      have hsz := Lib.hid (strOf_size l t)
      clear ht htail hnm'
      have hc0' : wr.cell? ⟨b, o, none⟩ = some (.int .u64 (x : Nat)) := (hbelH.out.cell (p := ⟨b, o, none⟩) hb).trans hc0
      clear hc0
      go_wp2
      go_loop [10] (fun i => ∃ k : Nat, x ≤ k ∧ k ≤ t ∧ i = .int .i64 k ∧ Hid (tailZero l x k)) (fun i => t - (intOf i).toNat)
      case atStart => exact ⟨x, Nat.le_refl _, hxt, rfl, fun j h1 h2 => absurd h2 (by omega)⟩
      case round =>
        obtain ⟨k, hk1, hk2, rfl, htz⟩ := hrel
        have hlen : ∀ W, (Builtin.len_ #[9] 3 #[.string (strOf l t)]).run Try.prog W = .ok (.int .i64 (t : Nat)) W := fun W => by
          rw [run_len_string W 9 3 (strOf l t) Try.underlying9, strOf_size]; rfl
        by_cases hkt : k < t
        · obtain ⟨u, hu⟩ : ∃ u, u = unp l k := ⟨_, rfl⟩
          have hix : ∀ W, (Instr.index 9 (.string (strOf l t)) (.int .i64 (k : Int))).run Try.prog W = .ok (.int .u8 (u : Nat)) W := fun W => by
            rw [index_str (strOf l t) k (by rw [strOf_size]; exact hkt), strOf_list, byteAt_unpL, if_pos hkt, hu]
          have huH := Lib.hid hu
          clear hu
          by_cases hu0 : u = 0
          · have hb0 : ((u : Int) != 0) = false := by simp; omega
            go_wp2
            go_round
            case rel => exact ⟨k + 1, by omega, by omega, by go_num, fun j h1 h2 => by
              by_cases hj : j = k
              · rw [hj, ← huH.out]; exact hu0
              · exact htz.out j h1 (by omega)⟩
            case measure => simp [intOf]; omega
          · have hb0 : ((u : Int) != 0) = true := by simp; omega
            have hne : ¬ wordsL (unpL l x) = l := fun e => hu0 (by rw [huH.out]; exact htlH.out.2 e k hk1 hkt)
            have hneH := Lib.hid hne
            clear hne
            go_wp2
            go_ret2
            exact ⟨by first | rfl | (rw [if_neg hneH.out]; rfl), hbelH.out⟩
        · have hkt' : k = t := by omega
          have heq : wordsL (unpL l x) = l := htlH.out.1 (fun j h1 h2 => htz.out j h1 (by omega))
          have heqH := Lib.hid heq
          have hge2 : (t : Int) ≤ (k : Int) := by omega
          have hext : (strOf l t).extract 0 x = strOf l x := by
            apply ByteArray.ext
            rw [ByteArray.data_extract]
            apply Array.ext'
            rw [Array.toList_extract, strOf_list, strOf_list, unpL_take l x t hxt]
          have hsl : ∀ W, (Instr.slice 9 (.string (strOf l t)) none (some (.int .i64 (x : Int))) none).run Try.prog W = .ok (.string (strOf l x)) W := fun W => by
            rw [run_slice_string_h W 9 (strOf l t) Try.underlying9 .i64 x (by omega) (by rw [strOf_size]; omega), Int.toNat_natCast, hext]
          have hextH := Lib.hid hext
          clear hext
          clear heq hkt'
          go_wp2
          go_ret2
          exact ⟨by first | rfl | (rw [if_pos heqH.out]; rfl), hbelH.out⟩
end Go.Proofs.Ytiilapdkehplbaa
