/- The walk of text.Of: words are read as the text whose words they are, or refused. -/
import Derived.Test.YtiilapdkehplbaaWords
import Derived.Test.YtiilapdkehplbaaEqual
import Derived.Test.YtiilapdkehplbaaPlain2
import Derived.OwnWalk
import Derived.Maps.AppendAt
set_option linter.unusedVariables false
namespace Go.Proofs.Ytiilapdkehplbaa
open Go.RowKit
def strOf (l : List Nat) (n : Nat) : ByteArray := ⟨(unpL l n).toArray⟩
theorem strOf_size (l : List Nat) (n : Nat) : (strOf l n).size = n := by simp [strOf, ByteArray.size, unpL_length]
theorem strOf_list (l : List Nat) (n : Nat) : (strOf l n).data.toList = unpL l n := rfl
theorem hinfo5 : (Try.prog.info? 5).map (fun i => (i.zero, i.size, i.bytes)) = some (some (.int .u8 0), 1, 1) := by kernel_rfl
theorem of_nil (A : Option Addr) (c : Nat) (w : World) :
    Calls Try.prog 15 #[.slice A 0 c] w fun e w' => e = .returned (.tuple #[.string ⟨#[]⟩, .int .i64 8]) ∧ w = w' := by
  go_enter Try.func15, Try.ntmps15
  go_wp2
  go_ret2
  exact ⟨rfl, rfl⟩
theorem of_big (b o n c x : Nat) (w : World) (hn : 0 < n) (hn2 : n ≤ 9223372036854775807) (hc : w.cell? ⟨b, o, none⟩ = some (.int .u64 (x : Nat))) (hx : 1000 < x) :
    Calls Try.prog 15 #[.slice (some ⟨b, o, none⟩) n c] w fun e w' => e = .returned (.tuple #[.string ⟨#[]⟩, .int .i64 8]) ∧ w = w' := by
  have h0 : ((n : Int) == 0) = false := by simp; omega
  have h1 : decide ((1000 : Int) < (x : Int)) = true := by simp; omega
  go_enter Try.func15, Try.ntmps15
  go_wp2
  go_ret2
  exact ⟨rfl, rfl⟩
theorem of_many (b o n c x m : Nat) (w : World) (hn : 0 < n) (hn2 : n ≤ 9223372036854775807) (hc : w.cell? ⟨b, o, none⟩ = some (.int .u64 (x : Nat))) (hx : x ≤ 1000) (hm : Hid (m = many x)) (hmn : m ≠ n) (hm2 : m ≤ 200) :
    Calls Try.prog 15 #[.slice (some ⟨b, o, none⟩) n c] w fun e w' => e = .returned (.tuple #[.string ⟨#[]⟩, .int .i64 8]) ∧ w = w' := by
  have h0 : ((n : Int) == 0) = false := by simp; omega
  have h1 : decide ((1000 : Int) < (x : Int)) = false := by simp; omega
  have h2 : ((m : Int) != (n : Int)) = true := by simp; omega
  clear hmn
  go_enter Try.func15, Try.ntmps15
  go_wp2_with (go_at_call 14; refine (many_nat x m _ hx hm).mono ?_; rintro e w' ⟨rfl, rfl⟩)
  go_ret2
  exact ⟨rfl, rfl⟩
theorem unp_bound (l : List Nat) (n j : Nat) : ∀ x ∈ (unpL l n).map (fun b : UInt8 => Value.int .u8 (b.toNat : Int)), x.oneCell' = true := by
  intro x hx
  simp at hx
  obtain ⟨_, _, rfl⟩ := hx
  rfl
theorem toNat_unp (l : List Nat) (i : Nat) : ((UInt8.ofNat (unp l i)).toNat : Int) = (unp l i : Nat) := by
  have := unp_lt l i
  simp [UInt8.toNat_ofNat']
  omega
theorem conv_own (l : List Nat) (n : Nat) (v : Value) (w : World) {B : Nat} (h : w.ownsRow B 5 1 v n ((unpL l n).map (fun b : UInt8 => Value.int .u8 (b.toNat : Int)))) :
    (convert 40 9 v).run Try.prog w = .ok (.string (strOf l n)) w := by
  rcases h.2 with ⟨rfl, rfl⟩ | ⟨g, cap, cur, rfl, _, _, _⟩
  · exact run_convert_bytes_nil (P := Try.prog) w 40 5 Try.underlying40 Try.underlying5 0 0 9 Try.underlying9
  · have hl := unpL_length l n
    have := run_convert_bytes_back (P := Try.prog) w 40 9 5 ⟨g, 0, none⟩ cap (unpL l n) Try.underlying40 Try.underlying5 Try.underlying9 (fun j hj => h.cells (g := g) rfl j _ (by simp [hj]))
    rw [hl] at this
    exact this
set_option maxRecDepth 100000 in
theorem of_main (b o c x m : Nat) (l : List Nat) (w : World) (hn2 : l.length ≤ 200) (hb : b < w.heap.size) (hc : ∀ j, j < l.length → w.cell? ⟨b, o + j, none⟩ = some (.int .u64 (l[j]?.getD 0 : Nat)))
    (hlt : ∀ j : Nat, l[j]?.getD 0 < 18446744073709551616) (hx : x ≤ 1000) (hx0 : Hid (x = l[0]?.getD 0)) (hm : Hid (m = many x)) (hmn : Hid (m = l.length)) (hmp : 0 < m) (hm2 : m ≤ 200) :
    Calls Try.prog 15 #[.slice (some ⟨b, o, none⟩) m c] w fun e w' => e = .returned (.tuple (if wordsL (unpL l x) = l then #[.string (strOf l x), .int .i64 0] else #[.string ⟨#[]⟩, .int .i64 8])) ∧ Below w.heap.size w w' := by
  have hc0 : w.cell? ⟨b, o, none⟩ = some (.int .u64 (x : Nat)) := by have := hc 0 (by rw [← hmn.out]; exact hmp); rw [← hx0.out] at this; exact this
  have hxm : ∀ k, k < x → 1 + k / 8 < m := fun k hk => by rw [hm.out]; unfold many; omega
  have hcH := Lib.hid hc
  have hltH := Lib.hid hlt
  have hxmH := Lib.hid hxm
  clear hc hlt hxm
  have h0 : ((m : Int) == 0) = false := by simp; omega
  have h1 : decide ((1000 : Int) < (x : Int)) = false := by simp; omega
  have h2 : ((m : Int) != (m : Int)) = false := by simp
  obtain ⟨i0, hi, hz0, hz1, hz2⟩ := info_parts hinfo5
  go_enter Try.func15, Try.ntmps15
  go_wp2_with (go_at_call 14; refine (many_nat x m _ hx hm).mono ?_; rintro e w' ⟨rfl, rfl⟩)
  go_loopw [4, 32] (fun v i wr => ∃ k : Nat, k ≤ x ∧ i = .int .i64 k ∧ wr.ownsRow w.heap.size 5 1 v k ((unpL l k).map (fun b : UInt8 => Value.int .u8 (b.toNat : Int))) ∧ Below w.heap.size w wr) (fun _ i _ => x - (intOf i).toNat)
  case atStart => exact ⟨0, Nat.zero_le _, rfl, World.ownsRow_nil _ _ _ _, Below.refl _ _⟩
  case round =>
    obtain ⟨k, hk, rfl, hown, hbel⟩ := hrel
    by_cases hlt : k < x
    · have hq : (1 + (k : Int) / 8) < (m : Int) := by have := hxmH.out k hlt; omega
      have h7 : (k : Int) % 8 ≤ 7 := by omega
      have h70 : 0 ≤ (k : Int) % 8 := by omega
      have hcell : wr.cell? ⟨b, o + (1 + k / 8), none⟩ = some (.int .u64 (l[1 + k / 8]?.getD 0 : Nat)) := (hbel.cell (p := ⟨b, o + (1 + k / 8), none⟩) hb).trans (hcH.out _ (by rw [← hmn.out]; exact hxmH.out k hlt))
      have hbsz := hbel.size
      have hbelH := Lib.hid hbel
      clear hbel
      go_wp2_with (at_builtin; go_loud (refine wpList_append_own _ rfl _ _ 40 rfl w.heap.size 5 i0 (.int .u8 0) 1 1 Try.underlying40 hi hz0 hz1 hz2 rfl (by decide) _ _ _ rfl (hown.alloc _) ⟨wr.heap.size, 0, none⟩ 1 1 [_] rfl rfl (cell_one_new _ _ _) ?c2 ?c3 ?c4 ?c5 ?_))
      case c2 => intro u hu; simp at hu; subst hu; rfl
      case c3 => unfold maxLen; omega
      case c4 => omega
      case c5 => simp; omega
      intro v' w1 hown1 hgrow1 _
      have hown2 : w1.ownsRow w.heap.size 5 1 v' (k + 1) ((unpL l (k + 1)).map (fun b : UInt8 => Value.int .u8 (b.toNat : Int))) := by
        rw [unpL_succ, List.map_append, List.map_cons, List.map_nil, toNat_unp]
        have e : ((l[1 + k / 8]?.getD 0 : Nat) : Int) / 2 ^ (8 * (7 - k % 8)) % 256 = (unp l k : Nat) := by unfold unp; push_cast; rfl
        rw [e] at hown1
        exact hown1
      have hbel1 : Below w.heap.size w w1 := (hbelH.out.alloc hbsz _).grown hgrow1 (by simp; omega) (fun g e => (hown.lt g e).1)
      have HO := Lib.hid hown2
      have HB := Lib.hid hbel1
      clear hown hown1 hown2 hgrow1 hbel1 hcell
      go_wp2
      go_roundw
      case rel => exact ⟨k + 1, by omega, by go_num, HO.out, HB.out⟩
      case measure => simp [intOf]; omega
    · obtain rfl : k = x := by omega
      have hconv := conv_own l k u4 wr hown
      have hz : (strOf l k).size ≤ 1000 := by rw [strOf_size]; exact hx
      have HB := Lib.hid hbel
      clear hbel hown
      go_wp2_with (go_at_call 11; refine (words_any _ _ hz).mono ?_; rintro e w2 ⟨rfl, hrow2, hbel2⟩)
      have hwl : (wordsL (unpL l k)).length = many k := by rw [wordsL_length, unpL_length]
      have hu1 : U64s w2 (some ⟨wr.heap.size, 0, none⟩) (wordsL (unpL l k)) := .inr ⟨_, _, rfl, hrow2.lt, fun j hj => by
        rw [hwl] at hj
        have := hrow2.cell (i := j) (by rw [strOf_size]; exact hj)
        rw [Nat.zero_add, this, wordsL_get _ _ (by rw [unpL_length]; exact hj), strOf_list]
        rfl⟩
      have hu2 : U64s w2 (some ⟨b, o, none⟩) l := .inr ⟨b, o, rfl, Nat.lt_of_lt_of_le hb (Nat.le_trans HB.out.size hbel2.size), fun j hj =>
        (hbel2.cell (p := ⟨b, o + j, none⟩) (Nat.lt_of_lt_of_le hb HB.out.size)).trans ((HB.out.cell (p := ⟨b, o + j, none⟩) hb).trans (hcH.out j hj))⟩
      have heq := equal_any (some ⟨wr.heap.size, 0, none⟩) (some ⟨b, o, none⟩) (many k) c (wordsL (unpL l k)) l w2 (by rw [hwl, ← hm.out]; omega) (by omega) hu1 hu2
      have hmk := hm.out
      rw [hwl, ← hmn.out] at heq
      rw [strOf_size]
      have HQ := Lib.hid heq
      have HB2 := Lib.hid (HB.out.trans (hbel2.mono HB.out.size))
      clear heq hu1 hu2 hrow2 hbel2 hwl hmk
      by_cases hfin : wordsL (unpL l k) = l
      · refine (HQ.out).mono ?_
        rintro e w3 ⟨rfl, d, rfl⟩
        rw [decide_eq_true hfin]
        have HF := Lib.hid hfin
        clear hfin
        go_wp2
        go_ret2
        exact ⟨by first | rfl | (rw [if_pos HF.out]; rfl), HB2.out.trans (drewN_below _ _ |>.mono (Nat.le_trans HB2.out.size (Nat.le_refl _)))⟩
      · refine (HQ.out).mono ?_
        rintro e w3 ⟨rfl, d, rfl⟩
        rw [decide_eq_false hfin]
        have HF := Lib.hid hfin
        clear hfin
        go_wp2
        go_ret2
        exact ⟨by first | rfl | (rw [if_neg HF.out]; rfl), HB2.out.trans (drewN_below _ _ |>.mono (Nat.le_trans HB2.out.size (Nat.le_refl _)))⟩
end Go.Proofs.Ytiilapdkehplbaa
