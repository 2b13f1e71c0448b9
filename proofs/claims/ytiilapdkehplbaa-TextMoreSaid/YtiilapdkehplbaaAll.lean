/- The contracts of the text package and of the document's answers, each in one sentence; Compare; awake. -/
import Derived.Test.YtiilapdkehplbaaRefOf
set_option linter.unusedVariables false
namespace Go.Proofs.Ytiilapdkehplbaa
open Go.RowKit
theorem refOf_nil (A : Option Addr) (c : Nat) (w : World) :
    Calls Try.prog 16 #[.slice A 0 c] w fun e w' => e = .returned (.tuple #[.string ⟨#[]⟩, .int .i64 8]) ∧ w = w' := by
  go_enter Try.func16, Try.ntmps16
  go_wp2
  go_ret2
  exact ⟨rfl, rfl⟩
theorem refOf_big (b o n c x : Nat) (w : World) (hn : 0 < n) (hn2 : n ≤ 9223372036854775807) (hc : w.cell? ⟨b, o, none⟩ = some (.int .u64 (x : Nat))) (hx : 1000 < x) :
    Calls Try.prog 16 #[.slice (some ⟨b, o, none⟩) n c] w fun e w' => e = .returned (.tuple #[.string ⟨#[]⟩, .int .i64 8]) ∧ w = w' := by
  have h0 : ((n : Int) == 0) = false := by simp; omega
  have h1 : decide ((1000 : Int) < (x : Int)) = true := by simp; omega
  go_enter Try.func16, Try.ntmps16
  go_wp2
  go_ret2
  exact ⟨rfl, rfl⟩
theorem refOf_many (b o n c x : Nat) (w : World) (hn : 0 < n) (hn2 : n ≤ 9223372036854775807) (hc : w.cell? ⟨b, o, none⟩ = some (.int .u64 (x : Nat))) (hx : x ≤ 1000) (hmn : many x ≠ n) :
    Calls Try.prog 16 #[.slice (some ⟨b, o, none⟩) n c] w fun e w' => e = .returned (.tuple #[.string ⟨#[]⟩, .int .i64 8]) ∧ w = w' := by
  have h0 : ((n : Int) == 0) = false := by simp; omega
  have h1 : decide ((1000 : Int) < (x : Int)) = false := by simp; omega
  have h2 : ((n : Int) != 1 + ((x : Int) + 7) / 8) = true := by unfold many at hmn; simp; omega
  clear hmn
  go_enter Try.func16, Try.ntmps16
  go_wp2
  go_ret2
  exact ⟨rfl, rfl⟩
/-- what words are read as -/
def isText (l : List Nat) : Prop := l ≠ [] ∧ l[0]?.getD 0 ≤ 1000 ∧ many (l[0]?.getD 0) = l.length ∧ wordsL (unpL l (l[0]?.getD 0)) = l
instance (l : List Nat) : Decidable (isText l) := by unfold isText; infer_instance
def textOf (l : List Nat) : ByteArray := strOf l (l[0]?.getD 0)
def ofR (l : List Nat) : Value := .tuple (if isText l then #[.string (textOf l), .int .i64 0] else #[.string ⟨#[]⟩, .int .i64 8])
theorem ofR_no {l : List Nat} (h : ¬ isText l) : ofR l = .tuple #[.string ⟨#[]⟩, .int .i64 8] := by unfold ofR; rw [if_neg h]
theorem ofR_yes {l : List Nat} (h : isText l) : ofR l = .tuple #[.string (textOf l), .int .i64 0] := by unfold ofR; rw [if_pos h]
def OfPost (w : World) (l : List Nat) (e : Ending) (w' : World) : Prop := e = .returned (ofR l) ∧ Below w.heap.size w w'
theorem of_any (A : Option Addr) (c n : Nat) (l : List Nat) (w : World) (hn : n = l.length) (hl : l.length ≤ 200) (h : U64s w A l) (hlt : ∀ j : Nat, l[j]?.getD 0 < 18446744073709551616) :
    Calls Try.prog 15 #[.slice A n c] w (OfPost w l) ∧ Calls Try.prog 16 #[.slice A n c] w (OfPost w l) := by
  subst hn
  by_cases h0 : l = []
  · subst h0
    have hno : ¬ isText [] := fun e => e.1 rfl
    exact ⟨(of_nil A c w).mono fun e w' ⟨he, hw⟩ => ⟨by rw [ofR_no hno]; exact he, hw ▸ Below.refl _ _⟩, (refOf_nil A c w).mono fun e w' ⟨he, hw⟩ => ⟨by rw [ofR_no hno]; exact he, hw ▸ Below.refl _ _⟩⟩
  · obtain ⟨b, o, rfl, hb, hc⟩ := h.resolve_left h0
    have hpos : 0 < l.length := List.length_pos_iff.2 h0
    obtain ⟨x, hx⟩ : ∃ x, x = l[0]?.getD 0 := ⟨_, rfl⟩
    have hc0 : w.cell? ⟨b, o, none⟩ = some (.int .u64 (x : Nat)) := by rw [hx]; exact hc 0 hpos
    by_cases h1 : x ≤ 1000
    · by_cases h2 : many x = l.length
      · have hfin : ∀ e : Ending, e = .returned (.tuple (if wordsL (unpL l x) = l then #[.string (strOf l x), .int .i64 0] else #[.string ⟨#[]⟩, .int .i64 8])) → e = .returned (ofR l) := by
          rintro e rfl
          by_cases h3 : wordsL (unpL l x) = l
          · rw [if_pos h3, ofR_yes ⟨h0, by rw [← hx]; exact h1, by rw [← hx]; exact h2, by rw [← hx]; exact h3⟩]
            unfold textOf
            rw [hx]
          · rw [if_neg h3, ofR_no (fun e => h3 (by have := e.2.2.2; rw [← hx] at this; exact this))]
        have k1 := of_main b o c x l.length l w hl hb hc hlt h1 hx h2.symm rfl hpos hl
        have k2 := refOf_main b o c x l.length l w hl hb hc hlt h1 hx h2.symm rfl hpos hl
        exact ⟨k1.mono fun e w' ⟨he, hw⟩ => ⟨hfin e he, hw⟩, k2.mono fun e w' ⟨he, hw⟩ => ⟨hfin e he, hw⟩⟩
      · have hno : ¬ isText l := fun e => h2 (by rw [hx]; exact e.2.2.1)
        have k1 := of_many b o l.length c x (many x) w hpos (by omega) hc0 h1 rfl h2 (by unfold many; omega)
        have k2 := refOf_many b o l.length c x w hpos (by omega) hc0 h1 h2
        exact ⟨k1.mono fun e w' ⟨he, hw⟩ => ⟨by rw [ofR_no hno]; exact he, hw ▸ Below.refl _ _⟩, k2.mono fun e w' ⟨he, hw⟩ => ⟨by rw [ofR_no hno]; exact he, hw ▸ Below.refl _ _⟩⟩
    · have hno : ¬ isText l := fun e => h1 (by rw [hx]; exact e.2.1)
      have k1 := of_big b o l.length c x w hpos (by omega) hc0 (by omega)
      have k2 := refOf_big b o l.length c x w hpos (by omega) hc0 (by omega)
      exact ⟨k1.mono fun e w' ⟨he, hw⟩ => ⟨by rw [ofR_no hno]; exact he, hw ▸ Below.refl _ _⟩, k2.mono fun e w' ⟨he, hw⟩ => ⟨by rw [ofR_no hno]; exact he, hw ▸ Below.refl _ _⟩⟩
/-- what Words answers: the words in memory that the call made, or an error -/
def WordsPost (w : World) (s : ByteArray) (e : Ending) (w' : World) : Prop :=
  Below w.heap.size w w' ∧ ((s.size ≤ 1000 ∧ ∃ A c, e = .returned (.tuple #[.slice A (wordsL s.data.toList).length c, .int .i64 0]) ∧ U64s w' A (wordsL s.data.toList)) ∨ (1000 < s.size ∧ e = .returned (.tuple #[.slice none 0 0, .int .i64 4])))
theorem size_list (s : ByteArray) : s.data.toList.length = s.size := Array.length_toList
theorem words_all (s : ByteArray) (w : World) (hs : s.size ≤ 9223372036854775807) :
    Calls Try.prog 11 #[.string s] w (WordsPost w s) ∧ Calls Try.prog 12 #[.string s] w (WordsPost w s) := by
  have hlen := size_list s
  by_cases h : s.size ≤ 1000
  · have hwl : (wordsL s.data.toList).length = many s.size := by rw [wordsL_length, hlen]
    refine ⟨(words_any s w h).mono fun e w' ⟨he, hr, hb⟩ => ⟨hb, .inl ⟨h, some ⟨w.heap.size, 0, none⟩, many s.size, by rw [hwl]; exact he, .inr ⟨_, _, rfl, hr.lt, fun j hj => ?_⟩⟩⟩,
      (refWords_any s w h).mono fun e w' ⟨v, he, ho, hb⟩ => ?_⟩
    · rw [hwl] at hj
      rw [Nat.zero_add, hr.cell hj, wordsL_get _ _ (by rw [hlen]; exact hj)]
      rfl
    · have hww : wordsUpto s.data.toList (many s.size) = wordsL s.data.toList := by unfold wordsUpto wordsL; rw [hlen]
      rw [hww] at ho
      have hsl : ∃ A c, v = .slice A (many s.size) c := by
        rcases ho.2 with ⟨hv, hn⟩ | ⟨g, cap, cur, hv, _⟩
        · exact ⟨none, 0, by rw [hv, hn]⟩
        · exact ⟨_, _, hv⟩
      obtain ⟨A, c, rfl⟩ := hsl
      exact ⟨hb, .inl ⟨h, A, c, by rw [hwl]; exact he, u64s_of_own ho⟩⟩
  · exact ⟨(words_long s w (by omega) hs).mono fun e w' ⟨he, hw⟩ => ⟨hw ▸ Below.refl _ _, .inr ⟨by omega, he⟩⟩, (refWords_long s w (by omega) hs).mono fun e w' ⟨he, hw⟩ => ⟨hw ▸ Below.refl _ _, .inr ⟨by omega, he⟩⟩⟩
theorem wordsL_lt (s : ByteArray) (h : s.size ≤ 1000) (j : Nat) : (wordsL s.data.toList)[j]?.getD 0 < 18446744073709551616 := by
  by_cases hj : j < many s.data.toList.length
  · rw [wordsL_get _ _ hj]
    exact wordAt_lt _ _ (by rw [size_list]; omega)
  · rw [List.getElem?_eq_none (by rw [wordsL_length]; omega)]
    simp
end Go.Proofs.Ytiilapdkehplbaa
