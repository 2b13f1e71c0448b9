/- Texts and words, there and back, in plain Lean. -/
import Derived.Test.YtiilapdkehplbaaPlain
namespace Go.Proofs.Ytiilapdkehplbaa
open Go
def unp (l : List Nat) (i : Nat) : Nat := (l[1 + i / 8]?.getD 0) / 2 ^ (8 * (7 - i % 8)) % 256
def unpL (l : List Nat) (n : Nat) : List UInt8 := (List.range n).map fun i => UInt8.ofNat (unp l i)
theorem unpL_length (l : List Nat) (n : Nat) : (unpL l n).length = n := by simp [unpL]
theorem unp_lt (l : List Nat) (i : Nat) : unp l i < 256 := Nat.mod_lt _ (by omega)
theorem unpL_get (l : List Nat) (n j : Nat) (h : j < n) : (unpL l n)[j]? = some (UInt8.ofNat (unp l j)) := by simp [unpL, h]
theorem unpL_succ (l : List Nat) (n : Nat) : unpL l (n + 1) = unpL l n ++ [UInt8.ofNat (unp l n)] := by simp [unpL, List.range_succ]
theorem byteAt_unpL (l : List Nat) (n j : Nat) : byteAt (unpL l n) j = if j < n then unp l j else 0 := by
  split
  · rename_i h
    unfold byteAt
    rw [unpL_get l n j h]
    have := unp_lt l j
    simp
    omega
  · exact byteAt_ge _ _ (by rw [unpL_length]; omega)
theorem hor_digit {f : Nat → Nat} (hf : ∀ k, f k < 256) : ∀ (n r : Nat), r < n → hor f n / 256 ^ (n - 1 - r) % 256 = f r
  | 0, _, h => absurd h (by omega)
  | n + 1, r, h => by
    have hn := hf n
    by_cases hr : r = n
    · subst hr
      rw [show r + 1 - 1 - r = 0 by omega, Nat.pow_zero, Nat.div_one, hor]
      omega
    · rw [show n + 1 - 1 - r = (n - 1 - r) + 1 by omega, Nat.pow_succ, Nat.mul_comm, ← Nat.div_div_eq_div_mul, hor, show (hor f n * 256 + f n) / 256 = hor f n by omega]
      exact hor_digit hf n r (by omega)
theorem hor_digits : ∀ (n x : Nat), hor (fun k => x / 256 ^ (n - 1 - k) % 256) n = x % 256 ^ n
  | 0, x => by simp [hor, Nat.mod_one]
  | n + 1, x => by
    rw [hor, show n + 1 - 1 - n = 0 by omega, Nat.pow_zero, Nat.div_one]
    have h1 : hor (fun k => x / 256 ^ (n + 1 - 1 - k) % 256) n = hor (fun k => (x / 256) / 256 ^ (n - 1 - k) % 256) n := hor_congr n fun k hk => by
      show x / 256 ^ (n + 1 - 1 - k) % 256 = _
      rw [show n + 1 - 1 - k = (n - 1 - k) + 1 by omega, Nat.pow_succ, Nat.mul_comm, ← Nat.div_div_eq_div_mul]
    rw [h1, hor_digits n (x / 256), Nat.pow_succ, Nat.mul_comm (256 ^ n) 256, Nat.mod_mul]
    omega
theorem pow8 (r : Nat) : (256 : Nat) ^ r = 2 ^ (8 * r) := by rw [Nat.pow_mul]
/-- the bytes of a text's words are the text's -/
theorem unp_words (L : List UInt8) (j : Nat) (h : j < 8 * (many L.length - 1)) : unp (wordsL L) j = byteAt L j := by
  unfold unp
  rw [wordsL_get L (1 + j / 8) (by unfold many at *; omega)]
  show wordAt L (1 + j / 8) / 2 ^ (8 * (7 - j % 8)) % 256 = _
  unfold wordAt wd
  rw [if_neg (by omega), ← pow8, show 1 + j / 8 - 1 = j / 8 by omega]
  have := hor_digit (f := fun k => byteAt L (8 * (j / 8) + k)) (fun k => byteAt_lt _ _) 8 (j % 8) (by omega)
  rw [show 8 - 1 - j % 8 = 7 - j % 8 by omega] at this
  rw [this, show 8 * (j / 8) + j % 8 = j by omega]
theorem ofNat_byteAt (L : List UInt8) (j : Nat) (h : j < L.length) : UInt8.ofNat (byteAt L j) = L[j] := by
  unfold byteAt
  rw [List.getElem?_eq_getElem h]
  simp
theorem unpL_words (L : List UInt8) : unpL (wordsL L) L.length = L := by
  refine List.ext_getElem (unpL_length _ _) fun j h1 h2 => ?_
  have h3 := unpL_get (wordsL L) L.length j h2
  rw [List.getElem?_eq_getElem h1] at h3
  rw [Option.some.inj h3, unp_words L j (by unfold many; omega), ofNat_byteAt L j h2]
/-- a word is made of its bytes -/
theorem hor_unp (l : List Nat) (i : Nat) (h : l[1 + i]?.getD 0 < 18446744073709551616) : hor (fun k => unp l (8 * i + k)) 8 = l[1 + i]?.getD 0 := by
  have h2 := hor_digits 8 (l[1 + i]?.getD 0)
  rw [Nat.mod_eq_of_lt (show _ < 256 ^ 8 from h)] at h2
  rw [← h2]
  refine hor_congr 8 fun k hk => ?_
  show unp l (8 * i + k) = _
  unfold unp
  rw [show 1 + (8 * i + k) / 8 = 1 + i by omega, show (8 * i + k) % 8 = k by omega, ← pow8, show 8 - 1 - k = 7 - k by omega]
def tailZero (l : List Nat) (x t : Nat) : Prop := ∀ j, x ≤ j → j < t → unp l j = 0
theorem tail_iff (l : List Nat) (x t : Nat) (ht : t = 8 * (many x - 1)) (hl : l.length = many x) (h0 : l[0]?.getD 0 = x) (hlt : ∀ j : Nat, l[j]?.getD 0 < 18446744073709551616) :
    tailZero l x t ↔ wordsL (unpL l x) = l := by
  have hlen := unpL_length l x
  constructor
  · intro h
    refine List.ext_getElem (by rw [wordsL_length, hlen, hl]) fun j h1 h2 => ?_
    have h3 := wordsL_get (unpL l x) j (by rw [hlen, ← hl]; exact h2)
    rw [List.getElem?_eq_getElem h1] at h3
    rw [Option.some.inj h3]
    have h4 : l[j] = l[j]?.getD 0 := by rw [List.getElem?_eq_getElem h2]; rfl
    rw [h4]
    unfold wordAt
    by_cases hj : j = 0
    · subst hj; rw [if_pos rfl, hlen, h0]
    · rw [if_neg hj]
      have h5 := hor_unp l (j - 1) (by rw [show 1 + (j - 1) = j by omega]; exact hlt j)
      rw [show 1 + (j - 1) = j by omega] at h5
      rw [← h5]
      unfold wd
      refine hor_congr 8 fun k hk => ?_
      rw [byteAt_unpL]
      split
      · rfl
      · rename_i hx
        exact (h _ (by omega) (by rw [ht, ← hl]; omega)).symm
  · intro h j h1 h2
    rw [← h, unp_words _ _ (by rw [hlen, ← ht]; exact h2), byteAt_unpL, if_neg (by omega)]
end Go.Proofs.Ytiilapdkehplbaa
