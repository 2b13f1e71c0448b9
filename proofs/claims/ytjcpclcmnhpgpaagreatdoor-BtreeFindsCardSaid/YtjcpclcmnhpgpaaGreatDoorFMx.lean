/-
  The seat's own texts, part x: BiP, BiP2, BlP.
-/
import Derived.Test.YtjcpclcmnhpgpaaGreatDoorFMw

set_option linter.unusedVariables false
set_option linter.unusedSimpArgs false
namespace Go.Proofs.YtjcpclcmnhpgpaaGreatDoor
open Go.RowKit Go.Shelf
section
variable (R : Nat → Option (List Nat)) (t : Nat)
def bputE (x : Nat) (n : BN) : Nat := if ¬ n.Fits t then 2 else match R x with | none => 7 | some ws => if ws.length = 6 * t then 0 else 8
def bputR (x : Nat) (n : BN) : Nat → Option (List Nat) := if bputE R t x n = 0 then updR R x (some (n.wd t)) else R
end
namespace BN
def insKV (n : BN) (k a b : Nat) : BN := ⟨n.keys.take k ++ a :: n.keys.drop k, n.vals.take k ++ b :: n.vals.drop k, n.kids, n.size⟩
def insKid (n : BN) (k r : Nat) : BN := ⟨n.keys, n.vals, n.kids.take k ++ r :: n.kids.drop k, n.size⟩
def more (n : BN) : BN := ⟨n.keys, n.vals, n.kids, (n.size + 1) % 18446744073709551616⟩
end BN
def btake (R : Nat → Option (List Nat)) (t : Nat) (st : List Nat) (n : BN) : (Nat → Option (List Nat)) × List Nat × Nat :=
  match st with
  | [] => (R, [], 0)
  | x :: st => (bputR R t x n, st, x)
def rsum (R : Nat → Option (List Nat)) (t : Nat) (kids : List Nat) (b : Nat) : Nat := kids.foldl (fun b x => (b + (bnG R t x).size) % 18446744073709551616) b
def rightOf (R : Nat → Option (List Nat)) (t : Nat) (n : BN) : BN := ⟨n.keys.drop (t + 1), n.vals.drop (t + 1), n.kids.drop (t + 1), rsum R t (n.kids.drop (t + 1)) (n.keys.length - (t + 1))⟩
def leftOf (t : Nat) (n : BN) (rs : Nat) : BN := ⟨n.keys.take t, n.vals.take t, n.kids.take (t + 1), (n.size + 36893488147419103232 - rs - 1) % 18446744073709551616⟩
def bsplit (R : Nat → Option (List Nat)) (t h : Nat) (st : List Nat) (n : BN) : (Nat → Option (List Nat)) × List Nat × Option (Nat × Nat × Nat) :=
  if n.keys.length < 2 * t then (bputR R t h n, st, none)
  else
    let p := btake (bputR R t h (leftOf t n (rightOf R t n).size)) t st (rightOf R t n)
    (p.1, p.2.1, some (n.keys.getD t 0, n.vals.getD t 0, p.2.2))
def bins (t : Nat) (key : ByteArray) (ak av : Nat) : Nat → (Nat → Option (List Nat)) → List Nat → Nat → (Nat → Option (List Nat)) × List Nat × Option (Nat × Nat × Nat)
  | 0, R, st, _ => (R, st, none)
  | f + 1, R, st, h =>
    if bnE R t h ≠ 0 then (R, st, none)
    else if (bnG R t h).kids = [] then bsplit R t h st ((bnG R t h).insKV (plK R (bnG R t h).keys key) ak av).more
    else
      let p := bins t key ak av f R st ((bnG R t h).kids.getD (plK R (bnG R t h).keys key) 0)
      match p.2.2 with
      | none => bsplit p.1 t h p.2.1 (bnG R t h).more
      | some (a, b, r) => bsplit p.1 t h p.2.1 (((bnG R t h).insKV (plK R (bnG R t h).keys key) a b).insKid (plK R (bnG R t h).keys key + 1) r).more
def bpath (R : Nat → Option (List Nat)) (t : Nat) (key : ByteArray) : Nat → Nat → List Bool
  | 0, _ => []
  | f + 1, h =>
    if bnE R t h ≠ 0 then []
    else decide (2 * t - 1 ≤ (bnG R t h).keys.length) :: if (bnG R t h).kids = [] then [] else bpath R t key f ((bnG R t h).kids.getD (plK R (bnG R t h).keys key) 0)
def tails : List Bool → Nat
  | [] => 0
  | b :: p => if p.all id then p.length + (if b then 1 else 0) else tails p
theorem bputR_same {R : Nat → Option (List Nat)} {t x : Nat} {n : BN} (hf : n.Fits t) {ws : List Nat} (hR : R x = some ws) (hl : ws.length = 6 * t) : bputR R t x n = updR R x (some (n.wd t)) := by
  have e : bputE R t x n = 0 := by
    unfold bputE
    rw [if_neg (by simpa using hf), hR]
    simp [hl]
  unfold bputR
  rw [if_pos e]
namespace Bt
def setKid (c : Sb) : List Lk → Nat → Sb → Sb × List Lk
  | l, 0, s => (s, l)
  | [], _ + 1, _ => (c, [])
  | p :: l, k + 1, s => (c, (p.1, (setKid p.2 l k s).1) :: (setKid p.2 l k s).2)
def insK (c : Sb) : List Lk → Nat → Sb → It → Sb → Sb × List Lk
  | l, 0, s, m, r => (s, (m, r) :: l)
  | [], _ + 1, _, _, _ => (c, [])
  | p :: l, k + 1, s, m, r => (c, (p.1, (insK p.2 l k s m r).1) :: (insK p.2 l k s m r).2)
theorem setKid_its : ∀ (c : Sb) (l : List Lk) (k : Nat) (s : Sb), k ≤ l.length → itsOf (setKid c l k s).1 (setKid c l k s).2 = pre c l k ++ (s.its ++ rest (l.drop k))
  | c, l, 0, s, _ => by cases l <;> rfl
  | c, [], k + 1, s, h => absurd h (by simp)
  | c, p :: l, k + 1, s, h => by
    show itsOf c ((p.1, (setKid p.2 l k s).1) :: (setKid p.2 l k s).2) = _
    rw [itsOf_cons, setKid_its p.2 l k s (by simpa using h)]
    simp [pre]
theorem insK_its : ∀ (c : Sb) (l : List Lk) (k : Nat) (s : Sb) (m : It) (r : Sb), k ≤ l.length → itsOf (insK c l k s m r).1 (insK c l k s m r).2 = pre c l k ++ ((s.its ++ m :: r.its) ++ rest (l.drop k))
  | c, l, 0, s, m, r, _ => by cases l <;> simp [insK, itsOf, rest, pre]
  | c, [], k + 1, s, m, r, h => absurd h (by simp)
  | c, p :: l, k + 1, s, m, r, h => by
    show itsOf c ((p.1, (insK p.2 l k s m r).1) :: (insK p.2 l k s m r).2) = _
    rw [itsOf_cons, insK_its p.2 l k s m r (by simpa using h)]
    simp [pre]
theorem setKid_len : ∀ (c : Sb) (l : List Lk) (k : Nat) (s : Sb), k ≤ l.length → (setKid c l k s).2.length = l.length
  | c, l, 0, s, _ => by cases l <;> rfl
  | c, [], k + 1, s, h => absurd h (by simp)
  | c, p :: l, k + 1, s, h => by
    show ((p.1, (setKid p.2 l k s).1) :: (setKid p.2 l k s).2).length = _
    rw [List.length_cons, setKid_len p.2 l k s (by simpa using h), List.length_cons]
theorem insK_len : ∀ (c : Sb) (l : List Lk) (k : Nat) (s : Sb) (m : It) (r : Sb), k ≤ l.length → (insK c l k s m r).2.length = l.length + 1
  | c, l, 0, s, m, r, _ => by cases l <;> rfl
  | c, [], k + 1, s, m, r, h => absurd h (by simp)
  | c, p :: l, k + 1, s, m, r, h => by
    show ((p.1, (insK p.2 l k s m r).1) :: (insK p.2 l k s m r).2).length = _
    rw [List.length_cons, insK_len p.2 l k s m r (by simpa using h), List.length_cons]
theorem setKid_keys : ∀ (c : Sb) (l : List Lk) (k : Nat) (s : Sb), k ≤ l.length → (setKid c l k s).2.map (·.1) = l.map (·.1)
  | c, l, 0, s, _ => by cases l <;> rfl
  | c, [], k + 1, s, h => absurd h (by simp)
  | c, p :: l, k + 1, s, h => by
    show ((p.1, (setKid p.2 l k s).1) :: (setKid p.2 l k s).2).map (·.1) = _
    rw [List.map_cons, setKid_keys p.2 l k s (by simpa using h), List.map_cons]
theorem insK_keys : ∀ (c : Sb) (l : List Lk) (k : Nat) (s : Sb) (m : It) (r : Sb), k ≤ l.length → (insK c l k s m r).2.map (·.1) = (l.map (·.1)).take k ++ m :: (l.map (·.1)).drop k
  | c, l, 0, s, m, r, _ => by cases l <;> rfl
  | c, [], k + 1, s, m, r, h => absurd h (by simp)
  | c, p :: l, k + 1, s, m, r, h => by
    show ((p.1, (insK p.2 l k s m r).1) :: (insK p.2 l k s m r).2).map (·.1) = _
    rw [List.map_cons, insK_keys p.2 l k s m r (by simpa using h)]
    rfl
theorem setKid_hs : ∀ (c : Sb) (l : List Lk) (k : Nat) (s : Sb), k ≤ l.length → s.h = (kid c l k).h → (setKid c l k s).1.h :: (setKid c l k s).2.map (·.2.h) = c.h :: l.map (·.2.h)
  | c, l, 0, s, _, e => by cases l <;> simp [setKid, e, kid]
  | c, [], k + 1, s, h, _ => absurd h (by simp)
  | c, p :: l, k + 1, s, h, e => by
    show c.h :: ((p.1, (setKid p.2 l k s).1) :: (setKid p.2 l k s).2).map (·.2.h) = _
    rw [List.map_cons, setKid_hs p.2 l k s (by simpa using h) e, List.map_cons]
theorem insK_hs : ∀ (c : Sb) (l : List Lk) (k : Nat) (s : Sb) (m : It) (r : Sb), k ≤ l.length → s.h = (kid c l k).h → (insK c l k s m r).1.h :: (insK c l k s m r).2.map (·.2.h) = (c.h :: l.map (·.2.h)).take (k + 1) ++ r.h :: (c.h :: l.map (·.2.h)).drop (k + 1)
  | c, l, 0, s, m, r, _, e => by cases l <;> simp [insK, e, kid]
  | c, [], k + 1, s, m, r, h, _ => absurd h (by simp)
  | c, p :: l, k + 1, s, m, r, h, e => by
    show c.h :: ((p.1, (insK p.2 l k s m r).1) :: (insK p.2 l k s m r).2).map (·.2.h) = _
    rw [List.map_cons, insK_hs p.2 l k s m r (by simpa using h) e]
    rfl
theorem setKid_ns : ∀ (c : Sb) (l : List Lk) (k : Nat) (s : Sb) (x : Nat), k ≤ l.length → (nsOf (setKid c l k s).1 (setKid c l k s).2).count x + (kid c l k).ns.count x = (nsOf c l).count x + s.ns.count x
  | c, l, 0, s, x, _ => by cases l <;> simp [setKid, nsOf, kid] <;> omega
  | c, [], k + 1, s, x, h => absurd h (by simp)
  | c, p :: l, k + 1, s, x, h => by
    have := setKid_ns p.2 l k s x (by simpa using h)
    show (nsOf c ((p.1, (setKid p.2 l k s).1) :: (setKid p.2 l k s).2)).count x + (kid p.2 l k).ns.count x = _
    rw [nsOf_cons, nsOf_cons]
    simp only [List.count_append] at this ⊢
    omega
theorem insK_ns : ∀ (c : Sb) (l : List Lk) (k : Nat) (s : Sb) (m : It) (r : Sb) (x : Nat), k ≤ l.length → (nsOf (insK c l k s m r).1 (insK c l k s m r).2).count x + (kid c l k).ns.count x = (nsOf c l).count x + (s.ns.count x + r.ns.count x)
  | c, l, 0, s, m, r, x, _ => by cases l <;> simp [insK, nsOf, kid, List.count_append] <;> omega
  | c, [], k + 1, s, m, r, x, h => absurd h (by simp)
  | c, p :: l, k + 1, s, m, r, x, h => by
    have := insK_ns p.2 l k s m r x (by simpa using h)
    show (nsOf c ((p.1, (insK p.2 l k s m r).1) :: (insK p.2 l k s m r).2)).count x + (kid p.2 l k).ns.count x = _
    rw [nsOf_cons, nsOf_cons]
    simp only [List.count_append] at this ⊢
    omega
def putI (l : List It) (i : It) : List It := l.take (rankL (prs l) i.k) ++ i :: l.drop (rankL (prs l) i.k)
theorem putI_len (l : List It) (i : It) : (putI l i).length = l.length + 1 := by
  unfold putI
  have := rankL_le (prs l) i.k
  rw [prs_len] at this
  simp only [List.length_append, List.length_take, List.length_cons, List.length_drop]
  omega
theorem putI_parts {a b c : List It} {i : It} (h1 : ∀ p ∈ prs a, Tx.cmp p.1 i.k < 0) (h2 : ∀ p ∈ prs c, ¬ Tx.cmp p.1 i.k < 0) : putI (a ++ (b ++ c)) i = a ++ (putI b i ++ c) := by
  unfold putI
  have hr : rankL (prs (a ++ (b ++ c))) i.k = a.length + rankL (prs b) i.k := by
    rw [prs_append, prs_append, rankL_append, rankL_append, rankL_all h1, rankL_none h2, prs_len]; rfl
  have hb := rankL_le (prs b) i.k
  rw [prs_len] at hb
  rw [hr, List.take_length_add_append, List.drop_length_add_append, List.take_append_of_le_length hb, List.drop_append_of_le_length hb]
  simp
theorem putI_prs {l : List It} {i : It} (hr : Rising (prs l)) (hn : findI l i.k = none) : prs (putI l i) = putL (prs l) i.pr := by
  have hh : ¬ (prs l)[rankL (prs l) i.pr.1]?.map (·.1) = some i.pr.1 := by
    intro e
    have h1 := (findI_has (key := i.k) hr).1
    rw [hn] at h1
    unfold findL at h1
    rw [if_pos (show (prs l)[rankL (prs l) i.k]?.map (·.1) = some i.k from e)] at h1
    simp only [Option.isSome_none, Bool.false_eq_true, if_false] at h1
    omega
  unfold putL putI
  rw [if_neg hh]
  simp only [prs, List.map_append, List.map_cons, List.map_take, List.map_drop]
  rfl
end Bt
end Go.Proofs.YtjcpclcmnhpgpaaGreatDoor

set_option linter.unusedVariables false
set_option linter.unusedSimpArgs false
namespace Go.Proofs.YtjcpclcmnhpgpaaGreatDoor
open Go.RowKit Go.Shelf
namespace Bt
section
variable {R R1 : Nat → Option (List Nat)} {t a lo : Nat}
theorem kid_ns : ∀ {c : Sb} {l : List Lk} {k : Nat} {z : Nat}, k ≤ l.length → z ∈ (kid c l k).ns → z ∈ nsOf c l
  | c, l, 0, z, _, h => by cases l <;> exact List.mem_append.2 (.inl h)
  | c, [], k + 1, z, h, _ => absurd h (by simp)
  | c, p :: l, k + 1, z, h, hz => by
    rw [nsOf_cons]
    exact List.mem_append.2 (.inr (kid_ns (by simpa using h) hz))
theorem mem_ns {c : Sb} {l : List Lk} {p : Lk} (hp : p ∈ l) {z : Nat} (hz : z ∈ p.2.ns) : z ∈ nsOf c l :=
  List.mem_append.2 (.inr (List.mem_flatMap.2 ⟨p, hp, hz⟩))
theorem setKid_at : ∀ {c : Sb} {l : List Lk} {k : Nat} {s : Sb}, k ≤ l.length → (nsOf c l).Nodup → At R t a lo c → (∀ p ∈ l, At R t a lo p.2) → (∀ z, z ∈ nsOf c l → z ∉ (kid c l k).ns → R1 z = R z) → At R1 t a lo s →
    At R1 t a lo (setKid c l k s).1 ∧ ∀ p ∈ (setKid c l k s).2, At R1 t a lo p.2
  | c, l, 0, s, _, hn, hc, hl, hf, hs => by
    have hk : kid c l 0 = c := by cases l <;> rfl
    have e : setKid c l 0 s = (s, l) := by cases l <;> rfl
    rw [hk] at hf
    rw [e]
    refine ⟨hs, fun p hp => (hl p hp).congr fun z hz => hf z (mem_ns hp hz) fun hz2 => ?_⟩
    exact (List.nodup_append.1 hn).2.2 z hz2 z (List.mem_flatMap.2 ⟨p, hp, hz⟩) rfl
  | c, [], k + 1, s, h, _, _, _, _, _ => absurd h (by simp)
  | c, p :: l, k + 1, s, h, hn, hc, hl, hf, hs => by
    rw [nsOf_cons] at hn
    obtain ⟨n1, n2, n3⟩ := List.nodup_append.1 hn
    have hk : k ≤ l.length := by simpa using h
    obtain ⟨g1, g2⟩ := setKid_at (c := p.2) (l := l) (k := k) (s := s) hk n2 (hl p (by simp)) (fun q hq => hl q (List.mem_cons_of_mem _ hq)) (fun z hz hz2 => hf z (by rw [nsOf_cons]; exact List.mem_append.2 (.inr hz)) hz2) hs
    refine ⟨hc.congr fun z hz => hf z (by rw [nsOf_cons]; exact List.mem_append.2 (.inl hz)) fun hz2 => n3 z hz z (kid_ns hk hz2) rfl, fun q hq => ?_⟩
    rcases List.mem_cons.1 hq with rfl | hq
    · exact g1
    · exact g2 q hq
theorem insK_at : ∀ {c : Sb} {l : List Lk} {k : Nat} {s : Sb} {m : It} {r : Sb}, k ≤ l.length → (nsOf c l).Nodup → At R t a lo c → (∀ p ∈ l, At R t a lo p.2) → (∀ z, z ∈ nsOf c l → z ∉ (kid c l k).ns → R1 z = R z) → At R1 t a lo s → At R1 t a lo r →
    At R1 t a lo (insK c l k s m r).1 ∧ ∀ p ∈ (insK c l k s m r).2, At R1 t a lo p.2
  | c, l, 0, s, m, r, _, hn, hc, hl, hf, hs, hr => by
    have hk : kid c l 0 = c := by cases l <;> rfl
    have e : insK c l 0 s m r = (s, (m, r) :: l) := by cases l <;> rfl
    rw [hk] at hf
    rw [e]
    refine ⟨hs, fun q hq => ?_⟩
    rcases List.mem_cons.1 hq with rfl | hp
    · exact hr
    · exact (hl q hp).congr fun z hz => hf z (mem_ns hp hz) fun hz2 => (List.nodup_append.1 hn).2.2 z hz2 z (List.mem_flatMap.2 ⟨q, hp, hz⟩) rfl
  | c, [], k + 1, s, m, r, h, _, _, _, _, _, _ => absurd h (by simp)
  | c, p :: l, k + 1, s, m, r, h, hn, hc, hl, hf, hs, hr => by
    rw [nsOf_cons] at hn
    obtain ⟨n1, n2, n3⟩ := List.nodup_append.1 hn
    have hk : k ≤ l.length := by simpa using h
    obtain ⟨g1, g2⟩ := insK_at (c := p.2) (l := l) (k := k) (s := s) (m := m) (r := r) hk n2 (hl p (by simp)) (fun q hq => hl q (List.mem_cons_of_mem _ hq)) (fun z hz hz2 => hf z (by rw [nsOf_cons]; exact List.mem_append.2 (.inr hz)) hz2) hs hr
    refine ⟨hc.congr fun z hz => hf z (by rw [nsOf_cons]; exact List.mem_append.2 (.inl hz)) fun hz2 => n3 z hz z (kid_ns hk hz2) rfl, fun q hq => ?_⟩
    rcases List.mem_cons.1 hq with rfl | hq
    · exact g1
    · exact g2 q hq
theorem rsum_kids : ∀ (c : Sb) (l : List Lk) (b : Nat), (bnG R t c.h).size = c.its.length → (∀ p ∈ l, (bnG R t p.2.h).size = p.2.its.length) → b + (c.its ++ l.flatMap fun p => p.2.its).length < 18446744073709551616 →
    rsum R t (c.h :: l.map (·.2.h)) b = b + (c.its ++ l.flatMap fun p => p.2.its).length
  | c, [], b, h1, _, h3 => by
    simp only [List.flatMap_nil, List.append_nil] at h3 ⊢
    simp only [rsum, List.map_nil, List.foldl_cons, List.foldl_nil, h1]
    exact Nat.mod_eq_of_lt h3
  | c, p :: l, b, h1, h2, h3 => by
    simp only [List.flatMap_cons, List.length_append] at h3
    have ih := rsum_kids p.2 l (b + c.its.length) (h2 p (by simp)) (fun q hq => h2 q (List.mem_cons_of_mem _ hq)) (by simp only [List.length_append]; omega)
    unfold rsum at ih ⊢
    rw [List.map_cons, List.foldl_cons, h1, Nat.mod_eq_of_lt (by omega), ih]
    simp only [List.flatMap_cons, List.length_append]
    omega
theorem its_len : ∀ (c : Sb) (l : List Lk), (itsOf c l).length = l.length + (c.its ++ l.flatMap fun p => p.2.its).length
  | c, [] => by simp [itsOf, rest]
  | c, p :: l => by
    have := its_len p.2 l
    rw [itsOf_cons]
    simp only [List.length_append, List.length_cons, List.flatMap_cons] at this ⊢
    omega
theorem node_keys (c : Sb) (l : List Lk) : (nodeOf c l).keys.length = l.length ∧ (nodeOf c l).vals.length = l.length ∧ (nodeOf c l).kids.length = l.length + 1 := by simp [nodeOf]
theorem node_fits {c : Sb} {l : List Lk} (h1 : l.length ≤ 2 * t - 1) (h0 : 0 ∉ (c.h :: l.map (·.2.h))) : (nodeOf c l).Fits t := by
  obtain ⟨e1, e2, e3⟩ := node_keys c l
  exact ⟨by omega, by omega, .inr ⟨by omega, h0⟩⟩
theorem leaf_fits {l : List It} (h1 : l.length ≤ 2 * t - 1) : (leafOf l).Fits t := ⟨by simpa [leafOf] using h1, by simp [leafOf], .inl rfl⟩
def Rec (R : Nat → Option (List Nat)) (t x : Nat) : Prop := ∃ ws, R x = some ws ∧ ws.length = 6 * t
theorem BnAt.rec {n : BN} {x : Nat} (h : BnAt R t x n) : Rec R t x := ⟨_, h.1, BN.wd_len t n⟩
theorem At.rec {s : Sb} (h : At R t a lo s) : Rec R t s.h := by
  obtain ⟨n, h1, _⟩ := h.node
  exact ⟨_, h1.1, BN.wd_len t n⟩
theorem bsplit_small {x : Nat} {st : List Nat} {n : BN} (hr : Rec R t x) (hf : n.Fits t) (hl : n.keys.length < 2 * t) : bsplit R t x st n = (updR R x (some (n.wd t)), st, none) := by
  obtain ⟨ws, h1, h2⟩ := hr
  unfold bsplit
  rw [if_pos hl, bputR_same hf h1 h2]
theorem upd_rec {x y : Nat} {n : BN} (h : Rec R t y) : Rec (updR R x (some (n.wd t))) t y := by
  by_cases e : y = x
  · subst e; exact ⟨_, updR_same _ _ _, BN.wd_len t n⟩
  · obtain ⟨ws, h1, h2⟩ := h
    exact ⟨ws, (updR_other e).trans h1, h2⟩
theorem bsplit_great {x y : Nat} {st : List Nat} {n left right : BN} (hx : Rec R t x) (hy : Rec R t y) (hl : 2 * t ≤ n.keys.length) (hL : leftOf t n (rightOf R t n).size = left) (hR : rightOf R t n = right) (f1 : left.Fits t) (f2 : right.Fits t) :
    bsplit R t x (y :: st) n = (updR (updR R x (some (left.wd t))) y (some (right.wd t)), st, some (n.keys.getD t 0, n.vals.getD t 0, y)) := by
  obtain ⟨ws, h1, h2⟩ := hx
  obtain ⟨ws', h3, h4⟩ := upd_rec (x := x) (n := left) hy
  unfold bsplit btake
  rw [if_neg (by omega), hL, hR, bputR_same f1 h1 h2]
  simp only
  rw [bputR_same f2 h3 h4]
theorem more_eq {n m : BN} (h1 : n.keys = m.keys) (h2 : n.vals = m.vals) (h3 : n.kids = m.kids) (h4 : n.size + 1 = m.size) (hb : m.size < 18446744073709551616) : n.more = m := by
  refine BN.ext' h1 h2 h3 ?_
  show (n.size + 1) % 18446744073709551616 = m.size
  rw [h4, Nat.mod_eq_of_lt hb]
theorem map_kh (l : List Lk) : l.map (·.1.kh) = (l.map (·.1)).map (·.kh) := by simp
theorem map_vh (l : List Lk) : l.map (·.1.vh) = (l.map (·.1)).map (·.vh) := by simp
theorem setKid_node {c : Sb} {l : List Lk} {k : Nat} {s : Sb} (hk : k ≤ l.length) (he : s.h = (kid c l k).h) (hl : s.its.length = (kid c l k).its.length + 1) (hb : (itsOf c l).length + 1 < 18446744073709551616) :
    (nodeOf c l).more = nodeOf (setKid c l k s).1 (setKid c l k s).2 ∧ (itsOf (setKid c l k s).1 (setKid c l k s).2).length = (itsOf c l).length + 1 := by
  have e : (itsOf (setKid c l k s).1 (setKid c l k s).2).length = (itsOf c l).length + 1 := by
    rw [setKid_its c l k s hk, parts_at c l k hk]
    simp only [List.length_append, hl]
    omega
  refine ⟨more_eq ?_ ?_ ?_ ?_ ?_, e⟩
  · show l.map (·.1.kh) = _
    rw [map_kh, ← setKid_keys c l k s hk, ← map_kh]; rfl
  · show l.map (·.1.vh) = _
    rw [map_vh, ← setKid_keys c l k s hk, ← map_vh]; rfl
  · exact (setKid_hs c l k s hk he).symm
  · exact e.symm
  · show (itsOf _ _).length < _
    rw [e]; exact hb
theorem insK_node {c : Sb} {l : List Lk} {k : Nat} {s : Sb} {m : It} {r : Sb} (hk : k ≤ l.length) (he : s.h = (kid c l k).h) (hl : s.its.length + 1 + r.its.length = (kid c l k).its.length + 1) (hb : (itsOf c l).length + 1 < 18446744073709551616) :
    (((nodeOf c l).insKV k m.kh m.vh).insKid (k + 1) r.h).more = nodeOf (insK c l k s m r).1 (insK c l k s m r).2 ∧ (itsOf (insK c l k s m r).1 (insK c l k s m r).2).length = (itsOf c l).length + 1 := by
  have e : (itsOf (insK c l k s m r).1 (insK c l k s m r).2).length = (itsOf c l).length + 1 := by
    rw [insK_its c l k s m r hk, parts_at c l k hk]
    simp only [List.length_append, List.length_cons]
    omega
  refine ⟨more_eq ?_ ?_ ?_ ?_ ?_, e⟩
  · show (l.map (·.1.kh)).take k ++ m.kh :: (l.map (·.1.kh)).drop k = (insK c l k s m r).2.map (·.1.kh)
    rw [map_kh, map_kh, insK_keys c l k s m r hk]
    simp only [List.map_append, List.map_cons, List.map_take, List.map_drop]
  · show (l.map (·.1.vh)).take k ++ m.vh :: (l.map (·.1.vh)).drop k = (insK c l k s m r).2.map (·.1.vh)
    rw [map_vh, map_vh, insK_keys c l k s m r hk]
    simp only [List.map_append, List.map_cons, List.map_take, List.map_drop]
  · exact (insK_hs c l k s m r hk he).symm
  · exact e.symm
  · show (itsOf _ _).length < _
    rw [e]; exact hb
theorem halves {l : List Lk} {t : Nat} (h : t < l.length) : ∃ A m d B, l = A ++ (m, d) :: B ∧ A.length = t ∧ B.length = l.length - (t + 1) ∧ l.take t = A ∧ l.drop (t + 1) = B := by
  refine ⟨l.take t, l[t].1, l[t].2, l.drop (t + 1), ?_, by rw [List.length_take]; omega, by rw [List.length_drop], rfl, rfl⟩
  have := List.take_append_drop t l
  rw [List.drop_eq_getElem_cons h] at this
  exact this.symm
theorem halves_its (c : Sb) (A : List Lk) (m : It) (d : Sb) (B : List Lk) : itsOf c (A ++ (m, d) :: B) = itsOf c A ++ m :: itsOf d B := by
  unfold itsOf; rw [rest_append, rest_cons]; simp
theorem halves_ns (c : Sb) (A : List Lk) (m : It) (d : Sb) (B : List Lk) : nsOf c (A ++ (m, d) :: B) = nsOf c A ++ nsOf d B := by simp [nsOf]
theorem halves_nodes {c : Sb} {A : List Lk} {m : It} {d : Sb} {B : List Lk} (ht : A.length = t) (hd : (bnG R t d.h).size = d.its.length) (hB : ∀ p ∈ B, (bnG R t p.2.h).size = p.2.its.length) (hb : (itsOf c (A ++ (m, d) :: B)).length < 18446744073709551616) :
    rightOf R t (nodeOf c (A ++ (m, d) :: B)) = nodeOf d B ∧ leftOf t (nodeOf c (A ++ (m, d) :: B)) (itsOf d B).length = nodeOf c A ∧ (nodeOf c (A ++ (m, d) :: B)).keys.getD t 0 = m.kh ∧ (nodeOf c (A ++ (m, d) :: B)).vals.getD t 0 = m.vh := by
  have hl := congrArg List.length (halves_its c A m d B)
  simp only [List.length_append, List.length_cons] at hl
  have hkids : (nodeOf c (A ++ (m, d) :: B)).kids.drop (t + 1) = d.h :: B.map (·.2.h) := by
    show (c.h :: (A ++ (m, d) :: B).map (·.2.h)).drop (t + 1) = _
    rw [List.drop_succ_cons, List.map_append, List.drop_left' (by rw [List.length_map]; exact ht)]
    rfl
  have hrs : rsum R t (d.h :: B.map (·.2.h)) B.length = (itsOf d B).length := by
    have h9 := its_len d B
    rw [rsum_kids d B B.length hd hB (by omega), h9]
  refine ⟨BN.ext' ?_ ?_ hkids ?_, BN.ext' ?_ ?_ ?_ ?_, ?_, ?_⟩
  · show ((A ++ (m, d) :: B).map (·.1.kh)).drop (t + 1) = B.map (·.1.kh)
    rw [List.map_append, List.map_cons, ← List.singleton_append, ← List.append_assoc, List.drop_left' (by simp [ht])]
  · show ((A ++ (m, d) :: B).map (·.1.vh)).drop (t + 1) = B.map (·.1.vh)
    rw [List.map_append, List.map_cons, ← List.singleton_append, ← List.append_assoc, List.drop_left' (by simp [ht])]
  · show rsum R t ((nodeOf c (A ++ (m, d) :: B)).kids.drop (t + 1)) ((nodeOf c (A ++ (m, d) :: B)).keys.length - (t + 1)) = (itsOf d B).length
    rw [hkids, show (nodeOf c (A ++ (m, d) :: B)).keys.length - (t + 1) = B.length by simp [nodeOf, ht]; omega, hrs]
  · show ((A ++ (m, d) :: B).map (·.1.kh)).take t = A.map (·.1.kh)
    rw [List.map_append, List.take_left' (by rw [List.length_map]; exact ht)]
  · show ((A ++ (m, d) :: B).map (·.1.vh)).take t = A.map (·.1.vh)
    rw [List.map_append, List.take_left' (by rw [List.length_map]; exact ht)]
  · show (c.h :: (A ++ (m, d) :: B).map (·.2.h)).take (t + 1) = c.h :: A.map (·.2.h)
    rw [List.take_succ_cons, List.map_append, List.take_left' (by rw [List.length_map]; exact ht)]
  · show ((itsOf c (A ++ (m, d) :: B)).length + 36893488147419103232 - (itsOf d B).length - 1) % 18446744073709551616 = (itsOf c A).length
    omega
  · show ((A ++ (m, d) :: B).map (·.1.kh)).getD t 0 = m.kh
    rw [List.getD_eq_getElem?_getD, List.getElem?_map, List.getElem?_append_right (by omega), ht, Nat.sub_self]
    rfl
  · show ((A ++ (m, d) :: B).map (·.1.vh)).getD t 0 = m.vh
    rw [List.getD_eq_getElem?_getD, List.getElem?_map, List.getElem?_append_right (by omega), ht, Nat.sub_self]
    rfl
theorem leaf_halves {A B : List It} {m : It} (ht : A.length = t) (hb : A.length + B.length + 1 < 18446744073709551616) :
    rightOf R t (leafOf (A ++ m :: B)) = leafOf B ∧ leftOf t (leafOf (A ++ m :: B)) B.length = leafOf A ∧ (leafOf (A ++ m :: B)).keys.getD t 0 = m.kh ∧ (leafOf (A ++ m :: B)).vals.getD t 0 = m.vh := by
  refine ⟨BN.ext' ?_ ?_ ?_ ?_, BN.ext' ?_ ?_ ?_ ?_, ?_, ?_⟩
  · show ((A ++ m :: B).map (·.kh)).drop (t + 1) = B.map (·.kh)
    rw [List.map_append, List.map_cons, ← List.singleton_append, ← List.append_assoc, List.drop_left' (by simp [ht])]
  · show ((A ++ m :: B).map (·.vh)).drop (t + 1) = B.map (·.vh)
    rw [List.map_append, List.map_cons, ← List.singleton_append, ← List.append_assoc, List.drop_left' (by simp [ht])]
  · show ([] : List Nat).drop (t + 1) = []
    simp
  · show rsum R t (([] : List Nat).drop (t + 1)) (((A ++ m :: B).map (·.kh)).length - (t + 1)) = B.length
    simp only [List.drop_nil, rsum, List.foldl_nil, List.length_map, List.length_append, List.length_cons]
    omega
  · show ((A ++ m :: B).map (·.kh)).take t = A.map (·.kh)
    rw [List.map_append, List.take_left' (by rw [List.length_map]; exact ht)]
  · show ((A ++ m :: B).map (·.vh)).take t = A.map (·.vh)
    rw [List.map_append, List.take_left' (by rw [List.length_map]; exact ht)]
  · show ([] : List Nat).take (t + 1) = []
    simp
  · show ((A ++ m :: B).length + 36893488147419103232 - B.length - 1) % 18446744073709551616 = A.length
    simp only [List.length_append, List.length_cons]
    omega
  · show ((A ++ m :: B).map (·.kh)).getD t 0 = m.kh
    rw [List.getD_eq_getElem?_getD, List.getElem?_map, List.getElem?_append_right (by omega), ht, Nat.sub_self]
    rfl
  · show ((A ++ m :: B).map (·.vh)).getD t 0 = m.vh
    rw [List.getD_eq_getElem?_getD, List.getElem?_map, List.getElem?_append_right (by omega), ht, Nat.sub_self]
    rfl
end
end Bt
end Go.Proofs.YtjcpclcmnhpgpaaGreatDoor

set_option linter.unusedVariables false
set_option linter.unusedSimpArgs false
namespace Go.Proofs.YtjcpclcmnhpgpaaGreatDoor
open Go.RowKit Go.Shelf
section
variable (R : Nat → Option (List Nat)) (t : Nat)
def bnodes (most : Nat) : Nat → List Nat → Nat → List Nat
  | 0, out, _ => out
  | f + 1, out, h => if bnE R t h ≠ 0 ∨ most ≤ out.length then out else (bnG R t h).kids.foldl (bnodes most f) (out ++ [h])
def bheight : Nat → Nat → Nat
  | 0, _ => 0
  | f + 1, x => if bnE R t x ≠ 0 then 0 else if (bnG R t x).kids = [] then 1 else bheight f ((bnG R t x).kids.getD 0 0) + 1
end
namespace Bt
section
variable {R : Nat → Option (List Nat)} {t : Nat}
theorem fold_nodes_of {most f : Nat} {P : Sb → Prop} (h : ∀ (out : List Nat) (s : Sb), P s → out.length + s.ns.length ≤ most → bnodes R t most f out s.h = out ++ s.ns) : ∀ (l : List Sb) (out : List Nat), (∀ s ∈ l, P s) → out.length + (l.flatMap (·.ns)).length ≤ most → (l.map (·.h)).foldl (bnodes R t most f) out = out ++ l.flatMap (·.ns)
  | [], out, _, _ => by simp
  | s :: l, out, hp, hb => by
    simp only [List.flatMap_cons, List.length_append] at hb
    rw [List.map_cons, List.foldl_cons, h out s (hp s (by simp)) (by omega), fold_nodes_of h l _ (fun q hq => hp q (by simp [hq])) (by rw [List.length_append]; omega)]
    simp
def subs (c : Sb) (l : List Lk) : List Sb := c :: l.map (·.2)
theorem subs_hs (c : Sb) (l : List Lk) : (subs c l).map (·.h) = c.h :: l.map (·.2.h) := by simp [subs]
theorem subs_ns (c : Sb) (l : List Lk) : (subs c l).flatMap (·.ns) = nsOf c l := by simp [subs, nsOf, List.flatMap_map]
theorem subs_all {P : Sb → Prop} {c : Sb} {l : List Lk} (h1 : P c) (h2 : ∀ p ∈ l, P p.2) : ∀ s ∈ subs c l, P s := by
  intro s hs
  rcases List.mem_cons.1 hs with rfl | hs
  · exact h1
  · obtain ⟨p, hp, rfl⟩ := List.mem_map.1 hs; exact h2 p hp
theorem ns_len {a lo : Nat} {s : Sb} (h : At R t a lo s) : 1 ≤ s.ns.length := List.length_pos_iff.2 (List.ne_nil_of_mem (ns_pos h))
theorem nodes_right (ht : BN.Deg t) (most : Nat) : ∀ (a lo f : Nat) (s : Sb) (out : List Nat), At R t a lo s → a < f → out.length + s.ns.length ≤ most → bnodes R t most f out s.h = out ++ s.ns := by
  intro a
  induction a with
  | zero =>
    intro lo f s out h hf hb
    obtain ⟨f, rfl⟩ : ∃ g, f = g + 1 := ⟨f - 1, by omega⟩
    obtain ⟨e1, e2⟩ := h.2.2.get ht
    conv => lhs; unfold bnodes
    have hl := ns_len h
    rw [if_neg (by rw [e2]; omega), e1, show (leafOf s.its).kids = [] from rfl, List.foldl_nil, h.1]
  | succ a ih =>
    intro lo f s out h hf hb
    obtain ⟨f, rfl⟩ : ∃ g, f = g + 1 := ⟨f - 1, by omega⟩
    have hl := ns_len h
    obtain ⟨c, l, h1, h2, h3, h4, h5, h6⟩ := h
    obtain ⟨e1, e2⟩ := h4.get ht
    conv => lhs; unfold bnodes
    rw [h2] at hb ⊢
    rw [List.length_cons] at hb
    rw [if_neg (by rw [e2]; omega), e1, show (nodeOf c l).kids = (subs c l).map (·.h) from (subs_hs c l).symm]
    rw [fold_nodes_of (P := At R t a (t - 1)) (fun o s hs ho => ih (t - 1) f s o hs (by omega) ho) (subs c l) _ (subs_all h5 h6) (by rw [subs_ns, List.length_append, List.length_singleton]; omega), subs_ns]
    simp
theorem height_right (ht : BN.Deg t) : ∀ (a lo f : Nat) (s : Sb), At R t a lo s → a < f → bheight R t f s.h = a + 1 := by
  intro a
  induction a with
  | zero =>
    intro lo f s h hf
    obtain ⟨f, rfl⟩ : ∃ g, f = g + 1 := ⟨f - 1, by omega⟩
    obtain ⟨e1, e2⟩ := h.2.2.get ht
    conv => lhs; unfold bheight
    rw [if_neg (by rw [e2]; simp), e1, if_pos (show (leafOf s.its).kids = [] from rfl)]
  | succ a ih =>
    intro lo f s h hf
    obtain ⟨f, rfl⟩ : ∃ g, f = g + 1 := ⟨f - 1, by omega⟩
    obtain ⟨c, l, h1, h2, h3, h4, h5, h6⟩ := h
    obtain ⟨e1, e2⟩ := h4.get ht
    conv => lhs; unfold bheight
    rw [if_neg (by rw [e2]; simp), e1, if_neg (show ¬ (nodeOf c l).kids = [] by simp [nodeOf])]
    show bheight R t f c.h + 1 = _
    rw [ih (t - 1) f c h5 (by omega)]
end
end Bt
end Go.Proofs.YtjcpclcmnhpgpaaGreatDoor
