/-
  The seat's own texts, part r: Prs, Prs2, Prs3, Grow, MadeP, ReadT, Law.
-/
import Derived.Test.YtijpmjaeanocpaaGreatDoorAMq
import Derived.Laws.AppendOwnNone
import Derived.Maps.AppendAt
import Derived.Deep.QuietTactic
import Derived.BigQuiet
import Derived.Deep.DeepMust

set_option linter.unusedVariables false
set_option linter.unusedSimpArgs false
namespace Go.Proofs.YtijpmjaeanocpaaGreatDoor
open Go.RowKit Go.Shelf
abbrev Pr := ByteArray × ByteArray
def prsV (l : List Pr) : List Value := l.flatMap fun p => [.string p.1, .string p.2]
theorem prsV_len (l : List Pr) : (prsV l).length = l.length * 2 := by
  induction l with
  | nil => rfl
  | cons p l ih => simp only [prsV, List.flatMap_cons, List.length_append, List.length_cons, List.length_nil] at ih ⊢; omega
theorem prsV_append (l m : List Pr) : prsV (l ++ m) = prsV l ++ prsV m := by simp [prsV]
theorem prsV_at : ∀ (l : List Pr) (k : Nat) (h : k < l.length), (prsV l)[k * 2]? = some (.string l[k].1) ∧ (prsV l)[k * 2 + 1]? = some (.string l[k].2)
  | p :: l, 0, _ => ⟨rfl, rfl⟩
  | p :: l, k + 1, h => by
    have := prsV_at l k (by simpa using h)
    rw [show (k + 1) * 2 = k * 2 + 2 by omega]
    exact this
theorem prsV_drop : ∀ (l : List Pr) (k : Nat), prsV (l.drop k) = (prsV l).drop (k * 2)
  | [], k => by simp [prsV]
  | p :: l, 0 => by simp
  | p :: l, k + 1 => by
    rw [List.drop_succ_cons, prsV_drop l k, show (k + 1) * 2 = k * 2 + 2 by omega]
    rfl
theorem prsV_take : ∀ (l : List Pr) (k : Nat), prsV (l.take k) = (prsV l).take (k * 2)
  | [], k => by simp [prsV]
  | p :: l, 0 => by simp [prsV]
  | p :: l, k + 1 => by
    rw [List.take_succ_cons, show (k + 1) * 2 = k * 2 + 2 by omega]
    show [Value.string p.1, Value.string p.2] ++ prsV (l.take k) = _
    rw [prsV_take l k]
    rfl
theorem prsV_one (l : List Pr) : ∀ u ∈ prsV l, u.oneCell' = true := by
  intro u hu
  obtain ⟨p, _, hp⟩ := List.mem_flatMap.1 hu
  rcases List.mem_cons.1 hp with rfl | hp
  · rfl
  · rcases List.mem_cons.1 hp with rfl | hp
    · rfl
    · simp at hp
def Prs (w : World) (B : Nat) (A : Option Addr) (l : List Pr) : Prop :=
  l = [] ∨ ∃ b o, A = some ⟨b, o, none⟩ ∧ b < B ∧ ∀ j u, (prsV l)[j]? = some u → w.cell? ⟨b, o + j, none⟩ = some u
section
variable {w w' : World} {B B' : Nat} {A : Option Addr} {l : List Pr}
theorem Prs.nil (w : World) (B : Nat) (A : Option Addr) : Prs w B A [] := .inl rfl
theorem Prs.keep (h : Prs w B A l) (hk : ∀ b, b < B → w'.heap[b]? = w.heap[b]?) : Prs w' B A l := by
  rcases h with h | ⟨b, o, rfl, hb, hc⟩
  · exact .inl h
  · exact .inr ⟨b, o, rfl, hb, fun j u hu => (World.cell?_of_block (a := ⟨b, o + j, none⟩) (hk b hb)).trans (hc j u hu)⟩
theorem Prs.below (h : Prs w B A l) (hb : Below B w w') : Prs w' B A l := h.keep fun b hlt => hb.block b hlt
theorem Prs.more (h : Prs w B A l) (hB : B ≤ B') : Prs w B' A l := by
  rcases h with h | ⟨b, o, rfl, hb, hc⟩
  · exact .inl h
  · exact .inr ⟨b, o, rfl, by omega, hc⟩
theorem Prs.at' (h : Prs w B A l) {k : Nat} (hk : k < l.length) : ∃ b o, A = some ⟨b, o, none⟩ ∧ b < B ∧ w.cell? ⟨b, o + k * 2, none⟩ = some (.string l[k].1) ∧ w.cell? ⟨b, o + k * 2 + 1, none⟩ = some (.string l[k].2) := by
  rcases h with rfl | ⟨b, o, rfl, hb, hc⟩
  · simp at hk
  · obtain ⟨h1, h2⟩ := prsV_at l k hk
    exact ⟨b, o, rfl, hb, hc _ _ h1, by rw [Nat.add_assoc]; exact hc _ _ h2⟩
theorem Prs.take (h : Prs w B A l) (k : Nat) : Prs w B A (l.take k) := by
  rcases h with rfl | ⟨b, o, rfl, hb, hc⟩
  · left; simp
  · refine .inr ⟨b, o, rfl, hb, fun j u hu => hc j u ?_⟩
    rw [prsV_take, List.getElem?_take] at hu
    split at hu
    · exact hu
    · cases hu
theorem Prs.drop (h : Prs w B A l) {k c : Nat} (hk : k ≤ l.length) (hc : l.length ≤ c) : Prs w B (if c = k then A else A.map (·.add (k * 2))) (l.drop k) := by
  by_cases he : k = l.length
  · subst he; left; simp
  · rcases h with rfl | ⟨b, o, rfl, hb, hcell⟩
    · left; simp
    · rw [if_neg (by omega)]
      refine .inr ⟨b, o + k * 2, ?_, hb, fun j u hu => ?_⟩
      · show some ((⟨b, o, none⟩ : Addr).add (k * 2)) = _
        unfold Addr.add; split <;> simp_all
      · rw [Nat.add_assoc]
        refine hcell _ _ ?_
        rw [prsV_drop, List.getElem?_drop] at hu
        exact hu
theorem Prs.of_own {base n c : Nat} (h : w.ownsRow base 33 2 (.slice A n c) n (prsV l)) (hn : n = l.length) : Prs w w.heap.size A l := by
  by_cases hl : l = []
  · exact .inl hl
  · right
    have hp : 0 < l.length := List.length_pos_iff.2 hl
    rcases h.2 with ⟨_, h0⟩ | ⟨g, cap, cur, hv, hb, hg, _⟩
    · omega
    · cases hv
      refine ⟨g, 0, rfl, (Array.getElem?_eq_some_iff.1 hg).1, fun j u hu => ?_⟩
      have := h.cells (g := g) rfl j u hu
      rw [show (⟨g, 0, none⟩ : Addr).add j = ⟨g, j, none⟩ by unfold Addr.add; split <;> simp_all] at this
      rw [Nat.zero_add]
      exact this
theorem Tryz.under_pairs : Tryz.prog.underlying 31 = some (.slice 33) := by kernel_rfl
theorem Tryz.info_pair : (Tryz.prog.info? 33).map (fun i => (i.zero, i.size, i.bytes)) = some (some (.agg #[.string ⟨#[]⟩, .string ⟨#[]⟩]), 2, 32) := by kernel_rfl
theorem app_prs {ops : Array Oper} {rest : List Oper} {o : Oper} {a : Act} {Q : Exit → Act → World → Prop} (hgd : o.guard = none) (s x : Operand)
    (ho : o.op = .call { callee := .builtin .append, args := #[s, x], argTypes := #[31, 31] }) (w : World) (base : Nat) (v : Value) (xs : List Pr) (hs : a.eval s = v)
    (hown : w.ownsRow base 33 2 v xs.length (prsV xs)) (B : Nat) (A : Option Addr) (m c : Nat) (ys : List Pr) (hx : a.eval x = .slice A m c) (hm : m = ys.length) (hr : Prs w B A ys) (hA : A = none → c = 0) (hlen : xs.length + ys.length ≤ 4398046511104) (hbase : base ≤ w.heap.size)
    (h : ∀ v' w', w'.ownsRow base 33 2 v' (xs ++ ys).length (prsV (xs ++ ys)) → w.grownBy w' v.ownBlock → (v'.ownBlock = v.ownBlock ∨ v'.ownBlock = some w.heap.size) → wpList Tryz.prog ops Q rest (a.put o.dst v') w') :
    wpList Tryz.prog ops Q (o :: rest) a w := by
  obtain ⟨i0, hi, hz0, hz1, hz2⟩ := info_parts Tryz.info_pair
  subst hm
  cases A with
  | none =>
    have hy : ys = [] := by
      rcases hr with h | ⟨b, o, h, _⟩
      · exact h
      · cases h
    subst hy
    have := hA rfl
    subst this
    refine wpList_append_own_none hgd s x 31 ho base 33 i0 2 Tryz.under_pairs hi v xs.length (prsV xs) hs hown hx ?_
    exact h v w (by simpa using hown) (World.grownBy.refl w _) (.inl rfl)
  | some ad =>
    have hcells : ∀ j u, (prsV ys)[j]? = some u → w.cell? (ad.add j) = some u := by
      intro j u hu
      rcases hr with rfl | ⟨b, o, hA', _, hc⟩
      · simp [prsV] at hu
      · cases hA'
        rw [show (⟨b, o, none⟩ : Addr).add j = ⟨b, o + j, none⟩ by unfold Addr.add; split <;> simp_all]
        exact hc j u hu
    refine wpList_append_own_at w hgd s x 31 ho base 33 i0 (.agg #[.string ⟨#[]⟩, .string ⟨#[]⟩]) 2 32 Tryz.under_pairs hi hz0 hz1 hz2 rfl (by decide) v xs.length (prsV xs) hs hown ad ys.length c (prsV ys) hx (prsV_len ys) hcells (prsV_one ys) (by unfold maxLen; omega) (by omega) hbase ?_
    intro v' w' h1 h2 _ h4
    exact h v' w' (by rw [List.length_append, prsV_append]; exact h1) h2 h4
end
theorem rcmp_at (a b : ByteArray) (w : World) (ha : a.size ≤ 9223372036854775807) (hb : b.size ≤ 9223372036854775807) :
    Calls Tryz.prog 86 #[.string a, .string b] w fun e w' => e = .returned (.int .i64 (Tx.cmp a b)) ∧ Below w.heap.size w w' :=
  (Tx.refCmp_any a b w ha hb).mono fun e w' ⟨he, d, hd⟩ => ⟨he, by rw [hd]; exact Tx.drewN_below w d⟩
theorem rankL_take (l : List Pr) (k : Nat) (h : k < l.length) (key : ByteArray) : rankL (l.take (k + 1)) key = rankL (l.take k) key + if Tx.cmp l[k].1 key < 0 then 1 else 0 := by
  rw [List.take_succ_eq_append_getElem h, rankL_append, rankL_cons]
  simp [rankL]
def Sized (l : List Pr) : Prop := ∀ p ∈ l, p.1.size ≤ 9223372036854775807 ∧ p.2.size ≤ 9223372036854775807
set_option maxRecDepth 100000 in
theorem refRank_at {w : World} {B c : Nat} {A : Option Addr} {l : List Pr} (h : Prs w B A l) (hB : B ≤ w.heap.size) (hl : l.length ≤ 4398046511104) (hs : Sized l) (key : ByteArray) (hk : key.size ≤ 9223372036854775807) :
    Calls Tryz.prog 33 #[.slice A l.length c, .string key] w fun e w' => e = .returned (.int .i64 (rankL l key : Nat)) ∧ Below w.heap.size w w' := by
  have hH := Lib.hid h
  have hcm := Lib.hid (fun (p : Pr) (hp : p ∈ l) (W : World) => rcmp_at p.1 key W (hs p hp).1 hk)
  clear h hs
  go_enter Tryz.func33, Tryz.ntmps33
  go_wp2_with fail
  go_loopw [5, 6] (fun nv iv wr => ∃ k : Nat, k ≤ l.length ∧ iv = .int .i64 k ∧ nv = .int .i64 (rankL (l.take k) key : Nat) ∧ Hid (Below w.heap.size w wr)) (fun _ iv _ => l.length - (intOf iv).toNat)
  case atStart => exact ⟨0, by omega, rfl, rfl, Lib.hid (Below.refl _ _)⟩
  case round =>
    obtain ⟨k, hk2, rfl, rfl, hb⟩ := hrel
    have hr := rankL_le (l.take k) key
    rw [List.length_take] at hr
    have hr2 : rankL (l.take k) key ≤ k := by omega
    by_cases hlt : k < l.length
    · obtain ⟨b, o, hA, _, c1, _⟩ := (hH.out.below (hb.out.mono hB)).at' hlt
      have hrk := Lib.hid (rankL_take l k hlt key)
      have hcall := Lib.hid (hcm.out l[k] (List.getElem_mem hlt))
      generalize l[k] = p at *
      obtain ⟨z, hz⟩ : ∃ z, Tx.cmp p.1 key = z := ⟨_, rfl⟩
      rw [hz] at hrk hcall
      clear hz hr
      generalize hn9 : rankL (l.take k) key = n9 at *
      clear hn9
      subst hA
      have hz0 : z < 0 ∨ ¬ z < 0 := by omega
      rcases hz0 with h0 | h0
      all_goals
        go_wp2_with fail
        refine (hcall.out _).mono ?_
        rintro e w1 ⟨rfl, hb1⟩
        have hb1H := Lib.hid (hb.out.trans (hb1.mono hb.out.size))
        clear hb1 c1
        go_wp2
        go_roundw
        case rel => exact ⟨k + 1, by omega, by go_num, by rw [hrk.out]; first | (rw [if_pos h0]; go_num) | (rw [if_neg (by omega)]; rfl), hb1H⟩
        case measure => simp [intOf]; omega
    · obtain rfl : k = l.length := by omega
      have hfin : Hid (rankL (l.take l.length) key = rankL l key) := Lib.hid (by rw [List.take_length])
      go_wp2
      go_ret
      exact ⟨by rw [hfin.out]; rfl, hb.out⟩
theorem str_beq (a b : ByteArray) : (a.toList == b.toList) = decide (a = b) := by
  rw [Tx.cmp_beq, Bool.eq_iff_iff, beq_iff_eq, decide_eq_true_iff, cmp_zero]
end Go.Proofs.YtijpmjaeanocpaaGreatDoor

set_option linter.unusedVariables false
set_option linter.unusedSimpArgs false
namespace Go.Proofs.YtijpmjaeanocpaaGreatDoor
open Go.RowKit Go.Shelf
def putL (l : List Pr) (p : Pr) : List Pr := l.take (rankL l p.1) ++ p :: l.drop (if (l[rankL l p.1]?).map (·.1) = some p.1 then rankL l p.1 + 1 else rankL l p.1)
theorem putL_len (l : List Pr) (p : Pr) : (putL l p).length ≤ l.length + 1 := by
  have := rankL_le l p.1
  unfold putL
  simp only [List.length_append, List.length_take, List.length_cons, List.length_drop]
  split <;> omega
theorem putL_mem {l : List Pr} {p q : Pr} (h : q ∈ putL l p) : q = p ∨ q ∈ l := by
  unfold putL at h
  rcases List.mem_append.1 h with h | h
  · exact .inr (List.mem_of_mem_take h)
  · rcases List.mem_cons.1 h with h | h
    · exact .inl h
    · exact .inr (List.mem_of_mem_drop h)
theorem Sized.put {l : List Pr} {p : Pr} (h : Sized l) (hp : p.1.size ≤ 9223372036854775807 ∧ p.2.size ≤ 9223372036854775807) : Sized (putL l p) := fun q hq => by
  rcases putL_mem hq with rfl | hq
  · exact hp
  · exact h q hq
theorem own2_lt {w : World} {base : Nat} {e : TypeId} {v : Value} {n : Nat} {xs : List Value} (h : w.ownsRow base e 2 v n xs) {k : Nat} (hk : v.ownBlock = some k) : base ≤ k ∧ k < w.heap.size := by
  rcases h.2 with ⟨rfl, _⟩ | ⟨g, cap, cur, rfl, h2, h3, _⟩
  · simp [Value.ownBlock] at hk
  · have : g = k := by simpa [Value.ownBlock] using hk
    subst this
    exact ⟨h2, (Array.getElem?_eq_some_iff.1 h3).1⟩
theorem own_lower {w : World} {base base' size : Nat} {e : TypeId} {v : Value} {n : Nat} {xs : List Value} (h : w.ownsRow base e size v n xs) (hb : base' ≤ base) : w.ownsRow base' e size v n xs := by
  refine ⟨h.1, ?_⟩
  rcases h.2 with h0 | ⟨g, cap, cur, h1, h2, h3⟩
  · exact .inl h0
  · exact .inr ⟨g, cap, cur, h1, by omega, h3⟩
theorem own_empty (w : World) (e : TypeId) : (w.alloc (.cells #[] e)).ownsRow w.heap.size e 2 (.slice (some ⟨w.heap.size, 0, none⟩) 0 0) 0 [] :=
  ⟨rfl, .inr ⟨w.heap.size, 0, #[], rfl, Nat.le_refl _, World.alloc_heap_new w _, Nat.le_refl _, Nat.zero_le _, rfl, rfl⟩⟩
theorem prs_one (w : World) (p : Pr) : Prs (w.alloc (.cells #[.string p.1, .string p.2] 33)) (w.heap.size + 1) (some ⟨w.heap.size, 0, none⟩) [p] := by
  refine .inr ⟨w.heap.size, 0, rfl, by omega, fun j u hu => ?_⟩
  have hn : (w.alloc (.cells #[.string p.1, .string p.2] 33)).heap[w.heap.size]? = some (.cells #[.string p.1, .string p.2] 33 (0, 0)) := World.alloc_heap_new w _
  generalize w.alloc (.cells #[.string p.1, .string p.2] 33) = V at *
  rcases j with _ | _ | j
  · simp [prsV] at hu; subst hu; simp [World.cell?, hn]
  · simp [prsV] at hu; subst hu; simp [World.cell?, hn]
  · simp [prsV] at hu
theorem slice_from (A : Option Addr) (n k c : Nat) (hk : k ≤ n) (hc : n ≤ c) : ∃ A', (∀ W, (Instr.sliceAt 31 (.slice A n c) (some (.int .i64 (k : Nat))) none none).run Tryz.prog W = .ok (.slice A' (n - k) (c - k)) W) ∧ (∀ W, (Instr.slice 31 (.slice A n c) (some (.int .i64 (k : Nat))) none none).run Tryz.prog W = .ok (.slice A' (n - k) (c - k)) W) ∧
    (∀ (W : World) (B : Nat) (l : List Pr), l.length = n → Prs W B A l → Prs W B A' (l.drop k)) ∧ ((A = none → c = 0) → A' = none → c - k = 0) := by
  have e2 : ∀ W, (Instr.slice 31 (.slice A n c) (some (.int .i64 (k : Nat))) none none).run Tryz.prog W = .ok (.slice (if c = k then A else A.map (·.add (k * 2))) (n - k) (c - k)) W := fun W => by
    rw [run_slice_l W 31 A n c (by kernel_rfl) .i64 (k : Nat) (by omega) (by omega)]
    rw [show Tryz.prog.elem 31 = 33 by kernel_rfl, show (sizeOf 33).run Tryz.prog W = .ok 2 W by kernel_rfl]
    simp [sliced, Result.andThen]
  refine ⟨if c = k then A else A.map (·.add (k * 2)), fun W => ?_, e2, fun W B l hl h => ?_, fun hA h => ?_⟩
  · rw [run_sliceAt_slice W 31 _ _ _ _ (by kernel_rfl)]
    exact e2 W
  · exact h.drop (by omega) (by omega)
  · by_cases he : c = k
    · omega
    · rw [if_neg he] at h
      cases A with
      | none => have := hA rfl; omega
      | some a => cases h
theorem own_below {w w1 w2 : World} {base : Nat} {e : TypeId} {n : Nat} {v : Value} {xs : List Value} (hb : Below base w w1) (hown : w1.ownsRow base e 2 v n xs) (hg : w1.grownBy w2 v.ownBlock) (hB : base ≤ w1.heap.size) : Below base w w2 :=
  hb.trans ⟨hg.os, hg.tape, hg.output, hg.size, fun k hk => hg.block k (by omega) (fun e => by
    rcases hown.2 with ⟨rfl, _⟩ | ⟨g, cap, cur, rfl, hge, _⟩
    · simp [Value.ownBlock] at e
    · have : k = g := by simpa [Value.ownBlock] using e
      omega)⟩
set_option maxHeartbeats 2000000 in
set_option maxRecDepth 100000 in
theorem refPut_at {w : World} {B c : Nat} {A : Option Addr} {l : List Pr} (h : Prs w B A l) (hB : B ≤ w.heap.size) (hA : A = none → c = 0) (hc : l.length ≤ c) (hl : l.length ≤ 4398046511103) (hs : Sized l) (p : Pr) (hk : p.1.size ≤ 9223372036854775807) :
    Calls Tryz.prog 19 #[.slice A l.length c, .agg #[.string p.1, .string p.2]] w fun e w' => ∃ v, e = .returned v ∧ w'.ownsRow w.heap.size 33 2 v (putL l p).length (prsV (putL l p)) ∧ Below w.heap.size w w' := by
  have hR := Lib.hid (fun W (hb : Below w.heap.size w W) => refRank_at (c := c) (h.below (hb.mono hB)) (Nat.le_trans hB hb.size) (by omega) hs p.1 hk)
  have hle := rankL_le l p.1
  obtain ⟨P, hP⟩ : ∃ P, putL l p = P := ⟨_, rfl⟩
  have hv : P = l.take (rankL l p.1) ++ p :: l.drop (if (l[rankL l p.1]?).map (·.1) = some p.1 then rankL l p.1 + 1 else rankL l p.1) := hP ▸ rfl
  rw [hP]
  have hH := Lib.hid h
  generalize rankL l p.1 = n at *
  obtain ⟨b, hb⟩ : ∃ b : Bool, ((l[n]?).map (·.1) = some p.1 ↔ b = true) := ⟨decide ((l[n]?).map (·.1) = some p.1), by simp⟩
  obtain ⟨n', hn'⟩ : ∃ n', n' = if b = true then n + 1 else n := ⟨_, rfl⟩
  have hv2 : P = l.take n ++ p :: l.drop n' := by
    rw [hv, hn']
    by_cases hq : (l[n]?).map (·.1) = some p.1
    · simp only [if_pos hq, if_pos (hb.1 hq)]
    · simp only [if_neg hq, if_neg (fun e => hq (hb.2 e))]
  have hbl : b = true → n < l.length := fun e => by
    have := hb.2 e
    by_cases h : n < l.length
    · exact h
    · rw [List.getElem?_eq_none (by omega)] at this; cases this
  have hn'l : n' ≤ l.length := by
    rw [hn']
    split
    · have := hbl ‹_›; omega
    · omega
  have hn'H := Lib.hid hn'
  have hblH := Lib.hid hbl
  clear hn' hbl
  have hAH := Lib.hid hA
  obtain ⟨A', sl1, sl2, hdr, hA'⟩ := slice_from A l.length n' c hn'l hc
  have hdrH := Lib.hid hdr
  have hA'H := Lib.hid (hA' hA)
  clear hdr hA'
  have htl : n = (l.take n).length := by rw [List.length_take]; omega
  have htlH := Lib.hid htl
  clear htl hA
  have hvH := Lib.hid hv2
  have hbH := Lib.hid hb
  clear h hs hP hv hv2 hb
  go_enter Tryz.func19, Tryz.ntmps19
  go_wp2_with fail
  have hb0 : Below w.heap.size w (w.alloc (Obj.cells #[Value.string p.1, Value.string p.2] 33)) := (Below.refl _ w).alloc (Nat.le_refl _) _
  have q0 : (w.alloc (Obj.cells #[Value.string p.1, Value.string p.2] 33)).cell? ⟨w.heap.size, 0, none⟩ = some (.string p.1) := by go_simp
  have q1 : (w.alloc (Obj.cells #[Value.string p.1, Value.string p.2] 33)).cell? ⟨w.heap.size, 1, none⟩ = some (.string p.2) := by go_simp
  refine (hR.out _ hb0).mono ?_
  rintro e w1 ⟨rfl, hb1⟩
  have hbw1 := hb0.trans (hb1.mono hb0.size)
  have r0 := (hb1.cell (p := ⟨w.heap.size, 0, none⟩) (cell_lt q0)).trans q0
  have r1 := (hb1.cell (p := ⟨w.heap.size, 1, none⟩) (cell_lt q1)).trans q1
  have hlt1 : w.heap.size < w1.heap.size := cell_lt (a := ⟨w.heap.size, 0, none⟩) r0
  have hbwH := Lib.hid hbw1
  clear hb1 hbw1 q0 q1 hb0
  have hown0 := Lib.hid (own_empty w1 33)
  have hP1 := Lib.hid ((hH.out.below (hbwH.out.mono hB)).more (Nat.le_trans hB hbwH.out.size))
  have r0H := Lib.hid r0
  have tok : True := trivial
  go_wp2_with (first
    | (at_builtin; have _t := tok; go_must (refine app_prs rfl (.tmp 11) (.tmp 14) rfl _ w1.heap.size _ [] rfl hown0.out w1.heap.size A n c (l.take n) rfl htlH.out ((hP1.out.below ((Below.refl _ w1).alloc (Nat.le_refl _) _)).take n) hAH.out (by simp; omega) (by simp) ?_); intro v2 w2 hown2 hg2 _; clear tok; have hb2 := own_below ((Below.refl _ w1).alloc (Nat.le_refl _) _) hown0.out hg2 (by simp); have s0 := (hb2.cell (p := ⟨w.heap.size, 0, none⟩) (cell_lt r0)).trans r0; have s1 := (hb2.cell (p := ⟨w.heap.size, 1, none⟩) (cell_lt r1)).trans r1; have hb2H := Lib.hid hb2; have hown2H := Lib.hid hown2; clear hb2 hown2 hg2 r0 r1)
    | (at_builtin; go_must (refine app_prs rfl (.tmp 16) (.tmp 18) rfl _ w1.heap.size _ ([] ++ l.take n) rfl (hown2H.out.alloc _) (w2.heap.size + 1) _ 1 1 [p] rfl rfl (prs_one w2 p) (fun e => by cases e) (by simp; omega) (by have := hb2H.out.size; simp; omega) ?_); intro v3 w3 hown3 hg3 _; have hb3 := own_below (hb2H.out.alloc hb2H.out.size _) (hown2H.out.alloc _) hg3 (by have := hb2H.out.size; simp; omega)))
  have hb3H := Lib.hid hb3
  have hown3H := Lib.hid hown3
  have u0 := (hb3.cell (p := ⟨w.heap.size, 0, none⟩) (cell_lt r0H.out)).trans r0H.out
  have hP3 := Lib.hid (hP1.out.below hb3)
  clear hb3 hown3 hg3 s0 s1
  have hP4 := Lib.hid (hdrH.out w3 w1.heap.size l rfl hP3.out)
  have hdl : Hid (l.length - n' = (l.drop n').length) := Lib.hid (by rw [List.length_drop])
  have hP5 : Hid (P = [] ++ l.take n ++ [p] ++ l.drop n') := Lib.hid (by rw [hvH.out]; simp)
  by_cases hlt : n < l.length
  · have hd : decide (n < l.length) = true := by simp; omega
    obtain ⟨bb, oo, hAs, _, c1, _⟩ := hP3.out.at' hlt
    subst hAs
    have hsb := str_beq l[n].1 p.1
    have hbn := hbH.out
    rw [List.getElem?_eq_getElem hlt, Option.map_some, Option.some.injEq] at hbn
    generalize l[n] = pn at *
    cases b with
    | true =>
      have hq : (pn.1.toList == p.1.toList) = true := by rw [hsb]; exact decide_eq_true (hbn.2 rfl)
      rw [if_pos rfl] at hn'H
      have hn2 := hn'H.out
      subst hn2
      clear hbn hsb hn'H
      push_cast at sl1 sl2
      go_wp2
      go_quiet (fail)
      go_wp2_with (at_builtin; go_must (refine app_prs rfl (.tmp 36) (.tmp 39) rfl _ w1.heap.size _ ([] ++ l.take n ++ [p]) rfl hown3H.out w1.heap.size A' _ _ (l.drop (n + 1)) rfl hdl.out hP4.out hA'H.out (by simp; omega) hb3H.out.size ?_); intro v4 w4 hown4 hg4 _)
      have hb4 := Lib.hid (own_below (hb3H.out.trans ((Tx.drewN_below w3 _).mono hb3H.out.size)) hown3H.out hg4 hb3H.out.size)
      rw [← hP5.out] at hown4
      have hfin := Lib.hid (own_lower hown4 hbwH.out.size)
      go_ret
      exact ⟨v4, rfl, hfin.out, hbwH.out.trans (hb4.out.mono hbwH.out.size)⟩
    | false =>
      have hq : (pn.1.toList == p.1.toList) = false := by
        rw [hsb]
        refine decide_eq_false (fun e => ?_)
        have := hbn.1 e
        cases this
      rw [if_neg (by simp)] at hn'H
      have hn2 := hn'H.out
      subst hn2
      clear hbn hsb hn'H
      go_wp2
      go_quiet (fail)
      go_wp2_with (at_builtin; go_must (refine app_prs rfl (.tmp 36) (.tmp 39) rfl _ w1.heap.size _ ([] ++ l.take n' ++ [p]) rfl hown3H.out w1.heap.size A' _ _ (l.drop (n')) rfl hdl.out hP4.out hA'H.out (by simp; omega) hb3H.out.size ?_); intro v4 w4 hown4 hg4 _)
      have hb4 := Lib.hid (own_below (hb3H.out.trans ((Tx.drewN_below w3 _).mono hb3H.out.size)) hown3H.out hg4 hb3H.out.size)
      rw [← hP5.out] at hown4
      have hfin := Lib.hid (own_lower hown4 hbwH.out.size)
      go_ret
      exact ⟨v4, rfl, hfin.out, hbwH.out.trans (hb4.out.mono hbwH.out.size)⟩
  · have hd : decide (n < l.length) = false := by simp; omega
    have hbf : b = false := by
      cases b with
      | true => exact absurd (hblH.out rfl) hlt
      | false => rfl
    rw [hbf, if_neg (by simp)] at hn'H
    have hn2 := hn'H.out
    subst hn2
    clear hn'H hbf hlt
    go_wp2
    go_quiet (fail)
    go_wp2_with (at_builtin; go_must (refine app_prs rfl (.tmp 36) (.tmp 39) rfl _ w1.heap.size _ ([] ++ l.take n' ++ [p]) rfl hown3H.out w1.heap.size A' _ _ (l.drop (n')) rfl hdl.out hP4.out hA'H.out (by simp; omega) hb3H.out.size ?_); intro v4 w4 hown4 hg4 _)
    have hb4 := Lib.hid (own_below (hb3H.out.trans ((Tx.drewN_below w3 _).mono hb3H.out.size)) hown3H.out hg4 hb3H.out.size)
    rw [← hP5.out] at hown4
    have hfin := Lib.hid (own_lower hown4 hbwH.out.size)
    go_ret
    exact ⟨v4, rfl, hfin.out, hbwH.out.trans (hb4.out.mono hbwH.out.size)⟩
end Go.Proofs.YtijpmjaeanocpaaGreatDoor

set_option linter.unusedVariables false
set_option linter.unusedSimpArgs false
namespace Go.Proofs.YtijpmjaeanocpaaGreatDoor
open Go.RowKit Go.Shelf
theorem own_pairs {w : World} {base n : Nat} {v : Value} {l : List Pr} (h : w.ownsRow base 33 2 v n (prsV l)) (hn : n = l.length) : ∃ A c, v = .slice A l.length c ∧ (A = none → c = 0) ∧ l.length ≤ c ∧ Prs w w.heap.size A l := by
  subst hn
  rcases h.2 with ⟨h1, h0⟩ | ⟨g, cap, cur, h1, h2, h3, h4, _⟩
  · have : l = [] := List.eq_nil_of_length_eq_zero h0
    subst this
    exact ⟨none, 0, h1, fun _ => rfl, Nat.le_refl _, .inl rfl⟩
  · refine ⟨some ⟨g, 0, none⟩, cap, h1, (fun e => by cases e), h4, ?_⟩
    rw [h1] at h
    exact Prs.of_own h rfl
theorem Sized.take {l : List Pr} (h : Sized l) (k : Nat) : Sized (l.take k) := fun q hq => h q (List.mem_of_mem_take hq)
end Go.Proofs.YtijpmjaeanocpaaGreatDoor

set_option linter.unusedVariables false
set_option linter.unusedSimpArgs false
namespace Go.Proofs.YtijpmjaeanocpaaGreatDoor
open Go.RowKit Go.Shelf
structure GrowOut (R R' : Nat → Option (List Nat)) (t : BT) : Prop where
  at' : t.At R'
  nodup : t.hs.Nodup
  fresh : ∀ x ∈ t.hs, R x = none
  old : ∀ x, x ∉ t.hs → R' x = R x
  nz : ∀ x ∈ t.hs, x ≠ 0
theorem BT.At.congr {R R' : Nat → Option (List Nat)} : ∀ {t : BT}, t.At R → (∀ x ∈ t.hs, R' x = R x) → t.At R'
  | .nil, _, _ => trivial
  | .node h kh vh m k v l r, ⟨h1, h2, h3, h4, h5, h6, hl, hr⟩, he => by
    simp only [BT.hs, List.mem_append, List.mem_cons] at he
    exact ⟨h1, (he h (by simp)).trans h2, (he kh (by simp)).trans h3, (he vh (by simp)).trans h4, h5, h6, hl.congr (fun x hx => he x (.inl hx)), hr.congr (fun x hx => he x (.inr (.inr (.inr (.inr hx)))))⟩
theorem GrowOut.nil (R : Nat → Option (List Nat)) : GrowOut R R .nil := ⟨trivial, List.nodup_nil, fun x hx => by simp [BT.hs] at hx, fun x _ => rfl, fun x hx => by simp [BT.hs] at hx⟩
theorem GrowOut.some {R R' : Nat → Option (List Nat)} {t : BT} (g : GrowOut R R' t) {x : Nat} (hx : x ∈ t.hs) : R' x ≠ none := BT.hs_in t g.at' x hx
theorem GrowOut.keep {R R' : Nat → Option (List Nat)} {t : BT} (g : GrowOut R R' t) {x : Nat} (hx : R x ≠ none) : R' x = R x := g.old x (fun h => hx (g.fresh x h))
theorem grow_plain {R R3 R4 : Nat → Option (List Nat)} {xk xv h : Nat} {k v : ByteArray} {tl tr : BT} (hk : R xk = none) (k0 : xk ≠ 0) (hv : updR R xk (some (Tx.wordsL k.data.toList)) xv = none) (v0 : xv ≠ 0)
    (gl : GrowOut (updR (updR R xk (some (Tx.wordsL k.data.toList))) xv (some (Tx.wordsL v.data.toList))) R3 tl) (gr : GrowOut R3 R4 tr) (hh : R4 h = none) (h0 : h ≠ 0) (hks : k.size ≤ 1000) (hvs : v.size ≤ 1000) (m : Nat) :
    GrowOut R (updR R4 h (some (Nd.ws ⟨xk, xv, tl.root, tr.root, m, tl.size + 1 + tr.size⟩))) (.node h xk xv m k v tl tr) := by
  have hkv : xk ≠ xv := fun e => by rw [← e, updR_same] at hv; cases hv
  have hv2 : R xv = none := (updR_other (fun e => hkv e.symm)).symm.trans hv
  have e2k : updR (updR R xk (some (Tx.wordsL k.data.toList))) xv (some (Tx.wordsL v.data.toList)) xk = some (Tx.wordsL k.data.toList) := by rw [updR_other hkv, updR_same]
  have e2v : updR (updR R xk (some (Tx.wordsL k.data.toList))) xv (some (Tx.wordsL v.data.toList)) xv = some (Tx.wordsL v.data.toList) := updR_same _ _ _
  have e3k : R3 xk = some (Tx.wordsL k.data.toList) := by rw [gl.keep (by rw [e2k]; simp), e2k]
  have e3v : R3 xv = some (Tx.wordsL v.data.toList) := by rw [gl.keep (by rw [e2v]; simp), e2v]
  have e4k : R4 xk = some (Tx.wordsL k.data.toList) := by rw [gr.keep (by rw [e3k]; simp), e3k]
  have e4v : R4 xv = some (Tx.wordsL v.data.toList) := by rw [gr.keep (by rw [e3v]; simp), e3v]
  have hhk : xk ≠ h := fun e => by rw [e, hh] at e4k; cases e4k
  have hhv : xv ≠ h := fun e => by rw [e, hh] at e4v; cases e4v
  have hl4 : ∀ x ∈ tl.hs, R4 x = R3 x := fun x hx => gr.keep (gl.some hx)
  have hlh : ∀ x ∈ tl.hs, x ≠ h := fun x hx e => by
    have := gl.some hx
    rw [← hl4 x hx, e, hh] at this
    exact this rfl
  have hrh : ∀ x ∈ tr.hs, x ≠ h := fun x hx e => by
    have := gr.some hx
    rw [e, hh] at this
    exact this rfl
  have fl : ∀ x ∈ tl.hs, x ≠ xk ∧ x ≠ xv ∧ R x = none := fun x hx => by
    have h1 := gl.fresh x hx
    have a1 : x ≠ xv := fun e => by rw [e, e2v] at h1; cases h1
    have a2 : x ≠ xk := fun e => by rw [e, e2k] at h1; cases h1
    rw [updR_other a1, updR_other a2] at h1
    exact ⟨a2, a1, h1⟩
  have fr : ∀ x ∈ tr.hs, x ≠ xk ∧ x ≠ xv ∧ x ∉ tl.hs ∧ R x = none := fun x hx => by
    have h1 := gr.fresh x hx
    have a1 : x ≠ xv := fun e => by rw [e, e3v] at h1; cases h1
    have a2 : x ≠ xk := fun e => by rw [e, e3k] at h1; cases h1
    have a3 : x ∉ tl.hs := fun e => gl.some e h1
    rw [gl.old x a3, updR_other a1, updR_other a2] at h1
    exact ⟨a2, a1, a3, h1⟩
  have fh : h ∉ tl.hs ∧ h ∉ tr.hs := ⟨fun e => hlh h e rfl, fun e => hrh h e rfl⟩
  have hRh : R h = none := by
    have h1 := hh
    rw [gr.old h fh.2, gl.old h fh.1, updR_other (fun e => hhv e.symm), updR_other (fun e => hhk e.symm)] at h1
    exact h1
  refine ⟨⟨h0, updR_same _ _ _, ?_, ?_, hks, hvs, ?_, ?_⟩, ?_, ?_, ?_, ?_⟩
  · rw [updR_other hhk, e4k]
  · rw [updR_other hhv, e4v]
  · exact gl.at'.congr fun x hx => by rw [updR_other (hlh x hx), hl4 x hx]
  · exact gr.at'.congr fun x hx => by rw [updR_other (hrh x hx)]
  · simp only [BT.hs]
    rw [List.nodup_append]
    refine ⟨gl.nodup, ?_, ?_⟩
    · simp only [List.nodup_cons, List.mem_cons, not_or]
      exact ⟨⟨fun e => hhk e.symm, fun e => hhv e.symm, fh.2⟩, ⟨hkv, fun e => (fr xk e).1 rfl⟩, fun e => (fr xv e).2.1 rfl, gr.nodup⟩
    · intro a ha b hb
      simp only [List.mem_cons] at hb
      rcases hb with rfl | rfl | rfl | hb
      · exact hlh a ha
      · exact (fl a ha).1
      · exact (fl a ha).2.1
      · rintro rfl
        exact (fr a hb).2.2.1 ha
  · intro x hx
    simp only [BT.hs, List.mem_append, List.mem_cons] at hx
    rcases hx with hx | rfl | rfl | rfl | hx
    · exact (fl x hx).2.2
    · exact hRh
    · exact hk
    · exact hv2
    · exact (fr x hx).2.2.2
  · intro x hx
    simp only [BT.hs, List.mem_append, List.mem_cons, not_or] at hx
    obtain ⟨x1, x2, x3, x4, x5⟩ := hx
    rw [updR_other x2, gr.old x x5, gl.old x x1, updR_other x4, updR_other x3]
  · intro x hx
    simp only [BT.hs, List.mem_append, List.mem_cons] at hx
    rcases hx with hx | rfl | rfl | rfl | hx
    · exact gl.nz x hx
    · exact h0
    · exact k0
    · exact v0
    · exact gr.nz x hx
def CellsF (w : World) (F : Nat → Prop) (A : Option Addr) (vs : List Value) : Prop :=
  vs = [] ∨ ∃ b o, A = some ⟨b, o, none⟩ ∧ b < w.heap.size ∧ ¬ F b ∧ ∀ j u, vs[j]? = some u → w.cell? ⟨b, o + j, none⟩ = some u
section
variable {w w' : World} {F F' : Nat → Prop} {A : Option Addr} {vs : List Value}
theorem CellsF.turn (h : CellsF w F A vs) (ht : Turn w F w' F') : CellsF w' F' A vs := by
  rcases h with h | ⟨b, o, h1, h2, h3, h4⟩
  · exact .inl h
  · exact .inr ⟨b, o, h1, Nat.lt_of_lt_of_le h2 ht.size, ht.not h2 h3, fun j u hu => ht.cell (h4 j u hu) h3⟩
theorem CellsF.at' (h : CellsF w F A vs) {k : Nat} {u : Value} (hk : vs[k]? = some u) : ∃ b o, A = some ⟨b, o, none⟩ ∧ w.cell? ⟨b, o + k, none⟩ = some u := by
  rcases h with rfl | ⟨b, o, h1, h2, h3, h4⟩
  · simp at hk
  · exact ⟨b, o, h1, h4 k u hk⟩
theorem CellsF.take (h : CellsF w F A vs) (k : Nat) : CellsF w F A (vs.take k) := by
  rcases h with rfl | ⟨b, o, h1, h2, h3, h4⟩
  · left; simp
  · refine .inr ⟨b, o, h1, h2, h3, fun j u hu => h4 j u ?_⟩
    rw [List.getElem?_take] at hu
    split at hu
    · exact hu
    · cases hu
theorem CellsF.pairs {l : List Pr} (h : CellsF w F A (prsV l)) {k : Nat} (hk : k < l.length) : ∃ b o, A = some ⟨b, o, none⟩ ∧ w.cell? ⟨b, o + k * 2, none⟩ = some (.string l[k].1) ∧ w.cell? ⟨b, o + k * 2 + 1, none⟩ = some (.string l[k].2) := by
  obtain ⟨h1, h2⟩ := prsV_at l k hk
  obtain ⟨b, o, e, hc⟩ := h.at' h1
  obtain ⟨b', o', e', hc'⟩ := h.at' h2
  rw [e] at e'
  cases e'
  exact ⟨b, o, e, hc, by rw [Nat.add_assoc]; exact hc'⟩
theorem CellsF.of_prs {B : Nat} {l : List Pr} (h : Prs w B A l) (hB : B ≤ w.heap.size) (hF : ∀ b, F b → B ≤ b) : CellsF w F A (prsV l) := by
  rcases h with rfl | ⟨b, o, h1, h2, h3⟩
  · exact .inl rfl
  · exact .inr ⟨b, o, h1, by omega, fun hf => by have := hF b hf; omega, h3⟩
end
theorem slice_fromF (A : Option Addr) (n k c : Nat) (hk : k ≤ n) (hc : n ≤ c) : ∃ A', (∀ W, (Instr.sliceAt 31 (.slice A n c) (some (.int .i64 (k : Nat))) none none).run Tryz.prog W = .ok (.slice A' (n - k) (c - k)) W) ∧ (∀ W, (Instr.slice 31 (.slice A n c) (some (.int .i64 (k : Nat))) none none).run Tryz.prog W = .ok (.slice A' (n - k) (c - k)) W) ∧
    (∀ (W : World) (F : Nat → Prop) (l : List Pr), l.length = n → CellsF W F A (prsV l) → CellsF W F A' (prsV (l.drop k))) ∧ ((A = none → c = 0) → A' = none → c - k = 0) := by
  have e2 : ∀ W, (Instr.slice 31 (.slice A n c) (some (.int .i64 (k : Nat))) none none).run Tryz.prog W = .ok (.slice (if c = k then A else A.map (·.add (k * 2))) (n - k) (c - k)) W := fun W => by
    rw [run_slice_l W 31 A n c (by kernel_rfl) .i64 (k : Nat) (by omega) (by omega)]
    rw [show Tryz.prog.elem 31 = 33 by kernel_rfl, show (sizeOf 33).run Tryz.prog W = .ok 2 W by kernel_rfl]
    simp [sliced, Result.andThen]
  refine ⟨if c = k then A else A.map (·.add (k * 2)), fun W => ?_, e2, fun W F l hl h => ?_, fun hA h => ?_⟩
  · rw [run_sliceAt_slice W 31 _ _ _ _ (by kernel_rfl)]
    exact e2 W
  · by_cases he : k = l.length
    · subst he; left; rw [List.drop_length]; rfl
    · rcases h with h | ⟨b, o, rfl, hb, hF, hcell⟩
      · have : l = [] := by
          cases l with
          | nil => rfl
          | cons p l => simp [prsV] at h
        subst this
        left; simp [prsV]
      · rw [if_neg (by omega)]
        refine .inr ⟨b, o + k * 2, ?_, hb, hF, fun j u hu => ?_⟩
        · show some ((⟨b, o, none⟩ : Addr).add (k * 2)) = _
          unfold Addr.add; split <;> simp_all
        · rw [Nat.add_assoc]
          refine hcell _ _ ?_
          rw [prsV_drop, List.getElem?_drop] at hu
          exact hu
  · by_cases he : c = k
    · omega
    · rw [if_neg he] at h
      cases A with
      | none => have := hA rfl; omega
      | some a => cases h
theorem StoreIs.more {w : World} {s : Nat} {F : Nat → Prop} {R : Nat → Option (List Nat)} {H : List Nat} {P P' q most last G G' : Nat} (h : StoreIs w s F R H P q most last G) (hP : P ≤ P') (hG : G ≤ G') : StoreIs w s F R H P' q most last G' := by
  obtain ⟨a, ha, t, v, L, mem, sl, Fh, h⟩ := h
  exact ⟨a, ha, t, v, L, mem, sl, Fh, { h with pages := Nat.le_trans h.pages hP, gens := fun x hx => Nat.le_trans (h.gens x hx) hG }⟩
theorem pgsN_le {n : Nat} (h : n ≤ 128) : pgsN n ≤ 3 := by unfold pgsN; split <;> omega
theorem words_le {b : ByteArray} (h : b.size ≤ 1000) : (Tx.wordsL b.data.toList).length ≤ 126 := by
  rw [Tx.wordsL_length, Tx.size_list]
  unfold Tx.many
  omega
end Go.Proofs.YtijpmjaeanocpaaGreatDoor

set_option linter.unusedVariables false
set_option linter.unusedSimpArgs false
namespace Go.Proofs.YtijpmjaeanocpaaGreatDoor
open Go.RowKit Go.Shelf
theorem rank_split {k : ByteArray} : ∀ {l : List Pr}, Rising l → (∀ q ∈ l.take (rankL l k), Tx.cmp q.1 k < 0) ∧ (∀ q ∈ l.drop (rankL l k), ¬ Tx.cmp q.1 k < 0)
  | [], _ => ⟨fun q hq => by simp at hq, fun q hq => by simp at hq⟩
  | p :: l, h => by
    have h' := List.pairwise_cons.1 h
    rw [rankL_cons]
    by_cases hp : Tx.cmp p.1 k < 0
    · rw [if_pos hp, List.take_succ_cons, List.drop_succ_cons]
      obtain ⟨h1, h2⟩ := rank_split (k := k) h'.2
      refine ⟨fun q hq => ?_, h2⟩
      rcases List.mem_cons.1 hq with rfl | hq
      · exact hp
      · exact h1 q hq
    · have hall : ∀ q ∈ l, ¬ Tx.cmp q.1 k < 0 := fun q hq e => hp (cmp_lt_trans (h'.1 q hq) e)
      rw [if_neg hp, rankL_none hall]
      refine ⟨fun q hq => by simp at hq, fun q hq => ?_⟩
      rcases List.mem_cons.1 hq with rfl | hq
      · exact hp
      · exact hall q hq
theorem putL_rising {l : List Pr} (h : Rising l) (p : Pr) : Rising (putL l p) := by
  obtain ⟨h1, h2⟩ := rank_split (k := p.1) h
  have hle := rankL_le l p.1
  unfold putL
  generalize rankL l p.1 = n at *
  have hgt : ∀ q ∈ l.drop (if (l[n]?).map (·.1) = some p.1 then n + 1 else n), Tx.cmp p.1 q.1 < 0 := by
    intro q hq
    have hsw := cmp_swap p.1 q.1
    have hdr : Rising (l.drop n) := List.Pairwise.sublist (List.drop_sublist n l) h
    by_cases hlt : n < l.length
    · have hd := List.drop_eq_getElem_cons hlt
      rw [List.getElem?_eq_getElem hlt] at hq
      simp only [Option.map_some, Option.some.injEq] at hq
      rw [hd] at hdr h2
      have hdr' := List.pairwise_cons.1 hdr
      by_cases he : l[n].1 = p.1
      · rw [if_pos he] at hq
        have := hdr'.1 q hq
        rw [he] at this
        exact this
      · rw [if_neg he, hd] at hq
        have h3 := h2 q hq
        have hn3 := h2 l[n] List.mem_cons_self
        rcases List.mem_cons.1 hq with rfl | hq
        · have : Tx.cmp l[n].1 p.1 ≠ 0 := fun e => he (cmp_zero.1 e)
          omega
        · have h4 := hdr'.1 q hq
          have : Tx.cmp l[n].1 p.1 ≠ 0 := fun e => he (cmp_zero.1 e)
          have h5 := cmp_swap p.1 l[n].1
          exact cmp_lt_trans (b := l[n].1) (by omega) h4
    · rw [List.getElem?_eq_none (by omega)] at hq
      simp only [Option.map_none, reduceCtorEq, if_false] at hq
      rw [List.drop_eq_nil_of_le (by omega)] at hq
      simp at hq
  unfold Rising
  rw [List.pairwise_append, List.pairwise_cons]
  refine ⟨List.Pairwise.sublist (List.take_sublist n l) h, ⟨hgt, List.Pairwise.sublist (List.drop_sublist _ l) h⟩, fun a ha b hb => ?_⟩
  have h3 := h1 a ha
  rcases List.mem_cons.1 hb with rfl | hb
  · exact h3
  · exact cmp_lt_trans h3 (hgt b hb)
theorem BT.hs_short {R : Nat → Option (List Nat)} : ∀ (t : BT), t.At R → ∀ x ∈ t.hs, ∀ ws, R x = some ws → ws.length ≤ 200
  | .nil, _, x, hx, ws, hw => by simp [BT.hs] at hx
  | .node h kh vh m k v l r, ht, x, hx, ws, hw => by
    obtain ⟨h1, h2, h3, h4, h5, h6, hl, hr⟩ := ht
    simp only [BT.hs, List.mem_append, List.mem_cons] at hx
    rcases hx with hx | rfl | rfl | rfl | hx
    · exact BT.hs_short l hl x hx ws hw
    · rw [h2] at hw; cases hw; exact (by simp [Nd.ws] : (Nd.ws ⟨kh, vh, l.root, r.root, m, l.size + 1 + r.size⟩).length ≤ 200)
    · rw [h3] at hw; cases hw; have := words_le h5; omega
    · rw [h4] at hw; cases hw; have := words_le h6; omega
    · exact BT.hs_short r hr x hx ws hw
theorem GrowOut.short {R R' : Nat → Option (List Nat)} {t : BT} (g : GrowOut R R' t) (h : Short R) : Short R' := fun x ws hx => by
  by_cases hm : x ∈ t.hs
  · exact BT.hs_short t g.at' x hm ws hx
  · rw [g.old x hm] at hx; exact h x ws hx
theorem GrowOut.zero {R R' : Nat → Option (List Nat)} {t : BT} (g : GrowOut R R' t) (h : R 0 = none) : R' 0 = none := by
  rw [g.old 0 (fun e => g.nz 0 e rfl), h]
end Go.Proofs.YtijpmjaeanocpaaGreatDoor

set_option linter.unusedVariables false
set_option linter.unusedSimpArgs false
namespace Go.Proofs.YtijpmjaeanocpaaGreatDoor
open Go.RowKit Go.Shelf
structure TreeR (N : Nat) (w : World) (s : Nat) (R : Nat → Option (List Nat)) (n : Nat) (t : BT) (l : List Pr) : Prop where
  rd : Rd N w s R n
  sh : Short R
  z : R 0 = none
  at' : t.At R
  prs : t.prs = l
  ris : Rising l
  nod : t.hs.Nodup
  sz : 8 * t.size ≤ n
def hasK (l : List Pr) (k : ByteArray) : Prop := (l[rankL l k]?).map (·.1) = some k
instance (l : List Pr) (k : ByteArray) : Decidable (hasK l k) := by unfold hasK; infer_instance
section
variable {w w' : World} {s N : Nat} {R : Nat → Option (List Nat)} {n : Nat} {t : BT} {l : List Pr}
theorem TreeR.below (h : TreeR N w s R n t l) (hb : Below w.heap.size w w') : TreeR N w' s R n t l := { h with rd := h.rd.below hb }
theorem TreeR.len (h : TreeR N w s R n t l) : t.size = l.length := by rw [← h.prs, BT.prs_len]
theorem TreeR.nodes_len (h : TreeR N w s R n t l) : t.nodes.length = l.length := by rw [BT.nodes_len, h.len]
theorem TreeR.le (h : TreeR N w s R n t l) : l.length ≤ 32768 := by
  have h1 := h.rd.le
  have h2 := h.sz
  have h3 := h.len
  omega
theorem TreeR.root_lt (h : TreeR N w s R n t l) : t.root < 18446744073709551616 := BT.root_lt h.at' h.rd
theorem TreeR.node_lt (h : TreeR N w s R n t l) {x : Nat} (hx : x ∈ t.nodes) : x < 18446744073709551616 := by
  obtain ⟨nd, hnd⟩ := BT.nodes_six t h.at' x hx
  exact (h.rd.u64 hnd).1
theorem tpair_at (h : TreeR N w s R n t l) {i : Nat} (hi : i < l.length) (hi2 : i < t.nodes.length) : Calls Tryz.prog 68 #[.pointer (some ⟨s, 0, none⟩), .int .u64 (t.nodes[i] : Nat)] w fun e w' => e = .returned (.tuple #[.agg #[.string l[i].1, .string l[i].2], .int .i64 0]) ∧ Below w.heap.size w w' := by
  have hi3 : i < t.ents.length := by have := congrArg List.length (BT.ents_nodes t); rw [List.length_map] at this; omega
  have e1 : t.nodes[i] = t.ents[i].h := by
    have : t.nodes[i]? = some (t.ents[i].h) := by rw [← BT.ents_nodes, List.getElem?_map, List.getElem?_eq_getElem hi3]; rfl
    rw [List.getElem?_eq_getElem hi2] at this
    exact Option.some.inj this
  have e2 : l[i] = (t.ents[i].k, t.ents[i].v) := by
    have : l[i]? = some (t.ents[i].k, t.ents[i].v) := by rw [← h.prs, ← BT.ents_prs, List.getElem?_map, List.getElem?_eq_getElem hi3]; rfl
    rw [List.getElem?_eq_getElem hi] at this
    exact Option.some.inj this
  have h1 := h.rd.le
  have h2 := h.sz
  obtain ⟨a1, a2, a3, a4, a5, _⟩ := BT.ents_at t h.at' (by omega) t.ents[i] (List.getElem_mem hi3)
  obtain ⟨p1, p2⟩ := En.At.pair a1 a2 a3 a4 a5
  have hp := pair_at h.rd h.sh t.nodes[i] (h.node_lt (List.getElem_mem hi2))
  rw [e1, p1, p2] at hp
  rw [e1, e2]
  exact hp
theorem tsize_at (h : TreeR N w s R n t l) : Calls Tryz.prog 239 #[.pointer (some ⟨s, 0, none⟩), .int .u64 (t.root : Nat)] w fun e w' => e = .returned (.int .i64 (l.length : Nat)) ∧ Below w.heap.size w w' := by
  have h1 := h.rd.le
  have h2 := h.sz
  have hf := size_at h.rd t.root h.root_lt
  rw [BT.tsize_at h.at' h.z (by omega), h.len] at hf
  exact hf
theorem tlist_at (h : TreeR N w s R n t l) : Calls Tryz.prog 124 #[.pointer (some ⟨s, 0, none⟩), .int .u64 (t.root : Nat)] w fun e w' => ∃ v, e = .returned v ∧ w'.ownsRow w.heap.size 30 1 v l.length (hsV t.nodes) ∧ Below w.heap.size w w' := by
  have h1 := h.rd.le
  have h2 := h.sz
  have hf := list_at h.rd t.root h.root_lt
  rw [BT.inR_at h.at' (n := n) (by omega), h.nodes_len] at hf
  exact hf
end
end Go.Proofs.YtijpmjaeanocpaaGreatDoor

set_option linter.unusedVariables false
set_option linter.unusedSimpArgs false
namespace Go.Proofs.YtijpmjaeanocpaaGreatDoor
open Go.RowKit Go.Shelf
theorem CellsF.prs {w : World} {F : Nat → Prop} {A : Option Addr} {l : List Pr} (h : CellsF w F A (prsV l)) : Prs w w.heap.size A l := by
  rcases h with h | ⟨b, o, h1, h2, h3, h4⟩
  · left
    cases l with
    | nil => rfl
    | cons p l => simp [prsV] at h
  · exact .inr ⟨b, o, h1, h2, h4⟩
abbrev TrueB (w : World) : Ending → World → Prop := fun e w' => e = .returned (.bool true) ∧ Below w.heap.size w w'
end Go.Proofs.YtijpmjaeanocpaaGreatDoor
