/-
  The seat's own texts, part t: Prs, Prs2, Prs3, PrsF.
-/
import Derived.Test.YtjcpclcmnhpgpaaGreatDoorFMs
import Derived.Laws.AppendOwnNone
import Derived.Maps.AppendAt
import Derived.Deep.QuietTactic
import Derived.BigQuiet
import Derived.Deep.DeepMust

set_option linter.unusedVariables false
set_option linter.unusedSimpArgs false
namespace Go.Proofs.YtjcpclcmnhpgpaaGreatDoor
open Go.RowKit Go.Shelf
abbrev Pr := ByteArray × ByteArray
def prsV (l : List Pr) : List Value := l.flatMap fun p => [.string p.1, .string p.2]
theorem prsV_len (l : List Pr) : (prsV l).length = l.length * 2 := by
  induction l with
  | nil => rfl
  | cons p l ih => simp only [prsV, List.flatMap_cons, List.length_append, List.length_cons, List.length_nil] at ih ⊢; omega
theorem prsV_append (l m : List Pr) : prsV (l ++ m) = prsV l ++ prsV m := by simp [prsV]
theorem prsV_at : ∀ (l : List Pr) (k : Nat) (h : k < l.length), (prsV l)[k * 2]? = some (.string l[k].1) ∧ (prsV l)[k * 2 + 1]? = some (.string l[k].2)
  | p :: l, 0, _ => ⟨rfl, rfl⟩
  | p :: l, k + 1, h => by
    have := prsV_at l k (by simpa using h)
    rw [show (k + 1) * 2 = k * 2 + 2 by omega]
    exact this
theorem prsV_drop : ∀ (l : List Pr) (k : Nat), prsV (l.drop k) = (prsV l).drop (k * 2)
  | [], k => by simp [prsV]
  | p :: l, 0 => by simp
  | p :: l, k + 1 => by
    rw [List.drop_succ_cons, prsV_drop l k, show (k + 1) * 2 = k * 2 + 2 by omega]
    rfl
theorem prsV_take : ∀ (l : List Pr) (k : Nat), prsV (l.take k) = (prsV l).take (k * 2)
  | [], k => by simp [prsV]
  | p :: l, 0 => by simp [prsV]
  | p :: l, k + 1 => by
    rw [List.take_succ_cons, show (k + 1) * 2 = k * 2 + 2 by omega]
    show [Value.string p.1, Value.string p.2] ++ prsV (l.take k) = _
    rw [prsV_take l k]
    rfl
theorem prsV_one (l : List Pr) : ∀ u ∈ prsV l, u.oneCell' = true := by
  intro u hu
  obtain ⟨p, _, hp⟩ := List.mem_flatMap.1 hu
  rcases List.mem_cons.1 hp with rfl | hp
  · rfl
  · rcases List.mem_cons.1 hp with rfl | hp
    · rfl
    · simp at hp
def Prs (w : World) (B : Nat) (A : Option Addr) (l : List Pr) : Prop :=
  l = [] ∨ ∃ b o, A = some ⟨b, o, none⟩ ∧ b < B ∧ ∀ j u, (prsV l)[j]? = some u → w.cell? ⟨b, o + j, none⟩ = some u
section
variable {w w' : World} {B B' : Nat} {A : Option Addr} {l : List Pr}
theorem Prs.nil (w : World) (B : Nat) (A : Option Addr) : Prs w B A [] := .inl rfl
theorem Prs.keep (h : Prs w B A l) (hk : ∀ b, b < B → w'.heap[b]? = w.heap[b]?) : Prs w' B A l := by
  rcases h with h | ⟨b, o, rfl, hb, hc⟩
  · exact .inl h
  · exact .inr ⟨b, o, rfl, hb, fun j u hu => (World.cell?_of_block (a := ⟨b, o + j, none⟩) (hk b hb)).trans (hc j u hu)⟩
theorem Prs.below (h : Prs w B A l) (hb : Below B w w') : Prs w' B A l := h.keep fun b hlt => hb.block b hlt
theorem Prs.more (h : Prs w B A l) (hB : B ≤ B') : Prs w B' A l := by
  rcases h with h | ⟨b, o, rfl, hb, hc⟩
  · exact .inl h
  · exact .inr ⟨b, o, rfl, by omega, hc⟩
theorem Prs.at' (h : Prs w B A l) {k : Nat} (hk : k < l.length) : ∃ b o, A = some ⟨b, o, none⟩ ∧ b < B ∧ w.cell? ⟨b, o + k * 2, none⟩ = some (.string l[k].1) ∧ w.cell? ⟨b, o + k * 2 + 1, none⟩ = some (.string l[k].2) := by
  rcases h with rfl | ⟨b, o, rfl, hb, hc⟩
  · simp at hk
  · obtain ⟨h1, h2⟩ := prsV_at l k hk
    exact ⟨b, o, rfl, hb, hc _ _ h1, by rw [Nat.add_assoc]; exact hc _ _ h2⟩
theorem Prs.take (h : Prs w B A l) (k : Nat) : Prs w B A (l.take k) := by
  rcases h with rfl | ⟨b, o, rfl, hb, hc⟩
  · left; simp
  · refine .inr ⟨b, o, rfl, hb, fun j u hu => hc j u ?_⟩
    rw [prsV_take, List.getElem?_take] at hu
    split at hu
    · exact hu
    · cases hu
theorem Prs.drop (h : Prs w B A l) {k c : Nat} (hk : k ≤ l.length) (hc : l.length ≤ c) : Prs w B (if c = k then A else A.map (·.add (k * 2))) (l.drop k) := by
  by_cases he : k = l.length
  · subst he; left; simp
  · rcases h with rfl | ⟨b, o, rfl, hb, hcell⟩
    · left; simp
    · rw [if_neg (by omega)]
      refine .inr ⟨b, o + k * 2, ?_, hb, fun j u hu => ?_⟩
      · show some ((⟨b, o, none⟩ : Addr).add (k * 2)) = _
        unfold Addr.add; split <;> simp_all
      · rw [Nat.add_assoc]
        refine hcell _ _ ?_
        rw [prsV_drop, List.getElem?_drop] at hu
        exact hu
theorem Prs.of_own {base n c : Nat} (h : w.ownsRow base 37 2 (.slice A n c) n (prsV l)) (hn : n = l.length) : Prs w w.heap.size A l := by
  by_cases hl : l = []
  · exact .inl hl
  · right
    have hp : 0 < l.length := List.length_pos_iff.2 hl
    rcases h.2 with ⟨_, h0⟩ | ⟨g, cap, cur, hv, hb, hg, _⟩
    · omega
    · cases hv
      refine ⟨g, 0, rfl, (Array.getElem?_eq_some_iff.1 hg).1, fun j u hu => ?_⟩
      have := h.cells (g := g) rfl j u hu
      rw [show (⟨g, 0, none⟩ : Addr).add j = ⟨g, j, none⟩ by unfold Addr.add; split <;> simp_all] at this
      rw [Nat.zero_add]
      exact this
theorem Tryz.under_pairs : Tryz.prog.underlying 22 = some (.slice 37) := by kernel_rfl
theorem Tryz.info_pair : (Tryz.prog.info? 37).map (fun i => (i.zero, i.size, i.bytes)) = some (some (.agg #[.string ⟨#[]⟩, .string ⟨#[]⟩]), 2, 32) := by kernel_rfl
theorem app_prs {ops : Array Oper} {rest : List Oper} {o : Oper} {a : Act} {Q : Exit → Act → World → Prop} (hgd : o.guard = none) (s x : Operand)
    (ho : o.op = .call { callee := .builtin .append, args := #[s, x], argTypes := #[22, 22] }) (w : World) (base : Nat) (v : Value) (xs : List Pr) (hs : a.eval s = v)
    (hown : w.ownsRow base 37 2 v xs.length (prsV xs)) (B : Nat) (A : Option Addr) (m c : Nat) (ys : List Pr) (hx : a.eval x = .slice A m c) (hm : m = ys.length) (hr : Prs w B A ys) (hA : A = none → c = 0) (hlen : xs.length + ys.length ≤ 4398046511104) (hbase : base ≤ w.heap.size)
    (h : ∀ v' w', w'.ownsRow base 37 2 v' (xs ++ ys).length (prsV (xs ++ ys)) → w.grownBy w' v.ownBlock → (v'.ownBlock = v.ownBlock ∨ v'.ownBlock = some w.heap.size) → wpList Tryz.prog ops Q rest (a.put o.dst v') w') :
    wpList Tryz.prog ops Q (o :: rest) a w := by
  obtain ⟨i0, hi, hz0, hz1, hz2⟩ := info_parts Tryz.info_pair
  subst hm
  cases A with
  | none =>
    have hy : ys = [] := by
      rcases hr with h | ⟨b, o, h, _⟩
      · exact h
      · cases h
    subst hy
    have := hA rfl
    subst this
    refine wpList_append_own_none hgd s x 22 ho base 37 i0 2 Tryz.under_pairs hi v xs.length (prsV xs) hs hown hx ?_
    exact h v w (by simpa using hown) (World.grownBy.refl w _) (.inl rfl)
  | some ad =>
    have hcells : ∀ j u, (prsV ys)[j]? = some u → w.cell? (ad.add j) = some u := by
      intro j u hu
      rcases hr with rfl | ⟨b, o, hA', _, hc⟩
      · simp [prsV] at hu
      · cases hA'
        rw [show (⟨b, o, none⟩ : Addr).add j = ⟨b, o + j, none⟩ by unfold Addr.add; split <;> simp_all]
        exact hc j u hu
    refine wpList_append_own_at w hgd s x 22 ho base 37 i0 (.agg #[.string ⟨#[]⟩, .string ⟨#[]⟩]) 2 32 Tryz.under_pairs hi hz0 hz1 hz2 rfl (by decide) v xs.length (prsV xs) hs hown ad ys.length c (prsV ys) hx (prsV_len ys) hcells (prsV_one ys) (by unfold maxLen; omega) (by omega) hbase ?_
    intro v' w' h1 h2 _ h4
    exact h v' w' (by rw [List.length_append, prsV_append]; exact h1) h2 h4
end
theorem rcmp_at (a b : ByteArray) (w : World) (ha : a.size ≤ 9223372036854775807) (hb : b.size ≤ 9223372036854775807) :
    Calls Tryz.prog 46 #[.string a, .string b] w fun e w' => e = .returned (.int .i64 (Tx.cmp a b)) ∧ Below w.heap.size w w' :=
  (Tx.refCmp_any a b w ha hb).mono fun e w' ⟨he, d, hd⟩ => ⟨he, by rw [hd]; exact Tx.drewN_below w d⟩
theorem rankL_take (l : List Pr) (k : Nat) (h : k < l.length) (key : ByteArray) : rankL (l.take (k + 1)) key = rankL (l.take k) key + if Tx.cmp l[k].1 key < 0 then 1 else 0 := by
  rw [List.take_succ_eq_append_getElem h, rankL_append, rankL_cons]
  simp [rankL]
def Sized (l : List Pr) : Prop := ∀ p ∈ l, p.1.size ≤ 9223372036854775807 ∧ p.2.size ≤ 9223372036854775807
set_option maxRecDepth 100000 in
theorem refRank_at {w : World} {B c : Nat} {A : Option Addr} {l : List Pr} (h : Prs w B A l) (hB : B ≤ w.heap.size) (hl : l.length ≤ 4398046511104) (hs : Sized l) (key : ByteArray) (hk : key.size ≤ 9223372036854775807) :
    Calls Tryz.prog 17 #[.slice A l.length c, .string key] w fun e w' => e = .returned (.int .i64 (rankL l key : Nat)) ∧ Below w.heap.size w w' := by
  have hH := Lib.hid h
  have hcm := Lib.hid (fun (p : Pr) (hp : p ∈ l) (W : World) => rcmp_at p.1 key W (hs p hp).1 hk)
  clear h hs
  go_enter Tryz.func17, Tryz.ntmps17
  go_wp2_with fail
  go_loopw [5, 6] (fun nv iv wr => ∃ k : Nat, k ≤ l.length ∧ iv = .int .i64 k ∧ nv = .int .i64 (rankL (l.take k) key : Nat) ∧ Hid (Below w.heap.size w wr)) (fun _ iv _ => l.length - (intOf iv).toNat)
  case atStart => exact ⟨0, by omega, rfl, rfl, Lib.hid (Below.refl _ _)⟩
  case round =>
    obtain ⟨k, hk2, rfl, rfl, hb⟩ := hrel
    have hr := rankL_le (l.take k) key
    rw [List.length_take] at hr
    have hr2 : rankL (l.take k) key ≤ k := by omega
    by_cases hlt : k < l.length
    · obtain ⟨b, o, hA, _, c1, _⟩ := (hH.out.below (hb.out.mono hB)).at' hlt
      have hrk := Lib.hid (rankL_take l k hlt key)
      have hcall := Lib.hid (hcm.out l[k] (List.getElem_mem hlt))
      generalize l[k] = p at *
      obtain ⟨z, hz⟩ : ∃ z, Tx.cmp p.1 key = z := ⟨_, rfl⟩
      rw [hz] at hrk hcall
      clear hz hr
      generalize hn9 : rankL (l.take k) key = n9 at *
      clear hn9
      subst hA
      have hz0 : z < 0 ∨ ¬ z < 0 := by omega
      rcases hz0 with h0 | h0
      all_goals
        go_wp2_with fail
        refine (hcall.out _).mono ?_
        rintro e w1 ⟨rfl, hb1⟩
        have hb1H := Lib.hid (hb.out.trans (hb1.mono hb.out.size))
        clear hb1 c1
        go_wp2
        go_roundw
        case rel => exact ⟨k + 1, by omega, by go_num, by rw [hrk.out]; first | (rw [if_pos h0]; go_num) | (rw [if_neg (by omega)]; rfl), hb1H⟩
        case measure => simp [intOf]; omega
    · obtain rfl : k = l.length := by omega
      have hfin : Hid (rankL (l.take l.length) key = rankL l key) := Lib.hid (by rw [List.take_length])
      go_wp2
      go_ret
      exact ⟨by rw [hfin.out]; rfl, hb.out⟩
theorem str_beq (a b : ByteArray) : (a.toList == b.toList) = decide (a = b) := by
  rw [Tx.cmp_beq, Bool.eq_iff_iff, beq_iff_eq, decide_eq_true_iff, cmp_zero]
end Go.Proofs.YtjcpclcmnhpgpaaGreatDoor

set_option linter.unusedVariables false
set_option linter.unusedSimpArgs false
namespace Go.Proofs.YtjcpclcmnhpgpaaGreatDoor
open Go.RowKit Go.Shelf
def putL (l : List Pr) (p : Pr) : List Pr := l.take (rankL l p.1) ++ p :: l.drop (if (l[rankL l p.1]?).map (·.1) = some p.1 then rankL l p.1 + 1 else rankL l p.1)
theorem putL_len (l : List Pr) (p : Pr) : (putL l p).length ≤ l.length + 1 := by
  have := rankL_le l p.1
  unfold putL
  simp only [List.length_append, List.length_take, List.length_cons, List.length_drop]
  split <;> omega
theorem putL_mem {l : List Pr} {p q : Pr} (h : q ∈ putL l p) : q = p ∨ q ∈ l := by
  unfold putL at h
  rcases List.mem_append.1 h with h | h
  · exact .inr (List.mem_of_mem_take h)
  · rcases List.mem_cons.1 h with h | h
    · exact .inl h
    · exact .inr (List.mem_of_mem_drop h)
theorem Sized.put {l : List Pr} {p : Pr} (h : Sized l) (hp : p.1.size ≤ 9223372036854775807 ∧ p.2.size ≤ 9223372036854775807) : Sized (putL l p) := fun q hq => by
  rcases putL_mem hq with rfl | hq
  · exact hp
  · exact h q hq
theorem own_lower {w : World} {base base' size : Nat} {e : TypeId} {v : Value} {n : Nat} {xs : List Value} (h : w.ownsRow base e size v n xs) (hb : base' ≤ base) : w.ownsRow base' e size v n xs := by
  refine ⟨h.1, ?_⟩
  rcases h.2 with h0 | ⟨g, cap, cur, h1, h2, h3⟩
  · exact .inl h0
  · exact .inr ⟨g, cap, cur, h1, by omega, h3⟩
theorem own_empty (w : World) (e : TypeId) : (w.alloc (.cells #[] e)).ownsRow w.heap.size e 2 (.slice (some ⟨w.heap.size, 0, none⟩) 0 0) 0 [] :=
  ⟨rfl, .inr ⟨w.heap.size, 0, #[], rfl, Nat.le_refl _, World.alloc_heap_new w _, Nat.le_refl _, Nat.zero_le _, rfl, rfl⟩⟩
theorem prs_one (w : World) (p : Pr) : Prs (w.alloc (.cells #[.string p.1, .string p.2] 37)) (w.heap.size + 1) (some ⟨w.heap.size, 0, none⟩) [p] := by
  refine .inr ⟨w.heap.size, 0, rfl, by omega, fun j u hu => ?_⟩
  have hn : (w.alloc (.cells #[.string p.1, .string p.2] 37)).heap[w.heap.size]? = some (.cells #[.string p.1, .string p.2] 37 (0, 0)) := World.alloc_heap_new w _
  generalize w.alloc (.cells #[.string p.1, .string p.2] 37) = V at *
  rcases j with _ | _ | j
  · simp [prsV] at hu; subst hu; simp [World.cell?, hn]
  · simp [prsV] at hu; subst hu; simp [World.cell?, hn]
  · simp [prsV] at hu
theorem slice_from (A : Option Addr) (n k c : Nat) (hk : k ≤ n) (hc : n ≤ c) : ∃ A', (∀ W, (Instr.sliceAt 22 (.slice A n c) (some (.int .i64 (k : Nat))) none none).run Tryz.prog W = .ok (.slice A' (n - k) (c - k)) W) ∧ (∀ W, (Instr.slice 22 (.slice A n c) (some (.int .i64 (k : Nat))) none none).run Tryz.prog W = .ok (.slice A' (n - k) (c - k)) W) ∧
    (∀ (W : World) (B : Nat) (l : List Pr), l.length = n → Prs W B A l → Prs W B A' (l.drop k)) ∧ ((A = none → c = 0) → A' = none → c - k = 0) := by
  have e2 : ∀ W, (Instr.slice 22 (.slice A n c) (some (.int .i64 (k : Nat))) none none).run Tryz.prog W = .ok (.slice (if c = k then A else A.map (·.add (k * 2))) (n - k) (c - k)) W := fun W => by
    rw [run_slice_l W 22 A n c (by kernel_rfl) .i64 (k : Nat) (by omega) (by omega)]
    rw [show Tryz.prog.elem 22 = 37 by kernel_rfl, show (sizeOf 37).run Tryz.prog W = .ok 2 W by kernel_rfl]
    simp [sliced, Result.andThen]
  refine ⟨if c = k then A else A.map (·.add (k * 2)), fun W => ?_, e2, fun W B l hl h => ?_, fun hA h => ?_⟩
  · rw [run_sliceAt_slice W 22 _ _ _ _ (by kernel_rfl)]
    exact e2 W
  · exact h.drop (by omega) (by omega)
  · by_cases he : c = k
    · omega
    · rw [if_neg he] at h
      cases A with
      | none => have := hA rfl; omega
      | some a => cases h
theorem own_below {w w1 w2 : World} {base : Nat} {e : TypeId} {n : Nat} {v : Value} {xs : List Value} (hb : Below base w w1) (hown : w1.ownsRow base e 2 v n xs) (hg : w1.grownBy w2 v.ownBlock) (hB : base ≤ w1.heap.size) : Below base w w2 :=
  hb.trans ⟨hg.os, hg.tape, hg.output, hg.size, fun k hk => hg.block k (by omega) (fun e => by
    rcases hown.2 with ⟨rfl, _⟩ | ⟨g, cap, cur, rfl, hge, _⟩
    · simp [Value.ownBlock] at e
    · have : k = g := by simpa [Value.ownBlock] using e
      omega)⟩
set_option maxHeartbeats 2000000 in
set_option maxRecDepth 100000 in
theorem refPut_at {w : World} {B c : Nat} {A : Option Addr} {l : List Pr} (h : Prs w B A l) (hB : B ≤ w.heap.size) (hA : A = none → c = 0) (hc : l.length ≤ c) (hl : l.length ≤ 4398046511103) (hs : Sized l) (p : Pr) (hk : p.1.size ≤ 9223372036854775807) :
    Calls Tryz.prog 25 #[.slice A l.length c, .agg #[.string p.1, .string p.2]] w fun e w' => ∃ v, e = .returned v ∧ w'.ownsRow w.heap.size 37 2 v (putL l p).length (prsV (putL l p)) ∧ Below w.heap.size w w' := by
  have hR := Lib.hid (fun W (hb : Below w.heap.size w W) => refRank_at (c := c) (h.below (hb.mono hB)) (Nat.le_trans hB hb.size) (by omega) hs p.1 hk)
  have hle := rankL_le l p.1
  obtain ⟨P, hP⟩ : ∃ P, putL l p = P := ⟨_, rfl⟩
  have hv : P = l.take (rankL l p.1) ++ p :: l.drop (if (l[rankL l p.1]?).map (·.1) = some p.1 then rankL l p.1 + 1 else rankL l p.1) := hP ▸ rfl
  rw [hP]
  have hH := Lib.hid h
  generalize rankL l p.1 = n at *
  obtain ⟨b, hb⟩ : ∃ b : Bool, ((l[n]?).map (·.1) = some p.1 ↔ b = true) := ⟨decide ((l[n]?).map (·.1) = some p.1), by simp⟩
  obtain ⟨n', hn'⟩ : ∃ n', n' = if b = true then n + 1 else n := ⟨_, rfl⟩
  have hv2 : P = l.take n ++ p :: l.drop n' := by
    rw [hv, hn']
    by_cases hq : (l[n]?).map (·.1) = some p.1
    · simp only [if_pos hq, if_pos (hb.1 hq)]
    · simp only [if_neg hq, if_neg (fun e => hq (hb.2 e))]
  have hbl : b = true → n < l.length := fun e => by
    have := hb.2 e
    by_cases h : n < l.length
    · exact h
    · rw [List.getElem?_eq_none (by omega)] at this; cases this
  have hn'l : n' ≤ l.length := by
    rw [hn']
    split
    · have := hbl ‹_›; omega
    · omega
  have hn'H := Lib.hid hn'
  have hblH := Lib.hid hbl
  clear hn' hbl
  have hAH := Lib.hid hA
  obtain ⟨A', sl1, sl2, hdr, hA'⟩ := slice_from A l.length n' c hn'l hc
  have hdrH := Lib.hid hdr
  have hA'H := Lib.hid (hA' hA)
  clear hdr hA'
  have htl : n = (l.take n).length := by rw [List.length_take]; omega
  have htlH := Lib.hid htl
  clear htl hA
  have hvH := Lib.hid hv2
  have hbH := Lib.hid hb
  clear h hs hP hv hv2 hb
  go_enter Tryz.func25, Tryz.ntmps25
  go_wp2_with fail
  have hb0 : Below w.heap.size w (w.alloc (Obj.cells #[Value.string p.1, Value.string p.2] 37)) := (Below.refl _ w).alloc (Nat.le_refl _) _
  have q0 : (w.alloc (Obj.cells #[Value.string p.1, Value.string p.2] 37)).cell? ⟨w.heap.size, 0, none⟩ = some (.string p.1) := by go_simp
  have q1 : (w.alloc (Obj.cells #[Value.string p.1, Value.string p.2] 37)).cell? ⟨w.heap.size, 1, none⟩ = some (.string p.2) := by go_simp
  refine (hR.out _ hb0).mono ?_
  rintro e w1 ⟨rfl, hb1⟩
  have hbw1 := hb0.trans (hb1.mono hb0.size)
  have r0 := (hb1.cell (p := ⟨w.heap.size, 0, none⟩) (cell_lt q0)).trans q0
  have r1 := (hb1.cell (p := ⟨w.heap.size, 1, none⟩) (cell_lt q1)).trans q1
  have hlt1 : w.heap.size < w1.heap.size := cell_lt (a := ⟨w.heap.size, 0, none⟩) r0
  have hbwH := Lib.hid hbw1
  clear hb1 hbw1 q0 q1 hb0
  have hown0 := Lib.hid (own_empty w1 37)
  have hP1 := Lib.hid ((hH.out.below (hbwH.out.mono hB)).more (Nat.le_trans hB hbwH.out.size))
  have r0H := Lib.hid r0
  have tok : True := trivial
  go_wp2_with (first
    | (at_builtin; have _t := tok; go_must (refine app_prs rfl (.tmp 11) (.tmp 14) rfl _ w1.heap.size _ [] rfl hown0.out w1.heap.size A n c (l.take n) rfl htlH.out ((hP1.out.below ((Below.refl _ w1).alloc (Nat.le_refl _) _)).take n) hAH.out (by simp; omega) (by simp) ?_); intro v2 w2 hown2 hg2 _; clear tok; have hb2 := own_below ((Below.refl _ w1).alloc (Nat.le_refl _) _) hown0.out hg2 (by simp); have s0 := (hb2.cell (p := ⟨w.heap.size, 0, none⟩) (cell_lt r0)).trans r0; have s1 := (hb2.cell (p := ⟨w.heap.size, 1, none⟩) (cell_lt r1)).trans r1; have hb2H := Lib.hid hb2; have hown2H := Lib.hid hown2; clear hb2 hown2 hg2 r0 r1)
    | (at_builtin; go_must (refine app_prs rfl (.tmp 16) (.tmp 18) rfl _ w1.heap.size _ ([] ++ l.take n) rfl (hown2H.out.alloc _) (w2.heap.size + 1) _ 1 1 [p] rfl rfl (prs_one w2 p) (fun e => by cases e) (by simp; omega) (by have := hb2H.out.size; simp; omega) ?_); intro v3 w3 hown3 hg3 _; have hb3 := own_below (hb2H.out.alloc hb2H.out.size _) (hown2H.out.alloc _) hg3 (by have := hb2H.out.size; simp; omega)))
  have hb3H := Lib.hid hb3
  have hown3H := Lib.hid hown3
  have u0 := (hb3.cell (p := ⟨w.heap.size, 0, none⟩) (cell_lt r0H.out)).trans r0H.out
  have hP3 := Lib.hid (hP1.out.below hb3)
  clear hb3 hown3 hg3 s0 s1
  have hP4 := Lib.hid (hdrH.out w3 w1.heap.size l rfl hP3.out)
  have hdl : Hid (l.length - n' = (l.drop n').length) := Lib.hid (by rw [List.length_drop])
  have hP5 : Hid (P = [] ++ l.take n ++ [p] ++ l.drop n') := Lib.hid (by rw [hvH.out]; simp)
  by_cases hlt : n < l.length
  · have hd : decide (n < l.length) = true := by simp; omega
    obtain ⟨bb, oo, hAs, _, c1, _⟩ := hP3.out.at' hlt
    subst hAs
    have hsb := str_beq l[n].1 p.1
    have hbn := hbH.out
    rw [List.getElem?_eq_getElem hlt, Option.map_some, Option.some.injEq] at hbn
    generalize l[n] = pn at *
    cases b with
    | true =>
      have hq : (pn.1.toList == p.1.toList) = true := by rw [hsb]; exact decide_eq_true (hbn.2 rfl)
      rw [if_pos rfl] at hn'H
      have hn2 := hn'H.out
      subst hn2
      clear hbn hsb hn'H
      push_cast at sl1 sl2
      go_wp2
      go_quiet (fail)
      go_wp2_with (at_builtin; go_must (refine app_prs rfl (.tmp 36) (.tmp 39) rfl _ w1.heap.size _ ([] ++ l.take n ++ [p]) rfl hown3H.out w1.heap.size A' _ _ (l.drop (n + 1)) rfl hdl.out hP4.out hA'H.out (by simp; omega) hb3H.out.size ?_); intro v4 w4 hown4 hg4 _)
      have hb4 := Lib.hid (own_below (hb3H.out.trans ((Tx.drewN_below w3 _).mono hb3H.out.size)) hown3H.out hg4 hb3H.out.size)
      rw [← hP5.out] at hown4
      have hfin := Lib.hid (own_lower hown4 hbwH.out.size)
      go_ret
      exact ⟨v4, rfl, hfin.out, hbwH.out.trans (hb4.out.mono hbwH.out.size)⟩
    | false =>
      have hq : (pn.1.toList == p.1.toList) = false := by
        rw [hsb]
        refine decide_eq_false (fun e => ?_)
        have := hbn.1 e
        cases this
      rw [if_neg (by simp)] at hn'H
      have hn2 := hn'H.out
      subst hn2
      clear hbn hsb hn'H
      go_wp2
      go_quiet (fail)
      go_wp2_with (at_builtin; go_must (refine app_prs rfl (.tmp 36) (.tmp 39) rfl _ w1.heap.size _ ([] ++ l.take n' ++ [p]) rfl hown3H.out w1.heap.size A' _ _ (l.drop (n')) rfl hdl.out hP4.out hA'H.out (by simp; omega) hb3H.out.size ?_); intro v4 w4 hown4 hg4 _)
      have hb4 := Lib.hid (own_below (hb3H.out.trans ((Tx.drewN_below w3 _).mono hb3H.out.size)) hown3H.out hg4 hb3H.out.size)
      rw [← hP5.out] at hown4
      have hfin := Lib.hid (own_lower hown4 hbwH.out.size)
      go_ret
      exact ⟨v4, rfl, hfin.out, hbwH.out.trans (hb4.out.mono hbwH.out.size)⟩
  · have hd : decide (n < l.length) = false := by simp; omega
    have hbf : b = false := by
      cases b with
      | true => exact absurd (hblH.out rfl) hlt
      | false => rfl
    rw [hbf, if_neg (by simp)] at hn'H
    have hn2 := hn'H.out
    subst hn2
    clear hn'H hbf hlt
    go_wp2
    go_quiet (fail)
    go_wp2_with (at_builtin; go_must (refine app_prs rfl (.tmp 36) (.tmp 39) rfl _ w1.heap.size _ ([] ++ l.take n' ++ [p]) rfl hown3H.out w1.heap.size A' _ _ (l.drop (n')) rfl hdl.out hP4.out hA'H.out (by simp; omega) hb3H.out.size ?_); intro v4 w4 hown4 hg4 _)
    have hb4 := Lib.hid (own_below (hb3H.out.trans ((Tx.drewN_below w3 _).mono hb3H.out.size)) hown3H.out hg4 hb3H.out.size)
    rw [← hP5.out] at hown4
    have hfin := Lib.hid (own_lower hown4 hbwH.out.size)
    go_ret
    exact ⟨v4, rfl, hfin.out, hbwH.out.trans (hb4.out.mono hbwH.out.size)⟩
end Go.Proofs.YtjcpclcmnhpgpaaGreatDoor

set_option linter.unusedVariables false
set_option linter.unusedSimpArgs false
namespace Go.Proofs.YtjcpclcmnhpgpaaGreatDoor
open Go.RowKit Go.Shelf
theorem own_pairs {w : World} {base n : Nat} {v : Value} {l : List Pr} (h : w.ownsRow base 37 2 v n (prsV l)) (hn : n = l.length) : ∃ A c, v = .slice A l.length c ∧ (A = none → c = 0) ∧ l.length ≤ c ∧ Prs w w.heap.size A l := by
  subst hn
  rcases h.2 with ⟨h1, h0⟩ | ⟨g, cap, cur, h1, h2, h3, h4, _⟩
  · have : l = [] := List.eq_nil_of_length_eq_zero h0
    subst this
    exact ⟨none, 0, h1, fun _ => rfl, Nat.le_refl _, .inl rfl⟩
  · refine ⟨some ⟨g, 0, none⟩, cap, h1, (fun e => by cases e), h4, ?_⟩
    rw [h1] at h
    exact Prs.of_own h rfl
def sortedL (l : List Pr) : List Pr := l.foldl putL []
theorem sortedL_snoc (l : List Pr) (k : Nat) (h : k < l.length) : sortedL (l.take (k + 1)) = putL (sortedL (l.take k)) l[k] := by
  unfold sortedL
  rw [List.take_succ_eq_append_getElem h, List.foldl_append]
  rfl
theorem foldl_putL_len : ∀ (l m : List Pr), (l.foldl putL m).length ≤ m.length + l.length
  | [], m => by simp
  | p :: l, m => by
    have h1 := foldl_putL_len l (putL m p)
    have h2 := putL_len m p
    simp only [List.foldl_cons, List.length_cons]
    omega
theorem sortedL_len (l : List Pr) : (sortedL l).length ≤ l.length := by
  have := foldl_putL_len l []
  simp only [List.length_nil, Nat.zero_add] at this
  exact this
theorem foldl_putL_mem : ∀ (l m : List Pr) (q : Pr), q ∈ l.foldl putL m → q ∈ m ∨ q ∈ l
  | [], m, q, h => .inl h
  | p :: l, m, q, h => by
    rcases foldl_putL_mem l (putL m p) q h with h | h
    · rcases putL_mem h with rfl | h
      · exact .inr (by simp)
      · exact .inl h
    · exact .inr (by simp [h])
theorem sortedL_mem {l : List Pr} {q : Pr} (h : q ∈ sortedL l) : q ∈ l := by
  rcases foldl_putL_mem l [] q h with h | h
  · simp at h
  · exact h
theorem Sized.sorted {l : List Pr} (h : Sized l) : Sized (sortedL l) := fun q hq => h q (sortedL_mem hq)
theorem Sized.take {l : List Pr} (h : Sized l) (k : Nat) : Sized (l.take k) := fun q hq => h q (List.mem_of_mem_take hq)
set_option maxHeartbeats 1000000 in
set_option maxRecDepth 100000 in
theorem refSorted_at {w : World} {B c : Nat} {A : Option Addr} {l : List Pr} (h : Prs w B A l) (hB : B ≤ w.heap.size) (hl : l.length ≤ 4398046511104) (hs : Sized l) :
    Calls Tryz.prog 13 #[.slice A l.length c] w fun e w' => ∃ v, e = .returned v ∧ w'.ownsRow w.heap.size 37 2 v (sortedL l).length (prsV (sortedL l)) ∧ Below w.heap.size w w' := by
  have hH := Lib.hid h
  have hsH := Lib.hid hs
  clear h hs
  go_enter Tryz.func13, Tryz.ntmps13
  go_wp2_with fail
  go_loopw [3, 4] (fun vv iv wr => ∃ k : Nat, k ≤ l.length ∧ iv = .int .i64 k ∧ Hid (wr.ownsRow w.heap.size 37 2 vv (sortedL (l.take k)).length (prsV (sortedL (l.take k)))) ∧ Hid (Below w.heap.size w wr)) (fun _ iv _ => l.length - (intOf iv).toNat)
  case atStart => exact ⟨0, by omega, rfl, Lib.hid (World.ownsRow_nil _ _ _ _), Lib.hid (Below.refl _ _)⟩
  case round =>
    obtain ⟨k, hk, rfl, hrow, hb⟩ := hrel
    by_cases hlt : k < l.length
    · obtain ⟨b, o, hA, _, c1, c2⟩ := (hH.out.below (hb.out.mono hB)).at' hlt
      have hsn := Lib.hid (sortedL_snoc l k hlt)
      have hp := Lib.hid (hsH.out _ (List.getElem_mem hlt))
      have hlen := sortedL_len (l.take k)
      rw [List.length_take] at hlen
      have hso := Lib.hid ((hsH.out.take k).sorted)
      generalize l[k] = p at *
      generalize sortedL (l.take k) = m at *
      obtain ⟨A2, cc, hv, hA2, hc2, hp2⟩ := own_pairs hrow.out rfl
      subst hv hA
      have hcall := Lib.hid (refPut_at (w := wr) (c := cc) hp2 (Nat.le_refl _) hA2 hc2 (by omega) hso.out p hp.out.1)
      clear hA2 hp2 hlen
      go_wp2_with fail
      refine hcall.out.mono ?_
      rintro e w1 ⟨v1, rfl, hrow1, hb1⟩
      have hrow1H := Lib.hid (own_lower hrow1 hb.out.size)
      have hb1H := Lib.hid (hb.out.trans (hb1.mono hb.out.size))
      clear hrow1 hb1
      go_wp2
      go_roundw
      case rel => exact ⟨k + 1, by omega, by go_num, by rw [hsn.out]; exact hrow1H, hb1H⟩
      case measure => simp [intOf]; omega
    · obtain rfl : k = l.length := by omega
      have hfin : Hid (sortedL (l.take l.length) = sortedL l) := Lib.hid (by rw [List.take_length])
      go_wp2
      go_ret
      exact ⟨_, rfl, by rw [← hfin.out]; exact hrow.out, hb.out⟩
def longL (l : List Pr) : Bool := l.any fun p => decide (1000 < p.1.size) || decide (1000 < p.2.size)
set_option maxRecDepth 100000 in
theorem refLong_at {w : World} {B c : Nat} {A : Option Addr} {l : List Pr} (h : Prs w B A l) (hl : l.length ≤ 9223372036854775807) (hs : Sized l) :
    Calls Tryz.prog 8 #[.slice A l.length c] w fun e w' => e = .returned (.bool (longL l)) ∧ w = w' := by
  have hH := Lib.hid h
  have hsH := Lib.hid hs
  obtain ⟨z, hz⟩ : ∃ z, longL l = z := ⟨_, rfl⟩
  have hzH := Lib.hid hz
  rw [hz]
  clear h hs hz
  go_enter Tryz.func8, Tryz.ntmps8
  go_wp2_with fail
  go_loopw [3] (fun iv wr => ∃ k : Nat, k ≤ l.length ∧ iv = .int .i64 k ∧ wr = w ∧ Hid (longL (l.take k) = false)) (fun iv _ => l.length - (intOf iv).toNat)
  case atStart => exact ⟨0, by omega, rfl, rfl, Lib.hid rfl⟩
  case round =>
    obtain ⟨k, hk, rfl, rfl, hno⟩ := hrel
    by_cases hlt : k < l.length
    · obtain ⟨b, o, hA, _, c1, c2⟩ := hH.out.at' hlt
      obtain ⟨hp1, hp2⟩ := hsH.out _ (List.getElem_mem hlt)
      have hsn : Hid (longL (l.take (k + 1)) = (longL (l.take k) || (decide (1000 < l[k].1.size) || decide (1000 < l[k].2.size)))) := Lib.hid (by
        unfold longL
        rw [List.take_succ_eq_append_getElem hlt, List.any_append]
        simp)
      have hall : Hid (∀ p, p = l[k] → (1000 < p.1.size ∨ 1000 < p.2.size) → z = true) := Lib.hid (fun p hp hq => by
        rw [← hzH.out]
        unfold longL
        rw [List.any_eq_true]
        exact ⟨p, by rw [hp]; exact List.getElem_mem hlt, by simpa using hq⟩)
      generalize l[k] = p at *
      subst hA
      by_cases h1 : 1000 < p.1.size
      · have hz1 := Lib.hid (hall.out p rfl (.inl h1))
        go_wp2
        go_ret
        exact ⟨by rw [hz1.out]; rfl, rfl⟩
      · by_cases h2 : 1000 < p.2.size
        · have hz1 := Lib.hid (hall.out p rfl (.inr h2))
          go_wp2
          go_ret
          exact ⟨by rw [hz1.out]; rfl, rfl⟩
        · go_wp2
          go_roundw
          case rel => exact ⟨k + 1, by omega, by go_num, trivial, Lib.hid (by rw [hsn.out, hno.out]; simp [h1, h2])⟩
          case measure => simp [intOf]; omega
    · obtain rfl : k = l.length := by omega
      have hz1 : Hid (z = false) := Lib.hid (by rw [← hzH.out, ← hno.out, List.take_length])
      go_wp2
      go_ret
      exact ⟨by rw [hz1.out]; rfl, rfl⟩
end Go.Proofs.YtjcpclcmnhpgpaaGreatDoor

set_option linter.unusedVariables false
set_option linter.unusedSimpArgs false
namespace Go.Proofs.YtjcpclcmnhpgpaaGreatDoor
open Go.RowKit Go.Shelf
def findL (l : List Pr) (k : ByteArray) : Int := if (l[rankL l k]?).map (·.1) = some k then ((rankL l k : Nat) : Int) else -1
theorem findL_lt {l : List Pr} {k : ByteArray} (h : rankL l k < l.length) : findL l k = if (l[rankL l k]'h).1 = k then ((rankL l k : Nat) : Int) else -1 := by
  unfold findL
  simp only [List.getElem?_eq_getElem h, Option.map_some, Option.some.injEq]
theorem findL_ge {l : List Pr} {k : ByteArray} (h : ¬ rankL l k < l.length) : findL l k = -1 := by
  unfold findL
  simp only [List.getElem?_eq_none (Nat.le_of_not_lt h), Option.map_none, reduceCtorEq, if_false]
set_option maxRecDepth 100000 in
theorem refFind_at {w : World} {B c : Nat} {A : Option Addr} {l : List Pr} (h : Prs w B A l) (hB : B ≤ w.heap.size) (hl : l.length ≤ 4398046511104) (hs : Sized l) (key : ByteArray) (hk : key.size ≤ 9223372036854775807) :
    Calls Tryz.prog 14 #[.slice A l.length c, .string key] w fun e w' => e = .returned (.int .i64 (findL l key)) ∧ Below w.heap.size w w' := by
  have hR := Lib.hid (refRank_at (c := c) h hB hl hs key hk)
  have hle := rankL_le l key
  have hv1 := Lib.hid (fun h => findL_lt (l := l) (k := key) h)
  have hv2 := Lib.hid (fun h => findL_ge (l := l) (k := key) h)
  have hH := Lib.hid h
  generalize rankL l key = n at *
  by_cases hlt : n < l.length
  · have hsb := str_beq l[n].1 key
    have hv := Lib.hid (hv1.out hlt)
    have hd : decide ((n : Int) < (l.length : Int)) = true := by simp; omega
    obtain ⟨p, hp⟩ : ∃ p, l[n] = p := ⟨_, rfl⟩
    have hcH := Lib.hid (fun W (hb : Below w.heap.size w W) => by have := (hH.out.below (hb.mono hB)).at' hlt; rw [hp] at this; exact this)
    rw [hp] at hsb hv
    clear hp
    by_cases hpk : p.1 = key
    · have hq : (p.1.toList == key.toList) = true := by rw [hsb]; exact decide_eq_true hpk
      rw [if_pos hpk] at hv
      clear hsb hpk h hs
      go_enter Tryz.func14, Tryz.ntmps14
      go_wp2_with fail
      refine hR.out.mono ?_
      rintro e w1 ⟨rfl, hb1⟩
      obtain ⟨b, o, rfl, _, c1, _⟩ := hcH.out w1 hb1
      have hb1H := Lib.hid hb1
      clear hb1
      go_wp2
      go_ret
      exact ⟨by rw [hv.out]; rfl, hb1H.out⟩
    · have hq : (p.1.toList == key.toList) = false := by rw [hsb]; exact decide_eq_false hpk
      rw [if_neg hpk] at hv
      clear hsb hpk h hs
      go_enter Tryz.func14, Tryz.ntmps14
      go_wp2_with fail
      refine hR.out.mono ?_
      rintro e w1 ⟨rfl, hb1⟩
      obtain ⟨b, o, rfl, _, c1, _⟩ := hcH.out w1 hb1
      have hb1H := Lib.hid hb1
      clear hb1
      go_wp2
      go_ret
      exact ⟨by rw [hv.out]; rfl, hb1H.out⟩
  · have hd : decide (n < l.length) = false := by simp; omega
    have hv := Lib.hid (hv2.out hlt)
    clear h hs hlt
    go_enter Tryz.func14, Tryz.ntmps14
    go_wp2_with fail
    refine hR.out.mono ?_
    rintro e w1 ⟨rfl, hb1⟩
    have hb1H := Lib.hid hb1
    clear hb1
    go_wp2
    go_ret
    exact ⟨by rw [hv.out]; rfl, hb1H.out⟩
end Go.Proofs.YtjcpclcmnhpgpaaGreatDoor
