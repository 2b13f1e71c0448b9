/-
  The seat's own texts, part t: Open, OpenNd, Float, Live.
-/
import Derived.Test.YtijpmjaeanocpaaGreatDoorAMs
import Derived.Deep.SlicePairs
import Derived.ChangeSlices
import Derived.OwnWalkIn
import Derived.Maps.OwnIn
import Derived.Deep.DeepMust

set_option linter.unusedVariables false
set_option linter.unusedSimpArgs false
namespace Go.Proofs.YtijpmjaeanocpaaGreatDoor
open Go.ChangeShapes Go.WideShapes Go.ChangeAt Go.WideMaps Go.WideElems Go.RowKit Go.Deep
theorem int_bound {n : Int} (h : (Lit.int .i64 n).wf = true) : -9223372036854775808 ≤ n ∧ n ≤ 9223372036854775807 := by
  simpa [Lit.wf, IntKind.min, IntKind.max, IntKind.signed, IntKind.bits] using h
theorem addr_add (b o j : Nat) : (⟨b, o, none⟩ : Addr).add j = ⟨b, o + j, none⟩ := by unfold Addr.add; split <;> simp_all
section
variable {H : Type} {enc : TypeId × Value → H} {w : World} {base : Nat} {held : Bool}
end
end Go.Proofs.YtijpmjaeanocpaaGreatDoor

set_option linter.unusedVariables false
set_option linter.unusedSimpArgs false
namespace Go.Proofs.YtijpmjaeanocpaaGreatDoor
open Go.ChangeShapes Go.WideShapes Go.ChangeAt Go.WideMaps Go.WideElems Go.RowKit Go.Deep
section
variable {H : Type} {enc : TypeId × Value → H} {w : World} {held : Bool} {v : Value} {d : DataW H} {p : List MemPlace}
end
end Go.Proofs.YtijpmjaeanocpaaGreatDoor

set_option linter.unusedVariables false
set_option linter.unusedSimpArgs false
namespace Go.Proofs.YtijpmjaeanocpaaGreatDoor
open Go Go.RowKit
section
variable {F : Fence} {n : Nat} {P : Program} {ops : Array Oper} {md : Region.Mode} {Q : Exit → Act → World → Prop} {C : World → Prop}
def YieldsC (P : Program) (ops : Array Oper) (C : World → Prop) (o : Oper) (v : Value) (a : Act) : Prop :=
  Region.wanted o (yielded ops a.tmps) = true ∧ (∀ w, C w → (execOp a.eval o).run P w = .ok (.value v) w) ∧ ∀ w, o.about P w a.eval = none
theorem YieldsC.of_same {o : Oper} {v : Value} {a a' : Act} (hy : YieldsC P ops C o v a) (he : execOp a'.eval o = execOp a.eval o)
    (hw : Region.wanted o (yielded ops a'.tmps) = Region.wanted o (yielded ops a.tmps)) (hb : ∀ w, o.about P w a'.eval = o.about P w a.eval) : YieldsC P ops C o v a' :=
  ⟨hw.trans hy.1, fun w hc => by rw [he]; exact hy.2.1 w hc, fun w => by rw [hb w]; exact hy.2.2 w⟩
theorem YieldsC.op {i : Nat} {o : Oper} {v : Value} {a : Act} (hnd : noDefer ops = true) (hi : ops[i]? = some o) (hy : YieldsC P ops C o v a) {K : Act → World → Prop} {w : World} (hc : C w) (h : K (a.put o.dst v) w) : wpOpIn F n P ops Q i K a w := by
  unfold wpOpIn
  simp only [hi]
  rw [if_pos hy.1]
  refine ⟨(fun f hf => by rw [hy.2.2 w] at hf; cases hf), ?_⟩
  rw [Oper.semAt_plain F _ _ (noDefer_spec hnd hi), hy.2.1 w hc]
  exact h
theorem wpOpIn_putC {j : Nat} {oi oj : Oper} {v : Value} (hnd : noDefer ops = true) (hj : ops[j]? = some oj) (hap : oi.apart ops oj = true)
    (hsi : ∀ cs b, oi.op ≠ .select cs b) (hsj : ∀ cs b, oj.op ≠ .select cs b) (hQ : ∀ c a w, Q (.panic c) (a.put oi.dst v) w → Q (.panic c) a w)
    {K : Act → World → Prop} {a : Act} {w : World} (hy : YieldsC P ops C oi v a) (h : wpOpIn F n P ops Q j K (a.put oi.dst v) w) :
    wpOpIn F n P ops Q j (fun a' w' => YieldsC P ops C oi v a' ∧ K (a'.put oi.dst v) w') a w := by
  obtain ⟨h1, h2, h3⟩ := Oper.apart_spec hap
  have keep : ∀ (a : Act), YieldsC P ops C oi v a → ∀ u, YieldsC P ops C oi v (a.put oj.dst u) := fun a hy u =>
    hy.of_same (execOp_put oi hsi a oj.dst u h3) (wanted_put oi a oj.dst u h3) (fun w => about_put oi w a oj.dst u h3)
  have keepD : ∀ d, YieldsC P ops C oi v { a with defers := d :: a.defers } := fun d => hy.of_same rfl rfl (fun _ => rfl)
  have hpl : ∀ ρ, oj.semAt F.round ρ = execOp ρ oj := fun ρ => Oper.semAt_plain F _ _ (noDefer_spec hnd hj)
  unfold wpOpIn at *
  simp only [hj] at *
  rw [wanted_put oj a oi.dst v h1, about_put oj w a oi.dst v h1] at h
  split
  · rename_i hw
    simp only [hw, if_true] at h
    unfold Oper.wpIn at *
    rw [about_put oj w a oi.dst v h1] at h
    refine ⟨h.1, ?_⟩
    have h := h.2
    rw [hpl, execOp_put oj hsj a oi.dst v h1] at h
    rw [hpl]
    generalize (execOp a.eval oj).run P w = r at *
    cases r with
    | ok x w' =>
      cases x <;> simp only [Oper.uponIn] at h ⊢
      case value u => exact ⟨keep a hy u, by rw [← Act.put_comm a v u h2]; exact h⟩
      case skip => exact ⟨keep a hy _, by rw [← Act.put_comm a v undef h2]; exact h⟩
      case defer d =>
        refine ⟨keep _ (keepD d) _, ?_⟩
        rw [← Act.put_comm _ v undef h2, ← Act.put_defers]
        exact h
      case enter f args =>
        refine ⟨h.1, CallsIn.mono h.2 fun e w'' he => ?_⟩
        cases e with
        | returned u => exact ⟨keep a hy u, by rw [← Act.put_comm a v u h2]; exact he⟩
        | panicked c => exact hQ _ _ _ he
        | outgrown => exact he
      case row row args => exact ⟨h.1, RowsIn.mono h.2 fun u w'' he => ⟨keep a hy u, by rw [← Act.put_comm a v u h2]; exact he⟩⟩
      case round l f tmps assign body =>
        refine ⟨h.1, RoundIn.mono h.2 fun e w'' he => ?_⟩
        cases e with
        | returned u => exact ⟨keep a hy u, by rw [← Act.put_comm a v u h2]; exact he⟩
        | panicked c => exact hQ _ _ _ he
        | outgrown => exact he
    | halt x w' =>
      cases x <;> simp only [Oper.uponIn] at h ⊢
      case panic u => exact hQ _ _ _ h
  · rename_i hw
    simp only [hw] at h
    exact ⟨h.1, keep a hy _, by rw [← Act.put_comm a v undef h2]; exact h.2⟩
def wpAnyC (F : Fence) (n : Nat) (P : Program) (md : Region.Mode) (ops : Array Oper) (Q : Exit → Act → World → Prop) (C : World → Prop) (m : Nat) : Nat → Array Bool → Act → World → Prop
  | 0, listed, a, w => Region.ready md ops listed = [] ∧ Q .normal a w
  | f + 1, listed, a, w =>
    (Region.ready md ops listed = [] → Q .normal a w) ∧
    ∀ i ∈ Region.ready md ops listed, wpOpIn F n P ops Q i (fun a' w' => (i < m → C w') ∧ wpAnyC F n P md ops Q C m f (listed.setIfInBounds i true) a' w') a w
variable {m : Nat}
theorem wpAnyC.any : ∀ (f : Nat) (listed : Array Bool) (a : Act) (w : World), wpAnyC F n P md ops Q C m f listed a w → wpAnyIn F n P md ops Q f listed a w
  | 0, _, _, _, h => h
  | f + 1, listed, a, w, h => ⟨h.1, fun i hi => wpOpIn_mono (fun a' w' h' => wpAnyC.any f _ a' w' h'.2) (h.2 i hi)⟩
theorem wpAnyC_first {i : Nat} {oi : Oper} {v : Value} (hnd : noDefer ops = true) (hi : ops[i]? = some oi) (hsel : ∀ (j : Nat) (o : Oper) cs b, ops[j]? = some o → o.op ≠ .select cs b)
    (hs : Region.sinkB md ops m = true) (hc : Region.chainB md ops m = true) (hm : m < ops.size) (him : i < m) (hQ : ∀ c a w, Q (.panic c) (a.put oi.dst v) w → Q (.panic c) a w) :
    ∀ (f : Nat) (listed : Array Bool) (a : Act) (w : World), HeadInv md ops m listed →
      (∀ j oj, ops[j]? = some oj → j ≠ i → listed.getD j true = false → (∀ e ∈ oj.after, Region.binds md e = true → e.on ≠ i) → oi.apart ops oj = true) →
      i ∈ Region.ready md ops listed → YieldsC P ops C oi v a → C w →
      wpAnyC F n P md ops Q C m f (listed.setIfInBounds i true) (a.put oi.dst v) w → wpAnyC F n P md ops Q C m (f + 1) listed a w := by
  intro f
  induction f with
  | zero =>
    intro listed a w inv _ hr hy hC H
    refine ⟨fun h => (by rw [h] at hr; cases hr), fun j hj => ?_⟩
    by_cases hji : j = i
    · subst hji; exact hy.op hnd hi hC ⟨fun _ => hC, H⟩
    · have := ready_mono hj hji
      rw [H.1] at this
      cases this
  | succ f ih =>
    intro listed a w inv hfree hr hy hC H
    have hun := (mem_ready.1 hr).1
    refine ⟨fun h => (by rw [h] at hr; cases hr), fun j hj => ?_⟩
    have hjm : j < m := by
      rcases Nat.lt_or_ge j m with h | h
      · exact h
      · exact absurd hj (tail_waits hs hc hm inv _ i rfl him hun j h)
    by_cases hji : j = i
    · subst hji; exact hy.op hnd hi hC ⟨fun _ => hC, H⟩
    · have h1 := H.2 j (ready_mono hj hji)
      obtain ⟨hjun, oj, hoj, hall⟩ := mem_ready.1 hj
      have hnot : ∀ e ∈ oj.after, Region.binds md e = true → e.on ≠ i := fun e he hb heq => by
        have h1 := hall e he hb
        rw [heq, getD_both hun] at h1
        cases h1
      have h2 := wpOpIn_putC hnd hoj (hfree j oj hoj hji hjun hnot) (fun cs b => hsel i oi cs b hi) (fun cs b => hsel j oj cs b hoj) hQ hy h1
      have hfree' : ∀ k ok, ops[k]? = some ok → k ≠ i → (listed.setIfInBounds j true).getD k true = false →
          (∀ e ∈ ok.after, Region.binds md e = true → e.on ≠ i) → oi.apart ops ok = true := fun k ok hk hki hun' hno => by
        refine hfree k ok hk hki ?_ hno
        by_cases hjk : j = k
        · subst hjk; exact hjun
        · rw [getD_set_ne true hjk] at hun'; exact hun'
      refine wpOpIn_mono (fun a' w' h3 => ?_) h2
      have hC' := h3.2.1 hjm
      refine ⟨fun _ => hC', ih (listed.setIfInBounds j true) a' w' (inv.set hj hjm) hfree' (ready_mono hr (Ne.symm hji)) h3.1 hC' ?_⟩
      rw [Array.setIfInBounds_comm _ _ hji]
      exact h3.2.2
def Qn (K : Act → World → Prop) (Q : Exit → Act → World → Prop) : Exit → Act → World → Prop
  | .normal, a, w => K a w
  | e, a, w => Q e a w
theorem wpIn_post {o : Oper} {a : Act} {w : World} {K : Act → World → Prop} {Q' : Exit → Act → World → Prop} (hQ : ∀ c a w, Q' (.panic c) a w → Q (.panic c) a w) (hO : LetsOut Q' → LetsOut Q) (hh : o.wpIn F n P a w K Q') : o.wpIn F n P a w K Q := by
  unfold Oper.wpIn at *
  refine ⟨hh.1, ?_⟩
  have hh := hh.2
  generalize (o.semAt F.round a.eval).run P w = r at *
  cases r with
  | ok x w' =>
    cases x <;> simp only [Oper.uponIn] at hh ⊢ <;>
      first
        | exact hh
        | exact ⟨hh.1, CallsIn.mono hh.2 (fun e w'' he => by cases e <;> first | exact he | exact hQ _ _ _ he | exact hO he)⟩
        | exact ⟨hh.1, RoundIn.mono hh.2 (fun e w'' he => by cases e <;> first | exact he | exact hQ _ _ _ he | exact hO he)⟩
  | halt x w' => cases x <;> simp only [Oper.uponIn] at hh ⊢ <;> first | exact hQ _ _ _ hh | exact hh
theorem wpOpIn_list {i : Nat} {o : Oper} {K : Act → World → Prop} {a : Act} {w : World} (hi : ops[i]? = some o) (h : wpListIn F n P ops (Qn K Q) [o] a w) : wpOpIn F n P ops Q i K a w := by
  unfold wpOpIn
  simp only [hi]
  unfold wpListIn at h
  split
  · rename_i hw
    rw [if_pos hw] at h
    exact wpIn_post (fun _ _ _ h => h) (fun h => h) h
  · rename_i hw
    rw [if_neg hw] at h
    exact h
def wpPureC (P : Program) (ops : Array Oper) (C : World → Prop) (L : Act → Prop) : List Oper → Act → Prop
  | [], a => L a
  | o :: l, a => ∃ v, YieldsC P ops C o v a ∧ wpPureC P ops C L l (a.put o.dst v)
def wpChainC (F : Fence) (n : Nat) (P : Program) (ops : Array Oper) (Q : Exit → Act → World → Prop) (C : World → Prop) : Nat → List Oper → Act → World → Prop
  | 0, l, a, w => wpListIn F n P ops Q l a w
  | _ + 1, [], a, w => Q .normal a w
  | c + 1, o :: l, a, w => wpListIn F n P ops (Qn (fun a' w' => C w' ∧ wpChainC F n P ops Q C c l a' w') Q) [o] a w
theorem wpChainC_step {c : Nat} {o : Oper} {l : List Oper} {a : Act} {w : World} (h : ∀ K : Act → World → Prop, (∀ a' w', C w' → wpChainC F n P ops Q C c l a' w' → K a' w') → wpListIn F n P ops (Qn K Q) [o] a w) : wpChainC F n P ops Q C (c + 1) (o :: l) a w :=
  h _ (fun _ _ h1 h2 => ⟨h1, h2⟩)
theorem wpPureC_step {L : Act → Prop} {o : Oper} {l : List Oper} {a : Act} (v : Value) (h1 : Region.wanted o (yielded ops a.tmps) = true) (h2 : ∀ w, C w → (execOp a.eval o).run P w = .ok (.value v) w) (h3 : ∀ w, o.about P w a.eval = none) (h : wpPureC P ops C L l (a.put o.dst v)) : wpPureC P ops C L (o :: l) a :=
  ⟨v, ⟨h1, h2, h3⟩, h⟩
theorem wpChainC_zero {l : List Oper} {a : Act} {w : World} (h : wpListIn F n P ops Q l a w) : wpChainC F n P ops Q C 0 l a w := h
theorem wpPureC_nil {L : Act → Prop} {a : Act} (h : L a) : wpPureC P ops C L [] a := h
theorem wpAnyC_of_chain : ∀ (l : List Oper) (c k : Nat) (listed : Array Bool) (a : Act) (w : World), (∀ j, l[j]? = ops[k + j]?) → m ≤ k + c →
    Region.seqB md ops l.length k listed = true → wpChainC F n P ops Q C c l a w → wpAnyC F n P md ops Q C m l.length listed a w
  | [], c, k, listed, a, w, _, _, hB, h => ⟨by simpa [Region.seqB] using hB, by cases c <;> exact h⟩
  | o :: l, c, k, listed, a, w, hl, hm, hB, h => by
    have h0 : ops[k]? = some o := by simpa using (hl 0).symm
    simp only [List.length_cons, Region.seqB, Bool.and_eq_true, decide_eq_true_eq] at hB
    refine ⟨fun h1 => (by rw [hB.1] at h1; cases h1), fun i hi => ?_⟩
    rw [hB.1] at hi
    have hik : i = k := by simpa using hi
    subst hik
    have hl' : ∀ j, l[j]? = ops[i + 1 + j]? := fun j => by have := hl (j + 1); simpa [Nat.add_assoc, Nat.add_comm 1 j] using this
    cases c with
    | zero =>
      have hw : wpOpIn F n P ops Q i (wpListIn F n P ops Q l) a w := by unfold wpOpIn; simp only [h0]; exact h
      exact wpOpIn_mono (fun a' w' h' => ⟨fun him => by omega, wpAnyC_of_chain l 0 (i + 1) _ a' w' hl' (by omega) hB.2 h'⟩) hw
    | succ c =>
      exact wpOpIn_mono (fun a' w' h' => ⟨fun _ => h'.1, wpAnyC_of_chain l c (i + 1) _ a' w' hl' (by omega) hB.2 h'.2⟩) (wpOpIn_list h0 h)
theorem wpAnyC_lex {g : Nat} {w : World} (hnd : noDefer ops = true) (hsel : Region.noSelect ops = true) (hs : Region.sinkB md ops m = true) (hc : Region.chainB md ops m = true) (hm : m < ops.size) (hC : C w) {L : Array Bool → Act → Prop}
    (hL : ∀ listed a, L listed a → wpAnyC F n P md ops Q C m g listed a w) {Lq : Act → Prop} {k1 : Nat} (hQ : ∀ c a a' w, Q (.panic c) a w → Q (.panic c) a' w) (hLq : ∀ listed a, Region.seqB md ops g k1 listed = true → Lq a → L listed a) :
    ∀ (l : List Oper) (k : Nat) (listed : Array Bool) (a : Act), (∀ j, j < l.length → l[j]? = ops[k + j]?) → k + l.length = k1 → k1 ≤ m → HeadInv md ops m listed →
    Region.lexHead md ops g l.length k listed = true → wpPureC P ops C Lq l a → wpAnyC F n P md ops Q C m (l.length + g) listed a w
  | [], k, listed, a, _, hk, _, _, hB, h => by
    have : k = k1 := by simpa using hk
    subst this
    rw [List.length_nil, Nat.zero_add]
    exact hL _ _ (hLq _ _ (by simpa [Region.lexHead] using hB) h)
  | o :: l, k, listed, a, hl, hk, hkm, inv, hB, h => by
    have h0 : ops[k]? = some o := by simpa using (hl 0 (by simp)).symm
    simp only [List.length_cons, Region.lexHead, Bool.and_eq_true] at hB
    obtain ⟨⟨hr, hf⟩, hB'⟩ := hB
    have hkn : k < m := by simp only [List.length_cons] at hk; omega
    have hr' : k ∈ Region.ready md ops listed := by simpa using hr
    obtain ⟨v, hy, hK⟩ := h
    rw [List.length_cons, show l.length + 1 + g = (l.length + g) + 1 by omega]
    exact wpAnyC_first hnd h0 (Region.noSelect_spec hsel) hs hc hm hkn (fun c a w h => hQ c _ _ w h) (l.length + g) listed a w inv (Region.free_spec h0 hf) hr' hy hC
      (wpAnyC_lex hnd hsel hs hc hm hC hL hQ hLq l (k + 1) _ _ (fun j hj => by have := hl (j + 1) (by simp; omega); simpa [Nat.add_assoc, Nat.add_comm 1 j] using this) (by simp only [List.length_cons] at hk; omega) hkm (inv.set hr' hkn) hB' hK)
theorem wpIn_region_float {id : Nat} {Q : Exit → Act → World → Prop} {a : Act} {w : World} {l : List Oper} (C : World → Prop) (k c m : Nat) (hm : P.follows .mixedOrders = true) (hnd : noDefer l.toArray = true) (hsel : Region.noSelect l.toArray = true)
    (hs : Region.sinkB .any l.toArray m = true) (hc : Region.chainB .any l.toArray m = true) (hml : m < l.length) (hkm : k + c = m) (hlex : Region.lexHead .any l.toArray (l.length - k) k 0 (Array.replicate l.toArray.size false) = true)
    (hC : C w.drew) (hQ : ∀ c a a' w, Q (.panic c) a w → Q (.panic c) a' w) (h : wpPureC P l.toArray C (fun a' => wpChainC F n P l.toArray Q C c (l.drop k) a' w.drew) (l.take k) a) : (Code.region id l.toArray true).wpIn F n P Q a w := by
  have inv0 : HeadInv .any l.toArray m (Array.replicate l.toArray.size false) :=
    ⟨by simp, fun j oj _ hl => (by rw [getD_replicate_false] at hl; cases hl), fun t _ ht => getD_in (by simpa using ht) (getD_replicate_false _ _)⟩
  have htl : (l.take k).length = k := by simp; omega
  refine wpIn_region_any hm (wpAnyC.any (C := C) (m := m) _ _ _ _ ?_)
  have key := wpAnyC_lex (F := F) (n := n) (P := P) (md := .any) (ops := l.toArray) (Q := Q) (C := C) (m := m) (g := l.length - k) (w := w.drew) hnd hsel hs hc (by simpa using hml) hC
    (L := fun listed a => Region.seqB .any l.toArray (l.length - k) k listed = true ∧ wpChainC F n P l.toArray Q C c (l.drop k) a w.drew)
    (fun listed a hL => by
      have hdl : (l.drop k).length = l.length - k := by simp
      have := wpAnyC_of_chain (F := F) (n := n) (P := P) (md := .any) (ops := l.toArray) (Q := Q) (C := C) (m := m) (l.drop k) c k listed a w.drew (fun j => by simp [List.getElem?_drop]) (by omega) (by rw [hdl]; exact hL.1) hL.2
      rwa [hdl] at this)
    (Lq := fun a' => wpChainC F n P l.toArray Q C c (l.drop k) a' w.drew) (k1 := k) hQ (fun listed a h1 h2 => ⟨h1, h2⟩) (l.take k) 0 (Array.replicate l.toArray.size false) a
    (fun j hj => by rw [htl] at hj; simp [hj]) (by rw [htl]; omega) (by omega) inv0 (by rw [htl]; exact hlex) h
  rw [htl, show k + (l.length - k) = l.toArray.size by simp; omega] at key
  exact key
end
end Go.Proofs.YtijpmjaeanocpaaGreatDoor

set_option linter.unusedVariables false
set_option linter.unusedSimpArgs false
namespace Go.Proofs.YtijpmjaeanocpaaGreatDoor
open Go.RowKit Go.Shelf
attribute [local go_sem] Oper.semAt_some wide_fn
theorem Tryz.under_ints : Tryz.prog.underlying 65 = some (.slice 3) := by kernel_rfl
theorem Tryz.info_int : (Tryz.prog.info? 3).map (fun i => (i.zero, i.size, i.bytes)) = some (some (.int .i64 0), 1, 8) := by kernel_rfl
def rowsOf (l : List (Nat × Nat)) : List Value := l.map fun b => .int .i64 (b.1 : Nat)
def OutE (B : Nat) (W : World) (k : Nat) : Prop := k = B ∨ ∃ m c, W.cell? ⟨B, 0, none⟩ = some (.slice (some ⟨k, 0, none⟩) m c)
theorem outE_below {B : Nat} {X Y : World} (hB : B < X.heap.size) (hb : Below X.heap.size X Y) (k : Nat) (h : OutE B Y k) : OutE B X k := by
  rcases h with h | ⟨m, c, h⟩
  · exact .inl h
  · exact .inr ⟨m, c, (hb.cell (p := ⟨B, 0, none⟩) hB).symm.trans h⟩
theorem outE_put {B : Nat} {W : World} {l : Nat} (o' : Obj) (hl : B ≠ l) (k : Nat) (h : OutE B (W.putObj l o') k) : OutE B W k := by
  rcases h with h | ⟨m, c, h⟩
  · exact .inl h
  · refine .inr ⟨m, c, (World.cell?_of_block (a := ⟨B, 0, none⟩) ?_).symm.trans h⟩
    exact World.putObj_heap_other hl
def LiveI (w : World) (l : List (Nat × Nat)) (W : World) : Prop := ∃ v, Boxed W w.heap.size 65 v ∧ W.ownsRow w.heap.size 3 1 v l.length (rowsOf l) ∧ Below w.heap.size w W
theorem LiveI.below {w X Y : World} {l : List (Nat × Nat)} (h : LiveI w l X) (hb : Below X.heap.size X Y) : LiveI w l Y := by
  obtain ⟨v, h1, h2, h3⟩ := h
  exact ⟨v, (hb.block _ h1.lt).trans h1, ownsRow_kb (Cs := fun _ => False) h2 (KB.below hb) (fun _ h => h.elim), h3.trans (hb.mono h3.size)⟩
theorem liveI_own {β : Type} (w : World) (f : β → List (Nat × Nat)) (n : Nat) (hn : w.heap.size ≤ n) : OwnFrom n (fun s W => LiveI w (f s) W) := fun s X Y row hs hg hr => by
  obtain ⟨v, h1, h2, h3⟩ := hs
  obtain ⟨v', a, b, _⟩ := holdsRow_own w.heap.size w.heap.size 65 3 1 (fun s => (f s).length) (fun s => rowsOf (f s)) (fun _ _ => True) s X Y row ⟨v, h1, h2, trivial⟩ hg (fun r e => (hr r e).2)
  exact ⟨v', a, b, ownFrom_below (β := β) (Nat.le_refl _) hn s X Y row h3 hg hr⟩
structure BoxOff (W : World) (B3 B : Nat) : Prop where
  ne : B ≠ B3
  off : ∃ u, W.cell? ⟨B3, 0, none⟩ = some u ∧ u.ownBlock ≠ some B
theorem live_append {w W w1 : World} {l l' : List (Nat × Nat)} {v v' : Value} {tmp : Obj} (hv : Boxed W w.heap.size 65 v) (hrow : W.ownsRow w.heap.size 3 1 v l.length (rowsOf l)) (hb : Below w.heap.size w W)
    (hown' : w1.ownsRow w.heap.size 3 1 v' l'.length (rowsOf l')) (hgrow : (W.alloc tmp).grownBy w1 v.ownBlock) (hblk : v'.ownBlock = v.ownBlock ∨ v'.ownBlock = some (W.alloc tmp).heap.size) :
    Boxed w1 w.heap.size 65 v ∧ LiveI w l' (w1.setCell ⟨w.heap.size, 0, none⟩ v') ∧ KE (OutE w.heap.size) W (w1.setCell ⟨w.heap.size, 0, none⟩ v') ∧ KeepsOthers W (w1.setCell ⟨w.heap.size, 0, none⟩ v') ∧ ∀ B, B < W.heap.size → BoxOff W w.heap.size B → BoxOff (w1.setCell ⟨w.heap.size, 0, none⟩ v') w.heap.size B := by
  obtain ⟨a1, a2, a3, a4, a5⟩ := hv.appended (by decide) hrow hb.size (Nat.le_refl _) hown' hgrow
  refine ⟨a1, ⟨v', a2, a3, hb.trans a5⟩, ⟨⟨a4.size, fun k o hk ho hn => ?_⟩, fun k hk => ?_⟩, a4, fun B hB ho => ⟨ho.ne, v', a2.cell, fun e => ?_⟩⟩
  · have hkw : k < W.heap.size := (Array.getElem?_eq_some_iff.1 hk).1
    have h1 : k ≠ w.heap.size := fun e => hn (.inl e)
    have h2 : some k ≠ v.ownBlock := fun e => by
      refine hn (.inr ?_)
      rcases hrow.2 with ⟨rfl, _⟩ | ⟨g, cap, cur, rfl, _, _, _⟩
      · simp [Value.ownBlock] at e
      · have : k = g := by simpa [Value.ownBlock] using e
        subst this
        exact ⟨_, _, hv.cell⟩
    rw [Below.heap_setCell _ _ _ k h1]
    exact (hgrow.block k (by simp; omega) h2).trans ((Below.heap_alloc W tmp k hkw).trans hk)
  · rcases hk with rfl | ⟨m, c, hc⟩
    · exact .inl (.inl rfl)
    · rw [a2.cell] at hc
      simp only [Option.some.injEq] at hc
      subst hc
      have hob : (Value.slice (some ⟨k, 0, none⟩) m c).ownBlock = some k := by simp [Value.ownBlock]
      rw [hob] at hblk
      rcases hblk with h1 | h1
      · rcases hrow.2 with ⟨rfl, _⟩ | ⟨g, cap, cur, rfl, _, _, _⟩
        · simp [Value.ownBlock] at h1
        · have : k = g := by simpa [Value.ownBlock] using h1
          subst this
          exact .inl (.inr ⟨_, _, hv.cell⟩)
      · have : k = (W.alloc tmp).heap.size := by simpa using h1
        exact .inr (by rw [this]; simp)
  · obtain ⟨u, h2, h3⟩ := ho.off
    rw [hv.cell] at h2
    simp only [Option.some.injEq] at h2
    subst h2
    rcases hblk with h1 | h1
    · rw [h1] at e; exact h3 e
    · rw [h1] at e
      have : W.heap.size + 1 = B := by simpa using e
      omega
theorem BoxOff.not {W : World} {B3 B : Nat} (h : BoxOff W B3 B) : ¬ OutE B3 W B := by
  rintro (h1 | ⟨m, c, h1⟩)
  · exact h.ne h1
  · obtain ⟨u, h2, h3⟩ := h.off
    rw [h1] at h2
    simp only [Option.some.injEq] at h2
    subst h2
    exact h3 (by simp [Value.ownBlock])
theorem BoxOff.kept {W W' : World} {B3 B : Nat} {row : Option Nat} (h : BoxOff W B3 B) (hg : W.grownBy W' row) (hr : ∀ r, row = some r → ∃ o : Obj, W.heap[r]? = some o ∧ o.isCells = false) : BoxOff W' B3 B := by
  obtain ⟨u, h2, h3⟩ := h.off
  exact ⟨h.ne, u, cell_kept h2 hg hr, h3⟩
theorem BoxOff.below {W W' : World} {B3 B : Nat} (h : BoxOff W B3 B) (hb : Below W.heap.size W W') : BoxOff W' B3 B :=
  h.kept (row := none) ⟨hb.os, hb.tape, hb.output, hb.size, fun k hk _ => hb.block k hk⟩ (fun r e => by cases e)
theorem HdBox.below {W W' : World} {B : Nat} {h : Hd} (hx : HdBox W B h) (hb : Below W.heap.size W W') : HdBox W' B h :=
  hx.kept (row := none) ⟨hb.os, hb.tape, hb.output, hb.size, fun k hk _ => hb.block k hk⟩ (fun r e => by cases e)
theorem HdBox.ke {W W' : World} {B B3 : Nat} {h : Hd} (hx : HdBox W B h) (hk : KE (OutE B3) W W') (ho : BoxOff W B3 B) : HdBox W' B h :=
  ⟨hk.kb.cell hx.k ho.not, hk.kb.cell hx.n ho.not, hk.kb.cell hx.w ho.not⟩
theorem live_off {w W : World} {l : List (Nat × Nat)} (h : LiveI w l W) {o : Obj} : BoxOff (W.alloc o) w.heap.size W.heap.size := by
  obtain ⟨v, h1, h2, h3⟩ := h
  refine ⟨by have := h1.lt; omega, v, (h1.alloc o).cell, fun e => ?_⟩
  rcases h2.2 with ⟨rfl, _⟩ | ⟨g, cap, cur, rfl, _, hg, _⟩
  · simp [Value.ownBlock] at e
  · have : g = W.heap.size := by simpa [Value.ownBlock] using e
    have := (Array.getElem?_eq_some_iff.1 hg).1
    omega
def slotBlocks (p c m k : Nat) : List (Nat × Nat) := ((List.range k).filter fun j => m.testBit j).map fun j => (64 * p + 2 + j * sz c, sz c)
theorem slotBlocks_succ (p c m k : Nat) : slotBlocks p c m (k + 1) = if m.testBit k = true then slotBlocks p c m k ++ [(64 * p + 2 + k * sz c, sz c)] else slotBlocks p c m k := by
  unfold slotBlocks
  rw [List.range_succ, List.filter_append, List.map_append]
  by_cases h : m.testBit k = true
  · rw [if_pos h]; simp [h]
  · rw [if_neg h]; simp [h]
theorem slotBlocks_len (p c m k : Nat) : (slotBlocks p c m k).length ≤ k := by
  unfold slotBlocks
  rw [List.length_map]
  exact Nat.le_trans (List.length_filter_le _ _) (by simp)
theorem slotBlocks_all (p c m : Nat) : slotBlocks p c m (slotsN c) = blocksOf (p, .small c m) := rfl
theorem blocksOf_len (x : Nat × Hd) : (blocksOf x).length ≤ 31 := by
  obtain ⟨p, h⟩ := x
  cases h with
  | small c m => exact Nat.le_trans (slotBlocks_len p c m (slotsN c)) (slots_small c)
  | large w => simp [blocksOf]
theorem blocks_len (L : HL) : (blocks L).length ≤ 31 * L.length := by
  induction L with
  | nil => simp [blocks]
  | cons x t ih =>
    have h := blocksOf_len x
    simp only [blocks, List.flatMap_cons, List.length_append, List.length_cons] at *
    omega
theorem heads_len {L : HL} : L.length ≤ (runs L).length := by
  induction L with
  | nil => simp
  | cons x t ih =>
    have := x.2.len_pos
    simp only [runs, List.flatMap_cons, List.length_append, List.length_range', List.length_cons] at *
    omega
theorem rowsOf_snoc (l : List (Nat × Nat)) (b : Nat × Nat) : rowsOf l ++ [.int .i64 (b.1 : Nat)] = rowsOf (l ++ [b]) := by simp [rowsOf]
theorem rows_large (l : List (Nat × Nat)) (p ww : Nat) : rowsOf l ++ [.int .i64 ((p : Int) * 64 + 2)] = rowsOf (l ++ [(64 * p + 2, ww)]) := by
  rw [← rowsOf_snoc]
  have : (p : Int) * 64 + 2 = ((64 * p + 2 : Nat) : Int) := by push_cast; omega
  rw [this]
theorem rows_small (l : List (Nat × Nat)) (A s : Nat) : rowsOf l ++ [.int .i64 (A : Int)] = rowsOf (l ++ [(A, s)]) := rowsOf_snoc l (A, s)
set_option maxHeartbeats 4000000 in
set_option maxRecDepth 100000 in
theorem live_is {w : World} {ha a q : Nat} {F : Nat → Prop} {L : HL} {mem : Nat → Nat} (h : HeapIs w ha a F L q mem) :
    Calls Tryz.prog 76 #[.pointer (some ⟨ha, 0, none⟩)] w fun e w' => ∃ v, e = .returned v ∧ w'.ownsRow w.heap.size 3 1 v (blocks L).length (rowsOf (blocks L)) ∧ Below w.heap.size w w' := by
  obtain ⟨i0, hi, hz0, hz1, hz2⟩ := info_parts Tryz.info_int
  obtain ⟨⟨mb, D, k1, rfl⟩, k3, k4⟩ := h
  refine (callsIn_wide (n := 9)).1 ?_
  have hN := Lib.hid ((callsIn_wide (n := 8)).2 (heapNone_at k1))
  have hHd := Lib.hid (fun w => (callsIn_wide (n := 8)).2 (heads_calls ha w))
  have HH := Lib.hid k1
  have Hl := Lib.hid k3
  have Hh := Lib.hid k4
  have hLlen : L.length ≤ 4096 := by have h1 := k1.sl.room; have h2 := k1.sl.quota; rw [k1.sl.count] at h1; have := heads_len (L := L); omega
  clear k1 k3 k4
  refine callsIn_of_wp_marks Tryz.func76 rfl trivial ?_ rfl
  simp only [Tryz.ntmps76, List.size_toArray, List.length_cons, List.length_nil, Nat.reduceAdd, Nat.reduceSub, Array.replicate_succ, Array.replicate_zero, List.push_toArray, List.append_toArray, List.nil_append, List.cons_append]
  gi_wp2_with fail
  refine hN.out.mono ?_
  rintro e w' ⟨rfl, rfl⟩
  gi_wp2_with fail
  refine (hHd.out _).mono ?_
  rintro e w2 ⟨rfl, hW2⟩
  have hsz1 : (w.alloc (Obj.cells #[Value.slice none 0 0] 65)).heap.size = w.heap.size + 1 := by simp
  rw [hsz1]
  have hbx : Boxed w2 w.heap.size 65 (.slice none 0 0) := by rw [hW2]; exact (Boxed.new w _ _).alloc _
  have hx2 : w2.cell? ⟨w.heap.size + 1, 0, none⟩ = some (.pointer (some ⟨ha, 0, none⟩)) := by rw [hW2]; go_simp
  have hb2w : Below w.heap.size w w2 := by rw [hW2]; exact ((Below.refl _ w).alloc (Nat.le_refl _) _).alloc (by simp) _
  have hz2' : w.heap.size + 2 ≤ w2.heap.size := by rw [hW2]; simp
  clear hW2 hN hsz1
  gi_wp2_with fail
  have HH2 := Lib.hid (HH.out.below hb2w)
  have hofn : ∀ k, OutE w.heap.size w2 k → k = w.heap.size := fun k hk => by
    rcases hk with h | ⟨m, c, h⟩
    · exact h
    · rw [hbx.cell] at h; cases h
  have hE0 : EOk (OutE w.heap.size) w2.heap.size a mb ha (w.heap.size + 1) D none w2 := ⟨Nat.le_refl _, fun k hk => by
    have hk2 := hofn k hk
    subst hk2
    refine ⟨fun hf => ?_, ?_, ?_, by omega, fun r hr => by cases hr⟩
    · exact Nat.lt_irrefl _ (HH.out.sl.lt hf)
    · have := cell_lt HH.out.hs; simp only at this; omega
    · have h2 := HH.out.tabF a (.inl rfl); have h3 := HH.out.sl.lt (.inl rfl); omega⟩
  refine wpIn_rangeFunc_ownH (α := {z : Nat × Hd // z ∈ L}) rfl (by omega) (gf := 178) (lb := #[.pointer (some ⟨w.heap.size + 1, 0, none⟩)]) rfl trivial (enters_of Tryz.func178 (by kernel_rfl) rfl)
    (heads_stopsE HH2.out Hl.out Hh.out hx2 (OutE w.heap.size) (fun X Y hX hb k hk => outE_below (by omega) hb k hk) hE0 (fun k hk => by have := hofn k hk; omega))
    (fun h k => h.trans k) (fun W l o o' hl' hl h1 h2 => ⟨KB.putObj o' hl h1 h2, fun k hk => .inl (outE_put o' (by omega) k hk)⟩) (Below.refl _ _) (fun _ => rfl)
    (fun pre W => LiveI w (blocks (pre.map (fun (z : {z : Nat × Hd // z ∈ L}) => z.1))) W)
    (fun cd pre W => False)
    (liveI_own w (fun pre : List {z : Nat × Hd // z ∈ L} => blocks (pre.map (fun (z : {z : Nat × Hd // z ∈ L}) => z.1))) _ (by omega))
    (fun _ _ _ _ _ hs _ _ => hs)
    ⟨_, hbx, World.ownsRow_nil _ _ _ _, hb2w⟩
    (fun x a' W => ∃ B, HdBox W B x.1.2 ∧ BoxOff W w.heap.size B ∧ a' = { tmps := #[Value.pointer (some { block := ha, off := 0 }), undef, Value.slice none 0 0, Value.pointer (some { block := w.heap.size, off := 0 }), Value.int IntKind.i64 (x.1.1 : Nat), Value.pointer (some { block := B, off := 0 }), undef, undef, undef, Value.pointer (some { block := ha, off := 0 }), Value.bool false, Value.pointer (some { block := ha, off := 0 }), Value.func (Fn.func 178) #[] #[Value.pointer (some { block := w.heap.size + 1, off := 0 })], Value.int IntKind.i64 (x.1.1 : Nat), hdV x.1.2, undef, undef, undef, undef, undef, undef, undef, undef, undef, undef, undef, undef, undef, undef, undef, undef, undef, undef, undef, undef, undef, undef, undef, undef, undef, undef, undef, undef, undef, undef, undef, undef, undef], defers := [] })
    (fun x a' s A B row hs hg hr => by
      obtain ⟨B', h2, h4, h3⟩ := hs
      exact ⟨B', h2.kept hg (fun r e => (hr r e).2), h4.kept hg (fun r e => (hr r e).2), h3⟩)
    ?assign ?body ?done ?stop
  case assign =>
    rintro l pre ⟨⟨p, hd⟩, hxm⟩ W K hi hK
    dsimp only at hK ⊢
    have hb : Below W.heap.size W (W.alloc (Obj.cells #[Value.int IntKind.i64 (hdK hd : Nat), Value.int IntKind.i64 (hdN hd : Nat), Value.int IntKind.u64 (hdW hd : Nat)] 216)) := (Below.refl _ W).alloc (Nat.le_refl _) _
    have hwW : w.heap.size < W.heap.size := by obtain ⟨v, h1, _⟩ := hi; exact h1.lt
    have hK2 := hK _ (W.alloc (Obj.cells #[Value.int IntKind.i64 (hdK hd : Nat), Value.int IntKind.i64 (hdN hd : Nat), Value.int IntKind.u64 (hdW hd : Nat)] 216)) ((keepsOthers_below hb).from _) (KE.below hb (fun k hk => outE_below hwW hb k hk)) (hi.below hb) ⟨W.heap.size, hdBox_new _ _ _, live_off hi, rfl⟩
    have hK2H := Lib.hid hK2
    clear hK hK2 hb hi
    rw [hdV_eq] at hK2H ⊢
    gi_wp2
    exact hK2H.out
  case body =>
    rintro l pre ⟨⟨p, hd⟩, hxm⟩ a' W hl ⟨r, hr⟩ hi ⟨B, hbx, hoff, rfl⟩ hlen
    dsimp only at hbx ⊢
    have hok := Hl.out.ok _ hxm
    have hxp : p ∈ runs L := mem_runs.2 ⟨(p, hd), hxm, Nat.le_refl _, by have := hd.len_pos; simp only; omega⟩
    have hplow := HH.out.sl.low _ hxp
    have hk := hbx.k
    have hn := hbx.n
    have hw := hbx.w
    have hnext : Hid (blocks ((pre ++ [(⟨(p, hd), hxm⟩ : {z : Nat × Hd // z ∈ L})]).map (fun (z : {z : Nat × Hd // z ∈ L}) => z.1)) = blocks (pre.map (fun (z : {z : Nat × Hd // z ∈ L}) => z.1)) ++ blocksOf (p, hd)) := Lib.hid (by
      rw [List.map_append, blocks, blocks, List.flatMap_append]; simp)
    have hpl : (blocks (pre.map (fun (z : {z : Nat × Hd // z ∈ L}) => z.1))).length ≤ 31 * 4096 := by
      have := blocks_len (pre.map (fun (z : {z : Nat × Hd // z ∈ L}) => z.1))
      rw [List.length_map] at this
      omega
    generalize blocks (pre.map (fun (z : {z : Nat × Hd // z ∈ L}) => z.1)) = told at *
    clear hxp
    cases hd with
    | large ww =>
      simp only [hdK, hdN, hdW] at hk hn hw ⊢
      have d0 : ((2 : Int) == 2) = true := by decide
      obtain ⟨v, hv, hrow, hb⟩ := hi
      have hc := hv.cell
      have hbH := Lib.hid hb
      have hrowH := Lib.hid hrow
      have hvH := Lib.hid hv
      clear hok hb hrow hv
      have hz : w.heap.size ≤ W.heap.size := hbH.out.size
      gi_wp2_with (gi_at_builtin; refine wpListIn_append_own_at _ rfl _ _ 65 rfl w.heap.size 3 i0 (.int .i64 0) 1 8 Tryz.under_ints hi hz0 hz1 hz2 rfl (by decide) _ _ _ rfl (hrowH.out.alloc _) ⟨W.heap.size, 0, none⟩ 1 1 [.int .i64 ((p : Int) * 64 + 2)] rfl rfl (cell_one_new _ _ _) (by simp [Value.oneCell']) (by unfold maxLen; omega) (by omega) (by simp; omega) ?_; intro v' w1 hown' hgrow _ hblk; rw [rows_large told p ww] at hown'; obtain ⟨g', cap', rfl⟩ := ownsRow_succ hown'; obtain ⟨b1, b2, b3, b4, b5⟩ := live_append (l' := told ++ [(64 * p + 2, ww)]) hvH.out hrowH.out hbH.out (by simpa using hown') hgrow hblk; have hc1 := b1.cell; have hf1 := b1.frozen)
      exact ⟨b4.from _, b3, by show LiveI w _ _; rw [hnext.out]; exact b2⟩
    | small cc m =>
      obtain ⟨hc8, hm0, hmS⟩ := hok
      have hm64 : Hid (m < 18446744073709551616) := Lib.hid (Nat.lt_trans hmS (pow_lt64 (by have := slots_small cc; omega)))
      have hs31 := slots_small cc
      have hsl : slotsR ((cc : Nat) : Int) = .tuple #[.int .i64 (slotsN cc : Nat), .int .i64 0] := if_pos ⟨by omega, by omega⟩
      have hS := Lib.hid (fun w => CallsIn.inRound l ((callsIn_wide (n := 6)).2 (slots_any (cc : Nat) w)))
      simp only [hdK, hdN, hdW] at hk hn hw ⊢
      have d0 : ((1 : Int) == 2) = false := by decide
      have hBW : B < W.heap.size := cell_lt hk
      have hiH := Lib.hid hi
      clear hm0 hmS hi
      gi_wp2_with fail
      refine (hS.out _).mono ?_
      rintro e W' ⟨rfl, hbS⟩
      rw [hsl]
      have hbx4 : HdBox W' B (.small cc m) := ⟨(hbS.cell (p := ⟨B, 0, none⟩) hBW).trans hk, (hbS.cell (p := ⟨B, 1, none⟩) hBW).trans hn, (hbS.cell (p := ⟨B, 2, none⟩) hBW).trans hw⟩
      have hwW : w.heap.size < W.heap.size := by obtain ⟨v, h1, _⟩ := hiH.out; exact h1.lt
      have hi4 := Lib.hid (hiH.out.below hbS)
      have hk4 := Lib.hid ((keepsOthers_below hbS).from w2.heap.size)
      have hke4 := Lib.hid (KE.below hbS (fun k hk => outE_below hwW hbS k hk))
      have hz4 := hbS.size
      have hoff4 := Lib.hid (hoff.below hbS)
      clear hbS hk hn hw d0
      gi_wp2_with fail
      generalize hsn : slotsN cc = sn at *
      have hsnH := Lib.hid hsn
      clear hsn
      gi_loopw [31] (fun kv wr => ∃ k : Nat, k ≤ sn ∧ kv = .int .i64 k ∧ Hid (HdBox wr B (.small cc m)) ∧ Hid (BoxOff wr w.heap.size B) ∧ Hid (LiveI w (told ++ slotBlocks p cc m k) wr) ∧ Hid (KE (OutE w.heap.size) W' wr) ∧ Hid (KeepsOthers W' wr)) (fun kv _ => sn - (intOf kv).toNat)
      case atStart => exact ⟨0, by omega, rfl, Lib.hid hbx4, hoff4, by simpa [slotBlocks] using hi4, Lib.hid (KE.below (Below.refl _ _) (fun _ h => h)), Lib.hid (KeepsOthers.refl _)⟩
      case round =>
        obtain ⟨k, hkk, rfl, hbr, hor, hir, hker, hkr⟩ := hrel
        have hbk := hbr.out.k
        have hbn := hbr.out.n
        have hbm := hbr.out.w
        simp only [hdK, hdN, hdW] at hbk hbn hbm
        have hHas := Lib.hid (fun w => CallsIn.inRound l ((callsIn_wide (n := 6)).2 (has_at m k hm64.out (by omega) w)))
        by_cases hlt : k < sn
        · have hss := Lib.hid (slotBlocks_succ p cc m k)
          by_cases hmk : m.testBit k = true
          · have hPl := Lib.hid (fun w => CallsIn.inRound l ((callsIn_wide (n := 6)).2 (hplace_at p cc k hplow hc8 (by rw [hsnH.out]; omega) w)))
            have hmkH := Lib.hid hmk
            have d5 := hmk
            have hmo : Tryz.prog.follows .mixedOrders = true := by kernel_rfl
            obtain ⟨v, hv, hrow, hb⟩ := hir.out
            have hc := hv.cell
            have hlen5 : (told ++ slotBlocks p cc m k).length ≤ 31 * 4096 + 31 := by
              rw [List.length_append]; have := slotBlocks_len p cc m k; have := hsnH.out; omega
            have hvH := Lib.hid hv
            have hrowH := Lib.hid hrow
            have hbH := Lib.hid hb
            clear hv hrow hb hmk
            have hz5 : w.heap.size ≤ wr.heap.size := hbH.out.size
            generalize hA : 64 * p + 2 + k * sz cc = A at *
            have hAH := Lib.hid hA
            clear hA
            have hnx := Lib.hid (show told ++ slotBlocks p cc m (k + 1) = (told ++ slotBlocks p cc m k) ++ [(A, sz cc)] by rw [hss.out, if_pos hmkH.out, List.append_assoc])
            generalize hls : told ++ slotBlocks p cc m k = ls at *
            have hlsH := Lib.hid hls
            clear hls
            gi_wp2_with (gi_at_call 128; refine (hHas.out _).mono ?_; rintro e W5 ⟨rfl, rfl⟩)
            have hcX : ∀ X : Bel wr, X.W.cell? ⟨w.heap.size, 0, none⟩ = some v := fun X => X.cell hc
            have hbnX : ∀ X : Bel wr, X.W.cell? ⟨B, 1, none⟩ = some (.int .i64 (cc : Nat)) := fun X => X.cell hbn
            refine wpIn_region_float (fun w' => ∃ X : Bel wr, w' = X.W) 5 2 7 hmo (by kernel_rfl) (by kernel_rfl) (by kernel_rfl) (by kernel_rfl) (by decide) rfl (by kernel_rfl) ⟨⟨_, below_drawn wr⟩, rfl⟩ (fun _ _ _ _ h => h) ?_
            simp only [List.take_succ_cons, List.take_zero, List.drop_succ_cons, List.drop_zero]
            refine wpPureC_step v rfl (by rintro _ ⟨X, rfl⟩; have := hcX X; go_simp) (fun _ => rfl) ?_
            go_simp
            refine wpPureC_step (.int .i64 (p : Nat)) rfl (by rintro _ ⟨X, rfl⟩; go_simp) (fun _ => rfl) ?_
            go_simp
            refine wpPureC_step (.pointer (some ⟨B, 1, none⟩)) rfl (by rintro _ ⟨X, rfl⟩; go_simp) (fun _ => rfl) ?_
            go_simp
            refine wpPureC_step (.int .i64 (cc : Nat)) rfl (by rintro _ ⟨X, rfl⟩; have := hbnX X; go_simp) (fun _ => rfl) ?_
            go_simp
            refine wpPureC_step (.int .i64 (k : Nat)) rfl (by rintro _ ⟨X, rfl⟩; go_simp) (fun _ => rfl) ?_
            go_simp
            refine wpPureC_nil ?_
            refine wpChainC_step (fun K5 hK5 => ?_)
            gi_wp2_with (gi_at_call 129; refine (hPl.out _).mono ?_; rintro e W5 ⟨rfl, hb5⟩)
            have hb5' : Below wr.heap.size wr W5 := (below_drawn wr).trans hb5
            have hc5 : W5.cell? ⟨w.heap.size, 0, none⟩ = some v := (hb5'.cell (p := ⟨w.heap.size, 0, none⟩) (cell_lt hc)).trans hc
            obtain ⟨v5, hv5, hrow5, hbw5⟩ := hir.out.below hb5'
            obtain rfl : v5 = v := by have h1 := hv5.cell; rw [hc5] at h1; simpa using h1.symm
            have hf5 := hv5.frozen
            have hv5H := Lib.hid hv5
            have hrow5H := Lib.hid hrow5
            have hbw5H := Lib.hid hbw5
            have hbH5 := Lib.hid hb5'
            have hz6 : wr.heap.size ≤ W5.heap.size := hb5'.size
            have hoff5 := hor.out.below hb5'
            have hoff5H := Lib.hid hoff5
            have hc0 := Lib.hid hc
            clear hv5 hrow5 hbw5 hb5 hb5' hc hbn hbk hbm hcX hbnX hoff5
            have hwr : w.heap.size < wr.heap.size := cell_lt hc0.out
            have hBr : B < wr.heap.size := cell_lt hbr.out.k
            refine hK5 _ _ ⟨⟨W5, hbH5.out⟩, rfl⟩ ?_
            clear hK5 K5
            refine wpChainC_step (fun K6 hK6 => ?_)
            gi_wp2
            refine hK6 _ _ ⟨⟨_, hbH5.out.alloc hz6 _⟩, rfl⟩ ?_
            clear hK6 K6
            refine wpChainC_zero ?_
            have hz7 : w.heap.size ≤ W5.heap.size := by omega
            gi_wp2_with (gi_at_builtin; refine wpListIn_append_own_at _ rfl _ _ 65 rfl w.heap.size 3 i0 (.int .i64 0) 1 8 Tryz.under_ints hi hz0 hz1 hz2 rfl (by decide) _ _ _ rfl (hrow5H.out.alloc _) ⟨W5.heap.size, 0, none⟩ 1 1 [.int .i64 (A : Int)] rfl rfl (cell_one_new _ _ _) (by simp [Value.oneCell']) (by unfold maxLen; omega) (by omega) (by simp; omega) ?_; intro v' w1 hown' hgrow _ hblk; rw [rows_small _ A (sz cc)] at hown'; obtain ⟨g', cap', rfl⟩ := ownsRow_succ hown'; obtain ⟨b1, b2, b3, b4, b5⟩ := live_append (l' := ls ++ [(A, sz cc)]) hv5H.out hrow5H.out hbw5H.out (by simpa using hown') hgrow hblk; have hc1 := b1.cell; have hf1 := b1.frozen)
            have hkeH := Lib.hid (KE.below hbH5.out (fun k hk => outE_below hwr hbH5.out k hk))
            go_roundw
            case rel =>
              refine ⟨k + 1, by omega, by go_num, Lib.hid ((hbr.out.below hbH5.out).ke b3 hoff5H.out), Lib.hid (b5 B (by omega) hoff5H.out), ?_, Lib.hid (hker.out.trans (hkeH.out.trans b3)), Lib.hid (hkr.out.trans ((keepsOthers_below hbH5.out).trans b4))⟩
              rw [hnx.out]; exact Lib.hid b2
            case measure => simp [intOf]; omega
          · have hmf : m.testBit k = false := by simpa using hmk
            have hmkH := Lib.hid hmk
            clear hmk
            gi_wp2_with (gi_at_call 128; refine (hHas.out _).mono ?_; rintro e W5 ⟨rfl, rfl⟩)
            go_roundw
            case rel => exact ⟨k + 1, by omega, by go_num, hbr, hor, by rw [hss.out, if_neg hmkH.out]; exact hir, hker, hkr⟩
            case measure => simp [intOf]; omega
        · obtain rfl : k = sn := by omega
          gi_wp2
          exact ⟨hk4.out.trans (hkr.out.from _), hke4.out.trans hker.out, by show LiveI w _ _; rw [hnext.out, ← slotBlocks_all, hsnH.out]; exact hir.out⟩
  case done =>
    rintro D' xs W hD hxs hi hK
    rw [hxs] at hi
    obtain ⟨v, hv, hrow, hb⟩ := hi
    have hc := hv.cell
    have hbH := Lib.hid hb
    have hrowH := Lib.hid hrow
    clear hb hrow hv hxs
    gi_wp2
    refine ⟨by simp, .inl ⟨_, _, rfl, run_takeDeferred hK, ?_⟩⟩
    refine ⟨v, by simp [results, Tryz.f76], v, rfl, ownsRow_kb (Cs := fun _ => False) hrowH.out (KB.putObj _ hK rfl rfl) (fun _ h => h.elim), ?_⟩
    exact hbH.out.trans (belowK_b (w := w) (Nat.le_refl _) _ D' _ _ (by omega) hK rfl rfl)
  case stop =>
    rintro D' cd pre W hD hSp hf
    exact hf.elim
end Go.Proofs.YtijpmjaeanocpaaGreatDoor
