/-
  The seat's own texts, part xb: Float, Steps, RgT.
-/
import Derived.Test.YtjcpclcmnhpgpaaGreatDoorFMb
import Derived.OwnWalkIn
import Derived.Below

set_option linter.unusedVariables false
set_option linter.unusedSimpArgs false
namespace Go.Proofs.YtjcpclcmnhpgpaaGreatDoor
open Go Go.RowKit
section
variable {F : Fence} {n : Nat} {P : Program} {ops : Array Oper} {md : Region.Mode} {Q : Exit → Act → World → Prop} {C : World → Prop}
def YieldsC (P : Program) (ops : Array Oper) (C : World → Prop) (o : Oper) (v : Value) (a : Act) : Prop :=
  Region.wanted o (yielded ops a.tmps) = true ∧ (∀ w, C w → (execOp a.eval o).run P w = .ok (.value v) w) ∧ ∀ w, o.about P w a.eval = none
theorem YieldsC.of_same {o : Oper} {v : Value} {a a' : Act} (hy : YieldsC P ops C o v a) (he : execOp a'.eval o = execOp a.eval o)
    (hw : Region.wanted o (yielded ops a'.tmps) = Region.wanted o (yielded ops a.tmps)) (hb : ∀ w, o.about P w a'.eval = o.about P w a.eval) : YieldsC P ops C o v a' :=
  ⟨hw.trans hy.1, fun w hc => by rw [he]; exact hy.2.1 w hc, fun w => by rw [hb w]; exact hy.2.2 w⟩
theorem YieldsC.op {i : Nat} {o : Oper} {v : Value} {a : Act} (hnd : noDefer ops = true) (hi : ops[i]? = some o) (hy : YieldsC P ops C o v a) {K : Act → World → Prop} {w : World} (hc : C w) (h : K (a.put o.dst v) w) : wpOpIn F n P ops Q i K a w := by
  unfold wpOpIn
  simp only [hi]
  rw [if_pos hy.1]
  refine ⟨(fun f hf => by rw [hy.2.2 w] at hf; cases hf), ?_⟩
  rw [Oper.semAt_plain F _ _ (noDefer_spec hnd hi), hy.2.1 w hc]
  exact h
theorem wpOpIn_putC {j : Nat} {oi oj : Oper} {v : Value} (hnd : noDefer ops = true) (hj : ops[j]? = some oj) (hap : oi.apart ops oj = true)
    (hsi : ∀ cs b, oi.op ≠ .select cs b) (hsj : ∀ cs b, oj.op ≠ .select cs b) (hQ : ∀ c a w, Q (.panic c) (a.put oi.dst v) w → Q (.panic c) a w)
    {K : Act → World → Prop} {a : Act} {w : World} (hy : YieldsC P ops C oi v a) (h : wpOpIn F n P ops Q j K (a.put oi.dst v) w) :
    wpOpIn F n P ops Q j (fun a' w' => YieldsC P ops C oi v a' ∧ K (a'.put oi.dst v) w') a w := by
  obtain ⟨h1, h2, h3⟩ := Oper.apart_spec hap
  have keep : ∀ (a : Act), YieldsC P ops C oi v a → ∀ u, YieldsC P ops C oi v (a.put oj.dst u) := fun a hy u =>
    hy.of_same (execOp_put oi hsi a oj.dst u h3) (wanted_put oi a oj.dst u h3) (fun w => about_put oi w a oj.dst u h3)
  have keepD : ∀ d, YieldsC P ops C oi v { a with defers := d :: a.defers } := fun d => hy.of_same rfl rfl (fun _ => rfl)
  have hpl : ∀ ρ, oj.semAt F.round ρ = execOp ρ oj := fun ρ => Oper.semAt_plain F _ _ (noDefer_spec hnd hj)
  unfold wpOpIn at *
  simp only [hj] at *
  rw [wanted_put oj a oi.dst v h1, about_put oj w a oi.dst v h1] at h
  split
  · rename_i hw
    simp only [hw, if_true] at h
    unfold Oper.wpIn at *
    rw [about_put oj w a oi.dst v h1] at h
    refine ⟨h.1, ?_⟩
    have h := h.2
    rw [hpl, execOp_put oj hsj a oi.dst v h1] at h
    rw [hpl]
    generalize (execOp a.eval oj).run P w = r at *
    cases r with
    | ok x w' =>
      cases x <;> simp only [Oper.uponIn] at h ⊢
      case value u => exact ⟨keep a hy u, by rw [← Act.put_comm a v u h2]; exact h⟩
      case skip => exact ⟨keep a hy _, by rw [← Act.put_comm a v undef h2]; exact h⟩
      case defer d =>
        refine ⟨keep _ (keepD d) _, ?_⟩
        rw [← Act.put_comm _ v undef h2, ← Act.put_defers]
        exact h
      case enter f args =>
        refine ⟨h.1, CallsIn.mono h.2 fun e w'' he => ?_⟩
        cases e with
        | returned u => exact ⟨keep a hy u, by rw [← Act.put_comm a v u h2]; exact he⟩
        | panicked c => exact hQ _ _ _ he
        | outgrown => exact he
      case row row args => exact ⟨h.1, RowsIn.mono h.2 fun u w'' he => ⟨keep a hy u, by rw [← Act.put_comm a v u h2]; exact he⟩⟩
      case round l f tmps assign body =>
        refine ⟨h.1, RoundIn.mono h.2 fun e w'' he => ?_⟩
        cases e with
        | returned u => exact ⟨keep a hy u, by rw [← Act.put_comm a v u h2]; exact he⟩
        | panicked c => exact hQ _ _ _ he
        | outgrown => exact he
    | halt x w' =>
      cases x <;> simp only [Oper.uponIn] at h ⊢
      case panic u => exact hQ _ _ _ h
  · rename_i hw
    simp only [hw] at h
    exact ⟨h.1, keep a hy _, by rw [← Act.put_comm a v undef h2]; exact h.2⟩
def wpAnyC (F : Fence) (n : Nat) (P : Program) (md : Region.Mode) (ops : Array Oper) (Q : Exit → Act → World → Prop) (C : World → Prop) (m : Nat) : Nat → Array Bool → Act → World → Prop
  | 0, listed, a, w => Region.ready md ops listed = [] ∧ Q .normal a w
  | f + 1, listed, a, w =>
    (Region.ready md ops listed = [] → Q .normal a w) ∧
    ∀ i ∈ Region.ready md ops listed, wpOpIn F n P ops Q i (fun a' w' => (i < m → C w') ∧ wpAnyC F n P md ops Q C m f (listed.setIfInBounds i true) a' w') a w
variable {m : Nat}
theorem wpAnyC.any : ∀ (f : Nat) (listed : Array Bool) (a : Act) (w : World), wpAnyC F n P md ops Q C m f listed a w → wpAnyIn F n P md ops Q f listed a w
  | 0, _, _, _, h => h
  | f + 1, listed, a, w, h => ⟨h.1, fun i hi => wpOpIn_mono (fun a' w' h' => wpAnyC.any f _ a' w' h'.2) (h.2 i hi)⟩
theorem wpAnyC_first {i : Nat} {oi : Oper} {v : Value} (hnd : noDefer ops = true) (hi : ops[i]? = some oi) (hsel : ∀ (j : Nat) (o : Oper) cs b, ops[j]? = some o → o.op ≠ .select cs b)
    (hs : Region.sinkB md ops m = true) (hc : Region.chainB md ops m = true) (hm : m < ops.size) (him : i < m) (hQ : ∀ c a w, Q (.panic c) (a.put oi.dst v) w → Q (.panic c) a w) :
    ∀ (f : Nat) (listed : Array Bool) (a : Act) (w : World), HeadInv md ops m listed →
      (∀ j oj, ops[j]? = some oj → j ≠ i → listed.getD j true = false → (∀ e ∈ oj.after, Region.binds md e = true → e.on ≠ i) → oi.apart ops oj = true) →
      i ∈ Region.ready md ops listed → YieldsC P ops C oi v a → C w →
      wpAnyC F n P md ops Q C m f (listed.setIfInBounds i true) (a.put oi.dst v) w → wpAnyC F n P md ops Q C m (f + 1) listed a w := by
  intro f
  induction f with
  | zero =>
    intro listed a w inv _ hr hy hC H
    refine ⟨fun h => (by rw [h] at hr; cases hr), fun j hj => ?_⟩
    by_cases hji : j = i
    · subst hji; exact hy.op hnd hi hC ⟨fun _ => hC, H⟩
    · have := ready_mono hj hji
      rw [H.1] at this
      cases this
  | succ f ih =>
    intro listed a w inv hfree hr hy hC H
    have hun := (mem_ready.1 hr).1
    refine ⟨fun h => (by rw [h] at hr; cases hr), fun j hj => ?_⟩
    have hjm : j < m := by
      rcases Nat.lt_or_ge j m with h | h
      · exact h
      · exact absurd hj (tail_waits hs hc hm inv _ i rfl him hun j h)
    by_cases hji : j = i
    · subst hji; exact hy.op hnd hi hC ⟨fun _ => hC, H⟩
    · have h1 := H.2 j (ready_mono hj hji)
      obtain ⟨hjun, oj, hoj, hall⟩ := mem_ready.1 hj
      have hnot : ∀ e ∈ oj.after, Region.binds md e = true → e.on ≠ i := fun e he hb heq => by
        have h1 := hall e he hb
        rw [heq, getD_both hun] at h1
        cases h1
      have h2 := wpOpIn_putC hnd hoj (hfree j oj hoj hji hjun hnot) (fun cs b => hsel i oi cs b hi) (fun cs b => hsel j oj cs b hoj) hQ hy h1
      have hfree' : ∀ k ok, ops[k]? = some ok → k ≠ i → (listed.setIfInBounds j true).getD k true = false →
          (∀ e ∈ ok.after, Region.binds md e = true → e.on ≠ i) → oi.apart ops ok = true := fun k ok hk hki hun' hno => by
        refine hfree k ok hk hki ?_ hno
        by_cases hjk : j = k
        · subst hjk; exact hjun
        · rw [getD_set_ne true hjk] at hun'; exact hun'
      refine wpOpIn_mono (fun a' w' h3 => ?_) h2
      have hC' := h3.2.1 hjm
      refine ⟨fun _ => hC', ih (listed.setIfInBounds j true) a' w' (inv.set hj hjm) hfree' (ready_mono hr (Ne.symm hji)) h3.1 hC' ?_⟩
      rw [Array.setIfInBounds_comm _ _ hji]
      exact h3.2.2
def Qn (K : Act → World → Prop) (Q : Exit → Act → World → Prop) : Exit → Act → World → Prop
  | .normal, a, w => K a w
  | e, a, w => Q e a w
theorem wpIn_post {o : Oper} {a : Act} {w : World} {K : Act → World → Prop} {Q' : Exit → Act → World → Prop} (hQ : ∀ c a w, Q' (.panic c) a w → Q (.panic c) a w) (hO : LetsOut Q' → LetsOut Q) (hh : o.wpIn F n P a w K Q') : o.wpIn F n P a w K Q := by
  unfold Oper.wpIn at *
  refine ⟨hh.1, ?_⟩
  have hh := hh.2
  generalize (o.semAt F.round a.eval).run P w = r at *
  cases r with
  | ok x w' =>
    cases x <;> simp only [Oper.uponIn] at hh ⊢ <;>
      first
        | exact hh
        | exact ⟨hh.1, CallsIn.mono hh.2 (fun e w'' he => by cases e <;> first | exact he | exact hQ _ _ _ he | exact hO he)⟩
        | exact ⟨hh.1, RoundIn.mono hh.2 (fun e w'' he => by cases e <;> first | exact he | exact hQ _ _ _ he | exact hO he)⟩
  | halt x w' => cases x <;> simp only [Oper.uponIn] at hh ⊢ <;> first | exact hQ _ _ _ hh | exact hh
theorem wpOpIn_list {i : Nat} {o : Oper} {K : Act → World → Prop} {a : Act} {w : World} (hi : ops[i]? = some o) (h : wpListIn F n P ops (Qn K Q) [o] a w) : wpOpIn F n P ops Q i K a w := by
  unfold wpOpIn
  simp only [hi]
  unfold wpListIn at h
  split
  · rename_i hw
    rw [if_pos hw] at h
    exact wpIn_post (fun _ _ _ h => h) (fun h => h) h
  · rename_i hw
    rw [if_neg hw] at h
    exact h
def wpPureC (P : Program) (ops : Array Oper) (C : World → Prop) (L : Act → Prop) : List Oper → Act → Prop
  | [], a => L a
  | o :: l, a => ∃ v, YieldsC P ops C o v a ∧ wpPureC P ops C L l (a.put o.dst v)
def wpChainC (F : Fence) (n : Nat) (P : Program) (ops : Array Oper) (Q : Exit → Act → World → Prop) (C : World → Prop) : Nat → List Oper → Act → World → Prop
  | 0, l, a, w => wpListIn F n P ops Q l a w
  | _ + 1, [], a, w => Q .normal a w
  | c + 1, o :: l, a, w => wpListIn F n P ops (Qn (fun a' w' => C w' ∧ wpChainC F n P ops Q C c l a' w') Q) [o] a w
theorem wpChainC_step {c : Nat} {o : Oper} {l : List Oper} {a : Act} {w : World} (h : ∀ K : Act → World → Prop, (∀ a' w', C w' → wpChainC F n P ops Q C c l a' w' → K a' w') → wpListIn F n P ops (Qn K Q) [o] a w) : wpChainC F n P ops Q C (c + 1) (o :: l) a w :=
  h _ (fun _ _ h1 h2 => ⟨h1, h2⟩)
theorem wpPureC_step {L : Act → Prop} {o : Oper} {l : List Oper} {a : Act} (v : Value) (h1 : Region.wanted o (yielded ops a.tmps) = true) (h2 : ∀ w, C w → (execOp a.eval o).run P w = .ok (.value v) w) (h3 : ∀ w, o.about P w a.eval = none) (h : wpPureC P ops C L l (a.put o.dst v)) : wpPureC P ops C L (o :: l) a :=
  ⟨v, ⟨h1, h2, h3⟩, h⟩
theorem wpChainC_zero {l : List Oper} {a : Act} {w : World} (h : wpListIn F n P ops Q l a w) : wpChainC F n P ops Q C 0 l a w := h
theorem wpPureC_nil {L : Act → Prop} {a : Act} (h : L a) : wpPureC P ops C L [] a := h
theorem wpAnyC_of_chain : ∀ (l : List Oper) (c k : Nat) (listed : Array Bool) (a : Act) (w : World), (∀ j, l[j]? = ops[k + j]?) → m ≤ k + c →
    Region.seqB md ops l.length k listed = true → wpChainC F n P ops Q C c l a w → wpAnyC F n P md ops Q C m l.length listed a w
  | [], c, k, listed, a, w, _, _, hB, h => ⟨by simpa [Region.seqB] using hB, by cases c <;> exact h⟩
  | o :: l, c, k, listed, a, w, hl, hm, hB, h => by
    have h0 : ops[k]? = some o := by simpa using (hl 0).symm
    simp only [List.length_cons, Region.seqB, Bool.and_eq_true, decide_eq_true_eq] at hB
    refine ⟨fun h1 => (by rw [hB.1] at h1; cases h1), fun i hi => ?_⟩
    rw [hB.1] at hi
    have hik : i = k := by simpa using hi
    subst hik
    have hl' : ∀ j, l[j]? = ops[i + 1 + j]? := fun j => by have := hl (j + 1); simpa [Nat.add_assoc, Nat.add_comm 1 j] using this
    cases c with
    | zero =>
      have hw : wpOpIn F n P ops Q i (wpListIn F n P ops Q l) a w := by unfold wpOpIn; simp only [h0]; exact h
      exact wpOpIn_mono (fun a' w' h' => ⟨fun him => by omega, wpAnyC_of_chain l 0 (i + 1) _ a' w' hl' (by omega) hB.2 h'⟩) hw
    | succ c =>
      exact wpOpIn_mono (fun a' w' h' => ⟨fun _ => h'.1, wpAnyC_of_chain l c (i + 1) _ a' w' hl' (by omega) hB.2 h'.2⟩) (wpOpIn_list h0 h)
theorem wpAnyC_lex {g : Nat} {w : World} (hnd : noDefer ops = true) (hsel : Region.noSelect ops = true) (hs : Region.sinkB md ops m = true) (hc : Region.chainB md ops m = true) (hm : m < ops.size) (hC : C w) {L : Array Bool → Act → Prop}
    (hL : ∀ listed a, L listed a → wpAnyC F n P md ops Q C m g listed a w) {Lq : Act → Prop} {k1 : Nat} (hQ : ∀ c a a' w, Q (.panic c) a w → Q (.panic c) a' w) (hLq : ∀ listed a, Region.seqB md ops g k1 listed = true → Lq a → L listed a) :
    ∀ (l : List Oper) (k : Nat) (listed : Array Bool) (a : Act), (∀ j, j < l.length → l[j]? = ops[k + j]?) → k + l.length = k1 → k1 ≤ m → HeadInv md ops m listed →
    Region.lexHead md ops g l.length k listed = true → wpPureC P ops C Lq l a → wpAnyC F n P md ops Q C m (l.length + g) listed a w
  | [], k, listed, a, _, hk, _, _, hB, h => by
    have : k = k1 := by simpa using hk
    subst this
    rw [List.length_nil, Nat.zero_add]
    exact hL _ _ (hLq _ _ (by simpa [Region.lexHead] using hB) h)
  | o :: l, k, listed, a, hl, hk, hkm, inv, hB, h => by
    have h0 : ops[k]? = some o := by simpa using (hl 0 (by simp)).symm
    simp only [List.length_cons, Region.lexHead, Bool.and_eq_true] at hB
    obtain ⟨⟨hr, hf⟩, hB'⟩ := hB
    have hkn : k < m := by simp only [List.length_cons] at hk; omega
    have hr' : k ∈ Region.ready md ops listed := by simpa using hr
    obtain ⟨v, hy, hK⟩ := h
    rw [List.length_cons, show l.length + 1 + g = (l.length + g) + 1 by omega]
    exact wpAnyC_first hnd h0 (Region.noSelect_spec hsel) hs hc hm hkn (fun c a w h => hQ c _ _ w h) (l.length + g) listed a w inv (Region.free_spec h0 hf) hr' hy hC
      (wpAnyC_lex hnd hsel hs hc hm hC hL hQ hLq l (k + 1) _ _ (fun j hj => by have := hl (j + 1) (by simp; omega); simpa [Nat.add_assoc, Nat.add_comm 1 j] using this) (by simp only [List.length_cons] at hk; omega) hkm (inv.set hr' hkn) hB' hK)
theorem wpIn_region_float {id : Nat} {Q : Exit → Act → World → Prop} {a : Act} {w : World} {l : List Oper} (C : World → Prop) (k c m : Nat) (hm : P.follows .mixedOrders = true) (hnd : noDefer l.toArray = true) (hsel : Region.noSelect l.toArray = true)
    (hs : Region.sinkB .any l.toArray m = true) (hc : Region.chainB .any l.toArray m = true) (hml : m < l.length) (hkm : k + c = m) (hlex : Region.lexHead .any l.toArray (l.length - k) k 0 (Array.replicate l.toArray.size false) = true)
    (hC : C w.drew) (hQ : ∀ c a a' w, Q (.panic c) a w → Q (.panic c) a' w) (h : wpPureC P l.toArray C (fun a' => wpChainC F n P l.toArray Q C c (l.drop k) a' w.drew) (l.take k) a) : (Code.region id l.toArray true).wpIn F n P Q a w := by
  have inv0 : HeadInv .any l.toArray m (Array.replicate l.toArray.size false) :=
    ⟨by simp, fun j oj _ hl => (by rw [getD_replicate_false] at hl; cases hl), fun t _ ht => getD_in (by simpa using ht) (getD_replicate_false _ _)⟩
  have htl : (l.take k).length = k := by simp; omega
  refine wpIn_region_any hm (wpAnyC.any (C := C) (m := m) _ _ _ _ ?_)
  have key := wpAnyC_lex (F := F) (n := n) (P := P) (md := .any) (ops := l.toArray) (Q := Q) (C := C) (m := m) (g := l.length - k) (w := w.drew) hnd hsel hs hc (by simpa using hml) hC
    (L := fun listed a => Region.seqB .any l.toArray (l.length - k) k listed = true ∧ wpChainC F n P l.toArray Q C c (l.drop k) a w.drew)
    (fun listed a hL => by
      have hdl : (l.drop k).length = l.length - k := by simp
      have := wpAnyC_of_chain (F := F) (n := n) (P := P) (md := .any) (ops := l.toArray) (Q := Q) (C := C) (m := m) (l.drop k) c k listed a w.drew (fun j => by simp [List.getElem?_drop]) (by omega) (by rw [hdl]; exact hL.1) hL.2
      rwa [hdl] at this)
    (Lq := fun a' => wpChainC F n P l.toArray Q C c (l.drop k) a' w.drew) (k1 := k) hQ (fun listed a h1 h2 => ⟨h1, h2⟩) (l.take k) 0 (Array.replicate l.toArray.size false) a
    (fun j hj => by rw [htl] at hj; simp [hj]) (by rw [htl]; omega) (by omega) inv0 (by rw [htl]; exact hlex) h
  rw [htl, show k + (l.length - k) = l.toArray.size by simp; omega] at key
  exact key
end
end Go.Proofs.YtjcpclcmnhpgpaaGreatDoor

set_option linter.unusedVariables false
set_option linter.unusedSimpArgs false
namespace Go.Proofs.YtjcpclcmnhpgpaaGreatDoor
open Go Go.RowKit
inductive St where
  | r (i : Nat)
  | a (k : Nat)
def St.n : St → Nat
  | .r i => i
  | .a k => k
section
variable {P : Program} {ops : Array Oper} {md : Region.Mode} {Q : Exit → Act → World → Prop} {C : World → Prop}
def stepsB (md : Region.Mode) (ops : Array Oper) : List St → Array Bool → Bool
  | [], listed => (Region.ready md ops listed).isEmpty
  | .r i :: s, listed => (Region.ready md ops listed).contains i && Region.free md ops listed i && stepsB md ops s (listed.setIfInBounds i true)
  | .a k :: s, listed => decide (Region.ready md ops listed = [k]) && stepsB md ops s (listed.setIfInBounds k true)
def wpSteps (P : Program) (ops : Array Oper) (Q : Exit → Act → World → Prop) : List St → (World → Prop) → Act → World → Prop
  | [], _, a, w => Q .normal a w
  | .r i :: s, C, a, w => ∃ o v, ops[i]? = some o ∧ YieldsW P ops C o v a ∧ wpSteps P ops Q s C (a.put o.dst v) w
  | .a k :: s, C, a, w => ∃ o, ops[k]? = some o ∧ wpList P ops (Qr (fun a' w' => ∃ C' : World → Prop, C' w' ∧ (∀ x, C' x → C x) ∧ wpSteps P ops Q s C' a' w') Q) [o] a w
theorem wpSteps_nil {a : Act} {w : World} (h : Q .normal a w) : wpSteps P ops Q [] C a w := h
theorem wpSteps_r {i : Nat} {s : List St} {a : Act} {w : World} (o : Oper) (v : Value) (hi : ops[i]? = some o) (h1 : Region.wanted o (yielded ops a.tmps) = true) (h2 : ∀ w, C w → (execOp a.eval o).run P w = .ok (.value v) w) (h : wpSteps P ops Q s C (a.put o.dst v) w) : wpSteps P ops Q (.r i :: s) C a w :=
  ⟨o, v, hi, ⟨h1, h2⟩, h⟩
theorem wpSteps_a {k : Nat} {s : List St} {a : Act} {w : World} (o : Oper) (hk : ops[k]? = some o) (h : ∀ K : Act → World → Prop, (∀ a' w', C w' → wpSteps P ops Q s C a' w' → K a' w') → wpList P ops (Qr K Q) [o] a w) : wpSteps P ops Q (.a k :: s) C a w :=
  ⟨o, hk, h _ (fun _ _ h1 h2 => ⟨C, h1, fun _ h => h, h2⟩)⟩
theorem wpAnyW.mono {C' : World → Prop} (hc : ∀ x, C' x → C x) : ∀ (f : Nat) (listed : Array Bool) (a : Act) (w : World), wpAnyW P md ops Q C' f listed a w → wpAnyW P md ops Q C f listed a w
  | 0, _, _, _, h => h
  | f + 1, _, _, _, h => ⟨h.1, fun i hi => wpOp_mono (fun a' w' h' => ⟨hc _ h'.1, wpAnyW.mono hc f _ a' w' h'.2⟩) (h.2 i hi)⟩
theorem wpAnyW_of_steps (hsel : Region.noSelect ops = true) (hQ : ∀ c a d v w, Q (.panic c) (Act.put a d v) w → Q (.panic c) a w) :
    ∀ (s : List St) (C : World → Prop) (listed : Array Bool) (a : Act) (w : World), C w → stepsB md ops s listed = true → wpSteps P ops Q s C a w → wpAnyW P md ops Q C s.length listed a w
  | [], C, listed, a, w, hC, hB, h => ⟨by simpa [stepsB] using hB, h⟩
  | .r i :: s, C, listed, a, w, hC, hB, h => by
    obtain ⟨o, v, h0, hy, hK⟩ := h
    simp only [stepsB, Bool.and_eq_true] at hB
    obtain ⟨⟨hr, hf⟩, hB'⟩ := hB
    exact wpAnyW_first h0 (Region.noSelect_spec hsel) (fun c a w h => hQ c a _ _ w h) s.length listed a w (Region.free_spec h0 hf) (by simpa using hr) hy hC
      (wpAnyW_of_steps hsel hQ s C _ _ w hC hB' hK)
  | .a k :: s, C, listed, a, w, hC, hB, h => by
    obtain ⟨o, h0, h⟩ := h
    simp only [stepsB, Bool.and_eq_true, decide_eq_true_eq] at hB
    refine ⟨fun h1 => (by rw [hB.1] at h1; cases h1), fun i hi => ?_⟩
    rw [hB.1] at hi
    obtain rfl : i = k := by simpa using hi
    exact wpOp_mono (fun a' w' ⟨C', h1, h2, h3⟩ => ⟨h2 _ h1, wpAnyW.mono h2 _ _ _ _ (wpAnyW_of_steps hsel hQ s C' _ a' w' h1 hB.2 h3)⟩) (wpOp_list h0 h)
theorem wp_region_steps {id : Nat} {a : Act} {w : World} {l : List Oper} (C : World → Prop) (s : List St) (hm : P.follows .mixedOrders = true) (hsel : Region.noSelect l.toArray = true) (hlen : s.length = l.length)
    (hB : stepsB .any l.toArray s (Array.replicate l.toArray.size false) = true) (hC : C { w with drawn := w.drawn + 1 }) (hQ : ∀ c a d v w, Q (.panic c) (Act.put a d v) w → Q (.panic c) a w)
    (h : wpSteps P l.toArray Q s C a { w with drawn := w.drawn + 1 }) : (Code.region id l.toArray true).wp P Q a w := by
  refine wp_region_any hm (wpAnyW.any (C := C) _ _ _ _ ?_)
  have := wpAnyW_of_steps (md := .any) hsel hQ s C (Array.replicate l.toArray.size false) a _ hC hB h
  rw [hlen] at this
  simpa using this
end
structure Exw (B : Nat → Prop) (w : World) where
  W : World
  size : w.heap.size ≤ W.heap.size
  same : ∀ k, k < w.heap.size → ¬ B k → W.heap[k]? = w.heap[k]?
theorem Exw.cell {B : Nat → Prop} {w : World} {p : Addr} {v : Value} (hc : w.cell? p = some v) (hB : ¬ B p.block) (X : Exw B w) : X.W.cell? p = some v := by
  have hlt : p.block < w.heap.size := by
    unfold World.cell? at hc
    by_cases hb : p.block < w.heap.size
    · exact hb
    · rw [Array.getElem?_eq_none (by omega)] at hc; simp at hc
  have := X.same p.block hlt hB
  unfold World.cell? at hc ⊢
  rw [this]
  exact hc
theorem exw_start (B : Nat → Prop) (w : World) : ∃ X : Exw B w, { w with drawn := w.drawn + 1 } = X.W := ⟨⟨{ w with drawn := w.drawn + 1 }, Nat.le_refl _, fun _ _ _ => rfl⟩, rfl⟩
theorem exw_below {B : Nat → Prop} {w W : World} (h : Below w.heap.size w W) : ∃ X : Exw B w, W = X.W := ⟨⟨W, h.size, fun k hk _ => h.block k hk⟩, rfl⟩
theorem exw_then {B : Nat → Prop} {w W W' : World} (h : ∃ X : Exw B w, W = X.W) (hb : Below W.heap.size W W') : ∃ X : Exw B w, W' = X.W := by
  obtain ⟨X, rfl⟩ := h
  exact ⟨⟨W', Nat.le_trans X.size hb.size, fun k hk hn => (hb.block k (Nat.lt_of_lt_of_le hk X.size)).trans (X.same k hk hn)⟩, rfl⟩
theorem exw_set {B : Nat → Prop} {w W : World} (h : ∃ X : Exw B w, W = X.W) {p : Addr} (hp : B p.block) (v : Value) : ∃ X : Exw B w, W.setCell p v = X.W := by
  obtain ⟨X, rfl⟩ := h
  refine ⟨⟨X.W.setCell p v, by simpa [World.setCell] using X.size, fun k hk hn => ?_⟩, rfl⟩
  rw [← X.same k hk hn]
  exact Below.heap_setCell _ _ _ _ fun e => hn (by rw [e]; exact hp)

section
variable {F : Fence} {n : Nat} {P : Program} {ops : Array Oper} {md : Region.Mode} {Q : Exit → Act → World → Prop} {C : World → Prop}
def wpAnyK (F : Fence) (n : Nat) (P : Program) (md : Region.Mode) (ops : Array Oper) (Q : Exit → Act → World → Prop) (C : World → Prop) : Nat → Array Bool → Act → World → Prop
  | 0, listed, a, w => Region.ready md ops listed = [] ∧ Q .normal a w
  | f + 1, listed, a, w =>
    (Region.ready md ops listed = [] → Q .normal a w) ∧
    ∀ i ∈ Region.ready md ops listed, wpOpIn F n P ops Q i (fun a' w' => C w' ∧ wpAnyK F n P md ops Q C f (listed.setIfInBounds i true) a' w') a w
theorem wpAnyK.any : ∀ (f : Nat) (listed : Array Bool) (a : Act) (w : World), wpAnyK F n P md ops Q C f listed a w → wpAnyIn F n P md ops Q f listed a w
  | 0, _, _, _, h => h
  | f + 1, listed, a, w, h => ⟨h.1, fun i hi => wpOpIn_mono (fun a' w' h' => wpAnyK.any f _ a' w' h'.2) (h.2 i hi)⟩
theorem wpAnyK.mono {C' : World → Prop} (hc : ∀ x, C' x → C x) : ∀ (f : Nat) (listed : Array Bool) (a : Act) (w : World), wpAnyK F n P md ops Q C' f listed a w → wpAnyK F n P md ops Q C f listed a w
  | 0, _, _, _, h => h
  | f + 1, _, _, _, h => ⟨h.1, fun i hi => wpOpIn_mono (fun a' w' h' => ⟨hc _ h'.1, wpAnyK.mono hc f _ a' w' h'.2⟩) (h.2 i hi)⟩
end
end Go.Proofs.YtjcpclcmnhpgpaaGreatDoor

set_option linter.unusedVariables false
set_option linter.unusedSimpArgs false
namespace Go.Proofs.YtjcpclcmnhpgpaaGreatDoor
open Go Go.RowKit
inductive Tr where
  | nil
  | r (i : Nat) (t : Tr)
  | a (k : Nat) (t : Tr)
  | two (i : Nat) (s : Tr) (j : Nat) (t : Tr)
  | three (i : Nat) (s : Tr) (j : Nat) (t : Tr) (k : Nat) (u : Tr)
section
variable {lt : List Nat} {P : Program} {ops : Array Oper} {md : Region.Mode} {Q : Exit → Act → World → Prop} {C : World → Prop}
def anc (md : Region.Mode) (ops : Array Oper) : Nat → Nat → Nat → Bool
  | 0, _, _ => false
  | f + 1, k, i => match ops[k]? with
    | none => false
    | some o => o.after.any fun e => Region.binds md e && (e.on == i || anc md ops f e.on i)
def Shut (md : Region.Mode) (ops : Array Oper) (listed : Array Bool) : Prop :=
  ∀ m o, ops[m]? = some o → listed.getD m false = true → ∀ e ∈ o.after, Region.binds md e = true → listed.getD e.on false = true
theorem anc_spec {listed : Array Bool} (hS : Shut md ops listed) : ∀ (f k i : Nat), (∀ o, ops[k]? = some o → ∀ e ∈ o.after, Region.binds md e = true → listed.getD e.on false = true) → anc md ops f k i = true → listed.getD i false = true
  | 0, _, _, _, h => by simp [anc] at h
  | f + 1, k, i, hk, h => by
    unfold anc at h
    cases ho : ops[k]? with
    | none => rw [ho] at h; cases h
    | some o =>
      rw [ho] at h
      simp only [Array.any_eq_true', Bool.and_eq_true, Bool.or_eq_true, beq_iff_eq] at h
      obtain ⟨e, h1, h2, h3⟩ := h
      have h4 := hk o ho e h1 h2
      rcases h3 with h3 | h3
      · rw [← h3]; exact h4
      · exact anc_spec hS f e.on i (fun o' ho' => hS e.on o' ho' h4) h3
theorem Shut.list {listed : Array Bool} (hS : Shut md ops listed) {j : Nat} (hj : j ∈ Region.ready md ops listed) : Shut md ops (listed.setIfInBounds j true) := by
  obtain ⟨hjun, oj, hoj, hall⟩ := mem_ready.1 hj
  have up : ∀ x, listed.getD x false = true → (listed.setIfInBounds j true).getD x false = true := fun x hx => by
    by_cases hxj : j = x
    · subst hxj; rw [getD_both hjun] at hx; cases hx
    · rw [getD_set_ne false hxj]; exact hx
  intro m o ho hm e he hb
  by_cases hmj : j = m
  · subst hmj
    rw [hoj] at ho
    cases ho
    exact up _ (hall e he hb)
  · rw [getD_set_ne false hmj] at hm
    exact up _ (hS m o ho hm e he hb)
def lateB (md : Region.Mode) (ops : Array Oper) (lt : List Nat) : Bool := lt.all fun k => (List.range ops.size).all fun i => lt.contains i || anc md ops 7 k i
theorem lateB_spec (h : lateB md ops lt = true) {k : Nat} (hk : k ∈ lt) {i : Nat} (hi : i < ops.size) (hne : i ∉ lt) : anc md ops 7 k i = true := by
  unfold lateB at h
  have h := List.all_eq_true.1 h k hk
  simp only [List.all_eq_true, List.mem_range, Bool.or_eq_true, List.contains_iff_mem] at h
  exact (h i hi).resolve_left hne
def wpAnyZ (P : Program) (md : Region.Mode) (ops : Array Oper) (Q : Exit → Act → World → Prop) (C : World → Prop) (lt : List Nat) : Nat → Array Bool → Act → World → Prop
  | 0, listed, a, w => Region.ready md ops listed = [] ∧ Q .normal a w
  | f + 1, listed, a, w =>
    (Region.ready md ops listed = [] → Q .normal a w) ∧
    ∀ i ∈ Region.ready md ops listed, wpOp P ops Q i (fun a' w' => (i ∉ lt → C w') ∧ wpAnyZ P md ops Q C lt f (listed.setIfInBounds i true) a' w') a w
theorem wpAnyZ.any : ∀ (f : Nat) (listed : Array Bool) (a : Act) (w : World), wpAnyZ P md ops Q C lt f listed a w → wpAny P md ops Q f listed a w
  | 0, _, _, _, h => h
  | f + 1, listed, a, w, h => ⟨h.1, fun i hi => wpOp_mono (fun a' w' h' => wpAnyZ.any f _ a' w' h'.2) (h.2 i hi)⟩
theorem wpAnyZ.mono {C' : World → Prop} (hc : ∀ x, C' x → C x) : ∀ (f : Nat) (listed : Array Bool) (a : Act) (w : World), wpAnyZ P md ops Q C' lt f listed a w → wpAnyZ P md ops Q C lt f listed a w
  | 0, _, _, _, h => h
  | f + 1, _, _, _, h => ⟨h.1, fun i hi => wpOp_mono (fun a' w' h' => ⟨fun hn => hc _ (h'.1 hn), wpAnyZ.mono hc f _ a' w' h'.2⟩) (h.2 i hi)⟩
theorem wpAnyZ_first {i : Nat} {oi : Oper} {v : Value} (hlt : lateB md ops lt = true) (hil : i ∉ lt) (hi : ops[i]? = some oi) (hsel : ∀ (j : Nat) (o : Oper) cs b, ops[j]? = some o → o.op ≠ .select cs b)
    (hQ : ∀ c a w, Q (.panic c) (a.put oi.dst v) w → Q (.panic c) a w) :
    ∀ (f : Nat) (listed : Array Bool) (a : Act) (w : World),
      (∀ j oj, ops[j]? = some oj → j ≠ i → listed.getD j true = false → (∀ e ∈ oj.after, Region.binds md e = true → e.on ≠ i) → oi.apart ops oj = true) →
      i ∈ Region.ready md ops listed → Shut md ops listed → YieldsW P ops C oi v a → C w →
      wpAnyZ P md ops Q C lt f (listed.setIfInBounds i true) (a.put oi.dst v) w → wpAnyZ P md ops Q C lt (f + 1) listed a w := by
  intro f
  induction f with
  | zero =>
    intro listed a w _ hr hN hy hC H
    refine ⟨fun h => (by rw [h] at hr; cases hr), fun j hj => ?_⟩
    by_cases hji : j = i
    · subst hji; exact hy.op hi hC ⟨fun _ => hC, H⟩
    · have := ready_mono hj hji
      rw [H.1] at this
      cases this
  | succ f ih =>
    intro listed a w hfree hr hN hy hC H
    refine ⟨fun h => (by rw [h] at hr; cases hr), fun j hj => ?_⟩
    by_cases hji : j = i
    · subst hji; exact hy.op hi hC ⟨fun _ => hC, H⟩
    · have h1 := H.2 j (ready_mono hj hji)
      obtain ⟨hjun, oj, hoj, hall⟩ := mem_ready.1 hj
      have hun := (mem_ready.1 hr).1
      have hnot : ∀ e ∈ oj.after, Region.binds md e = true → e.on ≠ i := fun e he hb heq => by
        have h1 := hall e he hb
        rw [heq, getD_both hun] at h1
        cases h1
      have h2 := wpOp_putW (C := C) hoj (hfree j oj hoj hji hjun hnot) (fun cs b => hsel i oi cs b hi) (fun cs b => hsel j oj cs b hoj) hQ hy h1
      have hfree' : ∀ k ok, ops[k]? = some ok → k ≠ i → (listed.setIfInBounds j true).getD k true = false →
          (∀ e ∈ ok.after, Region.binds md e = true → e.on ≠ i) → oi.apart ops ok = true := fun k ok hk hki hun' hno => by
        refine hfree k ok hk hki ?_ hno
        by_cases hjk : j = k
        · subst hjk; exact hjun
        · rw [getD_set_ne true hjk] at hun'; exact hun'
      refine wpOp_mono (fun a' w' h3 => ?_) h2
      have hjk : j ∉ lt := fun hm => by
        have h9 := anc_spec hN 7 j i (fun o ho => by rw [hoj] at ho; cases ho; exact hall) (lateB_spec hlt hm (Array.getElem?_eq_some_iff.1 hi).1 hil)
        rw [getD_both hun] at h9
        cases h9
      have hC' : C w' := h3.2.1 hjk
      refine ⟨fun _ => hC', ih (listed.setIfInBounds j true) a' w' hfree' (ready_mono hr (Ne.symm hji)) (hN.list hj) h3.1 hC' ?_⟩
      rw [Array.setIfInBounds_comm _ _ hji]
      exact h3.2.2
def treeB (md : Region.Mode) (ops : Array Oper) (lt : List Nat) : Tr → Nat → Bool → Array Bool → Bool
  | .nil, n, z, listed => decide (n = 0) && (Region.ready md ops listed).isEmpty
  | .r i t, n, z, listed => match n with
    | 0 => false
    | n + 1 => !z && !lt.contains i && (Region.ready md ops listed).contains i && Region.free md ops listed i && treeB md ops lt t n z (listed.setIfInBounds i true)
  | .a k t, n, z, listed => match n with
    | 0 => false
    | n + 1 => (!z || lt.contains k) && decide (Region.ready md ops listed = [k]) && treeB md ops lt t n (lt.contains k) (listed.setIfInBounds k true)
  | .two i s j t, n, z, listed => match n with
    | 0 => false
    | n + 1 => !z && !lt.contains i && !lt.contains j && decide (Region.ready md ops listed = [i, j]) && treeB md ops lt s n z (listed.setIfInBounds i true) && treeB md ops lt t n z (listed.setIfInBounds j true)
  | .three i s j t k u, n, z, listed => match n with
    | 0 => false
    | n + 1 => !z && !lt.contains i && !lt.contains j && !lt.contains k && decide (Region.ready md ops listed = [i, j, k]) && treeB md ops lt s n z (listed.setIfInBounds i true) && treeB md ops lt t n z (listed.setIfInBounds j true) && treeB md ops lt u n z (listed.setIfInBounds k true)
def wpTree (P : Program) (ops : Array Oper) (Q : Exit → Act → World → Prop) (lt : List Nat) : Tr → (World → Prop) → Act → World → Prop
  | .nil, _, a, w => Q .normal a w
  | .r i t, C, a, w => ∃ o v, ops[i]? = some o ∧ YieldsW P ops C o v a ∧ wpTree P ops Q lt t C (a.put o.dst v) w
  | .a k t, C, a, w => ∃ o, ops[k]? = some o ∧ wpList P ops (Qr (fun a' w' => (k ∉ lt → C w') ∧ wpTree P ops Q lt t C a' w') Q) [o] a w
  | .two i s j t, C, a, w => (∃ o, ops[i]? = some o ∧ wpList P ops (Qr (fun a' w' => C w' ∧ wpTree P ops Q lt s C a' w') Q) [o] a w) ∧
    ∃ o, ops[j]? = some o ∧ wpList P ops (Qr (fun a' w' => C w' ∧ wpTree P ops Q lt t C a' w') Q) [o] a w
  | .three i s j t k u, C, a, w => (∃ o, ops[i]? = some o ∧ wpList P ops (Qr (fun a' w' => C w' ∧ wpTree P ops Q lt s C a' w') Q) [o] a w) ∧
    (∃ o, ops[j]? = some o ∧ wpList P ops (Qr (fun a' w' => C w' ∧ wpTree P ops Q lt t C a' w') Q) [o] a w) ∧
    ∃ o, ops[k]? = some o ∧ wpList P ops (Qr (fun a' w' => C w' ∧ wpTree P ops Q lt u C a' w') Q) [o] a w
theorem wpTree_nil {a : Act} {w : World} (h : Q .normal a w) : wpTree P ops Q lt .nil C a w := h
theorem wpTree_r {i : Nat} {s : Tr} {a : Act} {w : World} (o : Oper) (v : Value) (hi : ops[i]? = some o) (h1 : Region.wanted o (yielded ops a.tmps) = true) (h2 : ∀ w, C w → (execOp a.eval o).run P w = .ok (.value v) w) (h : wpTree P ops Q lt s C (a.put o.dst v) w) : wpTree P ops Q lt (.r i s) C a w :=
  ⟨o, v, hi, ⟨h1, h2⟩, h⟩
theorem wpTree_a {k : Nat} {s : Tr} {a : Act} {w : World} (o : Oper) (hk : ops[k]? = some o) (h : ∀ K : Act → World → Prop, (∀ a' w', C w' → wpTree P ops Q lt s C a' w' → K a' w') → wpList P ops (Qr K Q) [o] a w) : wpTree P ops Q lt (.a k s) C a w :=
  ⟨o, hk, h _ (fun _ _ h1 h2 => ⟨fun _ => h1, h2⟩)⟩
theorem wpTree_z {k : Nat} {s : Tr} {a : Act} {w : World} (o : Oper) (hk : ops[k]? = some o) (hz : k ∈ lt) (h : ∀ K : Act → World → Prop, (∀ a' w', wpTree P ops Q lt s C a' w' → K a' w') → wpList P ops (Qr K Q) [o] a w) : wpTree P ops Q lt (.a k s) C a w :=
  ⟨o, hk, h _ (fun _ _ h2 => ⟨fun hn => absurd hz hn, h2⟩)⟩
theorem wpTree_two {i j : Nat} {s t : Tr} {a : Act} {w : World} (o o' : Oper) (hi : ops[i]? = some o) (hj : ops[j]? = some o')
    (h1 : ∀ K : Act → World → Prop, (∀ a' w', C w' → wpTree P ops Q lt s C a' w' → K a' w') → wpList P ops (Qr K Q) [o] a w)
    (h2 : ∀ K : Act → World → Prop, (∀ a' w', C w' → wpTree P ops Q lt t C a' w' → K a' w') → wpList P ops (Qr K Q) [o'] a w) : wpTree P ops Q lt (.two i s j t) C a w :=
  ⟨⟨o, hi, h1 _ (fun _ _ h1 h2 => ⟨h1, h2⟩)⟩, ⟨o', hj, h2 _ (fun _ _ h1 h2 => ⟨h1, h2⟩)⟩⟩
theorem wpTree_three {i j k : Nat} {s t u : Tr} {a : Act} {w : World} (o o' o'' : Oper) (hi : ops[i]? = some o) (hj : ops[j]? = some o') (hk : ops[k]? = some o'')
    (h1 : ∀ K : Act → World → Prop, (∀ a' w', C w' → wpTree P ops Q lt s C a' w' → K a' w') → wpList P ops (Qr K Q) [o] a w)
    (h2 : ∀ K : Act → World → Prop, (∀ a' w', C w' → wpTree P ops Q lt t C a' w' → K a' w') → wpList P ops (Qr K Q) [o'] a w)
    (h3 : ∀ K : Act → World → Prop, (∀ a' w', C w' → wpTree P ops Q lt u C a' w' → K a' w') → wpList P ops (Qr K Q) [o''] a w) : wpTree P ops Q lt (.three i s j t k u) C a w :=
  ⟨⟨o, hi, h1 _ (fun _ _ h1 h2 => ⟨h1, h2⟩)⟩, ⟨o', hj, h2 _ (fun _ _ h1 h2 => ⟨h1, h2⟩)⟩, ⟨o'', hk, h3 _ (fun _ _ h1 h2 => ⟨h1, h2⟩)⟩⟩
theorem wpAnyZ_of_tree (hlt : lateB md ops lt = true) (hsel : Region.noSelect ops = true) (hQ : ∀ c a d v w, Q (.panic c) (Act.put a d v) w → Q (.panic c) a w) :
    ∀ (s : Tr) (n : Nat) (z : Bool) (listed : Array Bool) (a : Act) (w : World), (z = false → C w) → Shut md ops listed → treeB md ops lt s n z listed = true → wpTree P ops Q lt s C a w → wpAnyZ P md ops Q C lt n listed a w
  | .nil, n, z, listed, a, w, hC, hN, hB, h => by
    simp only [treeB, Bool.and_eq_true, decide_eq_true_eq] at hB
    obtain ⟨rfl, hB⟩ := hB
    exact ⟨by simpa using hB, h⟩
  | .r i s, 0, z, listed, a, w, hC, hN, hB, h => by simp [treeB] at hB
  | .r i s, n + 1, z, listed, a, w, hC, hN, hB, h => by
    obtain ⟨o, v, h0, hy, hK⟩ := h
    simp only [treeB, Bool.and_eq_true, Bool.not_eq_true'] at hB
    obtain ⟨⟨⟨⟨hz, hil⟩, hr⟩, hf⟩, hB'⟩ := hB
    exact wpAnyZ_first hlt (by simpa using hil) h0 (Region.noSelect_spec hsel) (fun c a w h => hQ c a _ _ w h) n listed a w (Region.free_spec h0 hf) (by simpa using hr) hN hy (hC hz)
      (wpAnyZ_of_tree hlt hsel hQ s n z _ _ w hC (hN.list (by simpa using hr)) hB' hK)
  | .a k s, 0, z, listed, a, w, hC, hN, hB, h => by simp [treeB] at hB
  | .a k s, n + 1, z, listed, a, w, hC, hN, hB, h => by
    obtain ⟨o, h0, h⟩ := h
    simp only [treeB, Bool.and_eq_true, Bool.or_eq_true, decide_eq_true_eq] at hB
    refine ⟨fun h1 => (by rw [hB.1.2] at h1; cases h1), fun i hi => ?_⟩
    rw [hB.1.2] at hi
    obtain rfl : i = k := by simpa using hi
    exact wpOp_mono (fun a' w' ⟨h1, h3⟩ => ⟨h1, wpAnyZ_of_tree hlt hsel hQ s n _ _ a' w' (fun hz => h1 (by simpa using hz)) (hN.list (by rw [hB.1.2]; simp)) hB.2 h3⟩) (wpOp_list h0 h)
  | .two i s j t, 0, z, listed, a, w, hC, hN, hB, h => by simp [treeB] at hB
  | .two i s j t, n + 1, z, listed, a, w, hC, hN, hB, h => by
    obtain ⟨⟨o, h0, h⟩, ⟨o', h0', h'⟩⟩ := h
    simp only [treeB, Bool.and_eq_true, decide_eq_true_eq, Bool.not_eq_true'] at hB
    obtain ⟨⟨⟨⟨⟨hz, hil⟩, hjl⟩, hr⟩, hs⟩, ht⟩ := hB
    refine ⟨fun h1 => (by rw [hr] at h1; cases h1), fun q hq => ?_⟩
    rw [hr] at hq
    have hq2 : q = i ∨ q = j := by simpa using hq
    rcases hq2 with rfl | rfl
    · exact wpOp_mono (fun a' w' ⟨h1, h3⟩ => ⟨fun _ => h1, wpAnyZ_of_tree hlt hsel hQ s n z _ a' w' (fun _ => h1) (hN.list (by rw [hr]; simp)) hs h3⟩) (wpOp_list h0 h)
    · exact wpOp_mono (fun a' w' ⟨h1, h3⟩ => ⟨fun _ => h1, wpAnyZ_of_tree hlt hsel hQ t n z _ a' w' (fun _ => h1) (hN.list (by rw [hr]; simp)) ht h3⟩) (wpOp_list h0' h')
  | .three i s j t k u, 0, z, listed, a, w, hC, hN, hB, h => by simp [treeB] at hB
  | .three i s j t k u, n + 1, z, listed, a, w, hC, hN, hB, h => by
    obtain ⟨⟨o, h0, h⟩, ⟨o', h0', h'⟩, ⟨o'', h0'', h''⟩⟩ := h
    simp only [treeB, Bool.and_eq_true, decide_eq_true_eq, Bool.not_eq_true'] at hB
    obtain ⟨⟨⟨⟨⟨⟨⟨hz, hil⟩, hjl⟩, hkl⟩, hr⟩, hs⟩, ht⟩, hu⟩ := hB
    refine ⟨fun h1 => (by rw [hr] at h1; cases h1), fun q hq => ?_⟩
    rw [hr] at hq
    have hq2 : q = i ∨ q = j ∨ q = k := by simpa using hq
    rcases hq2 with rfl | rfl | rfl
    · exact wpOp_mono (fun a' w' ⟨h1, h3⟩ => ⟨fun _ => h1, wpAnyZ_of_tree hlt hsel hQ s n z _ a' w' (fun _ => h1) (hN.list (by rw [hr]; simp)) hs h3⟩) (wpOp_list h0 h)
    · exact wpOp_mono (fun a' w' ⟨h1, h3⟩ => ⟨fun _ => h1, wpAnyZ_of_tree hlt hsel hQ t n z _ a' w' (fun _ => h1) (hN.list (by rw [hr]; simp)) ht h3⟩) (wpOp_list h0' h')
    · exact wpOp_mono (fun a' w' ⟨h1, h3⟩ => ⟨fun _ => h1, wpAnyZ_of_tree hlt hsel hQ u n z _ a' w' (fun _ => h1) (hN.list (by rw [hr]; simp)) hu h3⟩) (wpOp_list h0'' h'')
theorem wp_region_tree {id : Nat} {a : Act} {w : World} {l : List Oper} (C : World → Prop) (lt : List Nat) (s : Tr) (hm : P.follows .mixedOrders = true) (hsel : Region.noSelect l.toArray = true) (hlt : lateB .any l.toArray lt = true)
    (hB : treeB .any l.toArray lt s l.length false (Array.replicate l.toArray.size false) = true) (hC : C { w with drawn := w.drawn + 1 }) (hQ : ∀ c a d v w, Q (.panic c) (Act.put a d v) w → Q (.panic c) a w)
    (h : wpTree P l.toArray Q lt s C a { w with drawn := w.drawn + 1 }) : (Code.region id l.toArray true).wp P Q a w := by
  refine wp_region_any hm (wpAnyZ.any (C := C) (lt := lt) _ _ _ _ ?_)
  have := wpAnyZ_of_tree (md := .any) hlt hsel hQ s l.length false (Array.replicate l.toArray.size false) a _ (fun _ => hC) (fun m o ho hm => by have h5 := (Array.getElem?_eq_some_iff.1 ho).1; simp [Array.getD] at hm) hB h
  simpa using this
end
end Go.Proofs.YtjcpclcmnhpgpaaGreatDoor
