/-
  The seat's own texts, part xj: BiP3, BiP4.
-/
import Derived.Test.YtjcpclcmnhpgpaaGreatDoorFMx

set_option linter.unusedVariables false
set_option linter.unusedSimpArgs false
namespace Go.Proofs.YtjcpclcmnhpgpaaGreatDoor
open Go.RowKit Go.Shelf
theorem tails_all : ∀ {p : List Bool}, p.all id = true → tails p = p.length
  | [], _ => rfl
  | b :: p, h => by
    simp only [List.all_cons, id, Bool.and_eq_true] at h
    unfold tails
    rw [if_pos h.2, if_pos h.1]
    rfl
theorem tails_cons (b : Bool) (p : List Bool) : tails p ≤ tails (b :: p) := by
  conv => rhs; unfold tails
  split
  · next h => rw [tails_all h]; omega
  · exact Nat.le_refl _
namespace Bt
structure InsRes (R R' : Nat → Option (List Nat)) (t a lo : Nat) (s : Sb) (it : It) (used : List Nat) (up : Option (Nat × Nat × Nat)) (full : Bool) : Prop where
  frame : ∀ z, z ∉ s.ns → z ∉ used → R' z = R z
  recs : ∀ z, Rec R t z → Rec R' t z
  stays : up = none → full = false ∧ ∃ ns', At R' t a lo ⟨s.h, putI s.its it, ns'⟩ ∧ ∀ x, ns'.count x = s.ns.count x + used.count x
  split : ∀ mk mv r, up = some (mk, mv, r) → full = true ∧ ∃ (L Q : Sb) (m : It), mk = m.kh ∧ mv = m.vh ∧ L.h = s.h ∧ Q.h = r ∧ At R' t a (t - 1) L ∧ At R' t a (t - 1) Q ∧ putI s.its it = L.its ++ m :: Q.its ∧ ∀ x, L.ns.count x + Q.ns.count x = s.ns.count x + used.count x
section
variable {R R1 : Nat → Option (List Nat)} {t a lo : Nat}
theorem leaf_step (ht : BN.Deg t) {s : Sb} {it : It} {st : List Nat} (h : At R t 0 lo s) (hp : (putI s.its it).length = s.its.length + 1) (hm : ((leafOf s.its).insKV (rankL (prs s.its) it.k) it.kh it.vh).more = leafOf (putI s.its it)) (hl : 1 ≤ lo ∨ True)
    (hst : ∀ x ∈ st, x ≠ 0 ∧ x ∉ s.ns ∧ Rec R t x) (hfull : s.its.length = 2 * t - 1 → 1 ≤ st.length) :
    ∃ R' used st' up, bsplit R t s.h st (leafOf (putI s.its it)) = (R', st', up) ∧ st = used ++ st' ∧ used.length = (if 2 * t - 1 ≤ s.its.length then 1 else 0) ∧ InsRes R R' t 0 lo s it used up (decide (2 * t - 1 ≤ s.its.length)) := by
  obtain ⟨t1, t2⟩ := ht
  obtain ⟨h1, h2, h3⟩ := h
  have hk1 : s.its.length ≤ 2 * t - 1 := by have := h3.2.1; simpa [leafOf] using this
  have hrec : Rec R t s.h := ⟨_, h3.1, BN.wd_len _ _⟩
  have hlen : (leafOf (putI s.its it)).keys.length = s.its.length + 1 := by simp [leafOf, hp]
  by_cases hf : 2 * t - 1 ≤ s.its.length
  · have he : s.its.length = 2 * t - 1 := by omega
    obtain ⟨x, st', rfl⟩ : ∃ x st', st = x :: st' := by
      cases st with
      | nil => exact absurd (hfull he) (by simp)
      | cons x st' => exact ⟨x, st', rfl⟩
    obtain ⟨hx0, hxn, hxr⟩ := hst x (by simp)
    have hxh : x ≠ s.h := fun e => hxn (by rw [h1, e]; simp)
    obtain ⟨A, m, B, hAB, hA, hB⟩ : ∃ A m B, putI s.its it = A ++ m :: B ∧ A.length = t ∧ B.length = t - 1 := by
      have hlt : t < (putI s.its it).length := by omega
      refine ⟨(putI s.its it).take t, (putI s.its it)[t], (putI s.its it).drop (t + 1), ?_, by rw [List.length_take]; omega, by rw [List.length_drop]; omega⟩
      have := List.take_append_drop t (putI s.its it)
      rw [List.drop_eq_getElem_cons hlt] at this
      exact this.symm
    obtain ⟨g1, g2, g3, g4⟩ := leaf_halves (R := R) (t := t) (m := m) (B := B) hA (by omega)
    rw [hAB] at hlen ⊢
    have hsp := bsplit_great (st := st') hrec hxr (n := leafOf (A ++ m :: B)) (by omega) (left := leafOf A) (right := leafOf B) (by rw [g1]; exact g2) g1 (leaf_fits (by omega)) (leaf_fits (by omega))
    rw [g3, g4] at hsp
    have fA : (leafOf A).Fits t := leaf_fits (by omega)
    have fB : (leafOf B).Fits t := leaf_fits (by omega)
    have lA : t - 1 ≤ A.length := by omega
    have lB : t - 1 ≤ B.length := by omega
    refine ⟨_, [x], st', _, hsp, rfl, by rw [if_pos hf]; rfl, ⟨fun z hz hz2 => ?_, fun z hz => upd_rec (upd_rec hz), (fun e => by cases e), fun mk mv r e => ?_⟩⟩
    · rw [updR_other (fun e => hz2 (by rw [e]; simp)), updR_other (fun e => hz (by rw [h1, e]; simp))]
    · simp only [Option.some.injEq, Prod.mk.injEq] at e
      obtain ⟨rfl, rfl, rfl⟩ := e
      refine ⟨decide_eq_true hf, ⟨s.h, A, [s.h]⟩, ⟨x, B, [x]⟩, m, rfl, rfl, rfl, rfl, ⟨rfl, lA, (updR_other (Ne.symm hxh)).trans (updR_same _ _ _), fA⟩, ⟨rfl, lB, updR_same _ _ _, fB⟩, hAB, fun y => by rw [h1]⟩
  · have fN : (leafOf (putI s.its it)).Fits t := leaf_fits (by omega)
    have lN : lo ≤ (putI s.its it).length := by omega
    have hsp := bsplit_small (st := st) hrec (n := leafOf (putI s.its it)) fN (by omega)
    refine ⟨_, [], st, _, hsp, rfl, by rw [if_neg hf]; rfl, ⟨fun z hz hz2 => ?_, fun z hz => upd_rec hz, fun _ => ⟨decide_eq_false hf, [s.h], ⟨rfl, lN, updR_same _ _ _, fN⟩, fun y => by rw [h1]; simp⟩, fun mk mv r e => by cases e⟩⟩
    rw [updR_other (fun e => hz (by rw [h1, e]; simp))]
end
end Bt
end Go.Proofs.YtjcpclcmnhpgpaaGreatDoor

set_option linter.unusedVariables false
set_option linter.unusedSimpArgs false
namespace Go.Proofs.YtjcpclcmnhpgpaaGreatDoor
open Go.RowKit Go.Shelf
namespace Bt
section
variable {R R1 : Nat → Option (List Nat)} {t a lo : Nat}
theorem upd_at {s : Sb} {x : Nat} {n : BN} (h : At R t a lo s) (hx : x ∉ s.ns) : At (updR R x (some (n.wd t))) t a lo s := h.congr fun z hz => updR_other fun e => hx (by rw [← e]; exact hz)
theorem At.sizeOf (ht : BN.Deg t) {s : Sb} (h : At R t a lo s) : (bnG R t s.h).size = s.its.length := (h.get ht).2
theorem inner_small (ht : BN.Deg t) {h : Nat} {c : Sb} {l : List Lk} {st : List Nat} (hrec : Rec R1 t h) (h1 : l.length ≤ 2 * t - 1) (h0 : 0 ∉ (c.h :: l.map (·.2.h))) (hc : At R1 t a (t - 1) c) (hl : ∀ p ∈ l, At R1 t a (t - 1) p.2) (hn : h ∉ nsOf c l) (hlo : lo ≤ l.length) :
    bsplit R1 t h st (nodeOf c l) = (updR R1 h (some ((nodeOf c l).wd t)), st, none) ∧ At (updR R1 h (some ((nodeOf c l).wd t))) t (a + 1) lo ⟨h, itsOf c l, h :: nsOf c l⟩ := by
  have hf := node_fits h1 h0
  have hk := (node_keys c l).1
  have t1 := ht.1
  refine ⟨bsplit_small hrec hf (by omega), c, l, rfl, rfl, hlo, ⟨updR_same _ _ _, hf⟩, upd_at hc fun hz => hn (List.mem_append.2 (.inl hz)), fun p hp => upd_at (hl p hp) fun hz => hn (mem_ns hp hz)⟩
theorem inner_great (ht : BN.Deg t) {h x : Nat} {c : Sb} {l : List Lk} {st : List Nat} (hrec : Rec R1 t h) (xrec : Rec R1 t x) (h1 : l.length = 2 * t) (h0 : 0 ∉ (c.h :: l.map (·.2.h))) (hc : At R1 t a (t - 1) c) (hl : ∀ p ∈ l, At R1 t a (t - 1) p.2) (hn : h ∉ nsOf c l) (hx : x ∉ nsOf c l) (hxh : x ≠ h) (hb : (itsOf c l).length < 18446744073709551616) :
    ∃ (A : List Lk) (m : It) (d : Sb) (B : List Lk), l = A ++ (m, d) :: B ∧
      bsplit R1 t h (x :: st) (nodeOf c l) = (updR (updR R1 h (some ((nodeOf c A).wd t))) x (some ((nodeOf d B).wd t)), st, some (m.kh, m.vh, x)) ∧
      At (updR (updR R1 h (some ((nodeOf c A).wd t))) x (some ((nodeOf d B).wd t))) t (a + 1) (t - 1) ⟨h, itsOf c A, h :: nsOf c A⟩ ∧ At (updR (updR R1 h (some ((nodeOf c A).wd t))) x (some ((nodeOf d B).wd t))) t (a + 1) (t - 1) ⟨x, itsOf d B, x :: nsOf d B⟩ := by
  have t1 := ht.1
  obtain ⟨A, m, d, B, rfl, hA, hB, -, -⟩ := halves (l := l) (t := t) (by omega)
  have hBl : B.length = t - 1 := by rw [hB, h1]; omega
  have hd : At R1 t a (t - 1) d := hl (m, d) (by simp)
  obtain ⟨g1, g2, g3, g4⟩ := halves_nodes (R := R1) (t := t) (c := c) (m := m) (d := d) (B := B) hA (hd.sizeOf ht) (fun p hp => (hl p (by simp [hp])).sizeOf ht) hb
  rw [halves_ns] at hn hx
  rw [List.mem_append, not_or] at hn hx
  have f1 : (nodeOf c A).Fits t := node_fits (by omega) fun h => h0 (by
    rcases List.mem_cons.1 h with h | h
    · rw [h]; simp
    · simp only [List.map_append, List.mem_cons, List.mem_append]; exact .inr (.inl h))
  have f2 : (nodeOf d B).Fits t := node_fits (by omega) fun h => h0 (by
    simp only [List.map_append, List.map_cons, List.mem_cons, List.mem_append]
    rcases List.mem_cons.1 h with h | h
    · exact .inr (.inr (.inl h))
    · exact .inr (.inr (.inr h)))
  have hsp := bsplit_great (st := st) hrec xrec (n := nodeOf c (A ++ (m, d) :: B)) (by rw [(node_keys c _).1]; omega) (left := nodeOf c A) (right := nodeOf d B) (by rw [g1]; exact g2) g1 f1 f2
  rw [g3, g4] at hsp
  refine ⟨A, m, d, B, rfl, hsp, ⟨c, A, rfl, rfl, by omega, ⟨(updR_other (Ne.symm hxh)).trans (updR_same _ _ _), f1⟩, ?_, fun p hp => ?_⟩, ⟨d, B, rfl, rfl, by omega, ⟨updR_same _ _ _, f2⟩, ?_, fun p hp => ?_⟩⟩
  · exact upd_at (upd_at hc fun hz => hn.1 (List.mem_append.2 (.inl hz))) fun hz => hx.1 (List.mem_append.2 (.inl hz))
  · exact upd_at (upd_at (hl p (by simp [hp])) fun hz => hn.1 (mem_ns hp hz)) fun hz => hx.1 (mem_ns hp hz)
  · exact upd_at (upd_at hd fun hz => hn.2 (List.mem_append.2 (.inl hz))) fun hz => hx.2 (List.mem_append.2 (.inl hz))
  · exact upd_at (upd_at (hl p (by simp [hp])) fun hz => hn.2 (mem_ns hp hz)) fun hz => hx.2 (mem_ns hp hz)
theorem bpath_node {key : ByteArray} {f x k : Nat} {n : BN} (e1 : bnG R t x = n) (e2 : bnE R t x = 0) (hk : plK R n.keys key = k) :
    bpath R t key (f + 1) x = decide (2 * t - 1 ≤ n.keys.length) :: if n.kids = [] then [] else bpath R t key f (n.kids.getD k 0) := by
  subst e1 hk
  conv => lhs; unfold bpath
  rw [if_neg (by rw [e2]; simp)]
theorem bins_leaf {key : ByteArray} {ak av f x k : Nat} {st : List Nat} {n : BN} (e1 : bnG R t x = n) (e2 : bnE R t x = 0) (hk : plK R n.keys key = k) (h0 : n.kids = []) : bins t key ak av (f + 1) R st x = bsplit R t x st (n.insKV k ak av).more := by
  subst e1 hk
  conv => lhs; unfold bins
  rw [if_neg (by rw [e2]; simp), if_pos h0]
theorem bins_stay {key : ByteArray} {ak av f x k y : Nat} {st st1 : List Nat} {n : BN} (e1 : bnG R t x = n) (e2 : bnE R t x = 0) (hk : plK R n.keys key = k) (h0 : n.kids ≠ []) (hy : n.kids.getD k 0 = y) (hr : bins t key ak av f R st y = (R1, st1, none)) : bins t key ak av (f + 1) R st x = bsplit R1 t x st1 n.more := by
  subst e1 hk hy
  conv => lhs; unfold bins
  rw [if_neg (by rw [e2]; simp), if_neg h0, hr]
theorem bins_up {key : ByteArray} {ak av f x k y p q r : Nat} {st st1 : List Nat} {n : BN} (e1 : bnG R t x = n) (e2 : bnE R t x = 0) (hk : plK R n.keys key = k) (h0 : n.kids ≠ []) (hy : n.kids.getD k 0 = y) (hr : bins t key ak av f R st y = (R1, st1, some (p, q, r))) : bins t key ak av (f + 1) R st x = bsplit R1 t x st1 ((n.insKV k p q).insKid (k + 1) r).more := by
  subst e1 hk hy
  conv => lhs; unfold bins
  rw [if_neg (by rw [e2]; simp), if_neg h0, hr]
theorem mem_ins_hs {l : List Nat} {k r x : Nat} (h : x ∈ l.take k ++ r :: l.drop k) : x = r ∨ x ∈ l := by
  rcases List.mem_append.1 h with h | h
  · exact .inr (List.mem_of_mem_take h)
  · rcases List.mem_cons.1 h with h | h
    · exact .inl h
    · exact .inr (List.mem_of_mem_drop h)
theorem kid_nodup : ∀ {c : Sb} {l : List Lk} {k : Nat}, k ≤ l.length → (nsOf c l).Nodup → (kid c l k).ns.Nodup
  | c, l, 0, _, h => by
    have hk : kid c l 0 = c := by cases l <;> rfl
    rw [hk]
    exact (List.nodup_append.1 h).1
  | c, [], k + 1, h, _ => absurd h (by simp)
  | c, p :: l, k + 1, h, hn => by
    rw [nsOf_cons] at hn
    exact kid_nodup (c := p.2) (l := l) (k := k) (by simpa using h) (List.nodup_append.1 hn).2.1
theorem At.ns_rec : ∀ {a lo : Nat} {s : Sb}, At R t a lo s → ∀ x ∈ s.ns, Rec R t x
  | 0, lo, s, h, x, hx => by
    rw [h.1, List.mem_singleton] at hx
    rw [hx]
    exact ⟨_, h.2.2.1, BN.wd_len _ _⟩
  | a + 1, lo, s, h, x, hx => by
    obtain ⟨c, l, h1, h2, h3, h4, h5, h6⟩ := h
    rw [h2] at hx
    rcases List.mem_cons.1 hx with rfl | hx
    · exact ⟨_, h4.1, BN.wd_len _ _⟩
    · rcases List.mem_append.1 hx with hx | hx
      · exact At.ns_rec h5 x hx
      · obtain ⟨p, hp, hx⟩ := List.mem_flatMap.1 hx
        exact At.ns_rec (h6 p hp) x hx
theorem At.ns_zero {s : Sb} (h : At R t a lo s) (h0 : R 0 = none) : 0 ∉ s.ns := fun hm => by
  obtain ⟨ws, e, _⟩ := h.ns_rec 0 hm
  rw [h0] at e
  cases e
theorem ins_right (ht : BN.Deg t) (it : It) : ∀ (a lo f : Nat) (s : Sb) (st : List Nat) (R : Nat → Option (List Nat)), At R t a lo s → R 0 = none → s.ns.Nodup → (∀ i ∈ s.its, i.At R) → Rising (prs s.its) → findI s.its it.k = none → a < f → s.its.length + 1 < 18446744073709551616 →
    (∀ x ∈ st, x ≠ 0 ∧ x ∉ s.ns ∧ Rec R t x) → st.Nodup → tails (bpath R t it.k f s.h) ≤ st.length →
    ∃ R' used st' up, bins t it.k it.kh it.vh f R st s.h = (R', st', up) ∧ st = used ++ st' ∧ used.length = tails (bpath R t it.k f s.h) ∧ InsRes R R' t a lo s it used up ((bpath R t it.k f s.h).all id) := by
  intro a
  induction a with
  | zero =>
    intro lo f s st R h hz0 hnd hA hr hno hf hsz hst hsn htl
    obtain ⟨f, rfl⟩ : ∃ g, f = g + 1 := ⟨f - 1, by omega⟩
    obtain ⟨e1, e2⟩ := h.2.2.get ht
    have hpl := place_items (key := it.k) hA hr
    have hpath : bpath R t it.k (f + 1) s.h = [decide (2 * t - 1 ≤ s.its.length)] := by
      rw [bpath_node e1 e2 hpl, if_pos (show (leafOf s.its).kids = [] from rfl)]
      simp [leafOf]
    rw [hpath] at htl ⊢
    rw [bins_leaf e1 e2 hpl rfl]
    have hlen := putI_len s.its it
    have hm : ((leafOf s.its).insKV (rankL (prs s.its) it.k) it.kh it.vh).more = leafOf (putI s.its it) := by
      refine more_eq ?_ ?_ rfl ?_ ?_
      · show (s.its.map (·.kh)).take _ ++ it.kh :: (s.its.map (·.kh)).drop _ = (putI s.its it).map (·.kh)
        unfold putI
        simp only [List.map_append, List.map_cons, List.map_take, List.map_drop]
      · show (s.its.map (·.vh)).take _ ++ it.vh :: (s.its.map (·.vh)).drop _ = (putI s.its it).map (·.vh)
        unfold putI
        simp only [List.map_append, List.map_cons, List.map_take, List.map_drop]
      · exact hlen.symm
      · show (putI s.its it).length < _
        omega
    rw [hm]
    have ht1 : tails [decide (2 * t - 1 ≤ s.its.length)] = if 2 * t - 1 ≤ s.its.length then 1 else 0 := by
      unfold tails
      by_cases hc : 2 * t - 1 ≤ s.its.length <;> simp [hc]
    have hal : [decide (2 * t - 1 ≤ s.its.length)].all id = decide (2 * t - 1 ≤ s.its.length) := by simp
    rw [ht1] at htl ⊢
    rw [hal]
    exact leaf_step ht h hlen hm (.inr trivial) hst (fun e => by rw [if_pos (by omega)] at htl; exact htl)
  | succ a ih =>
    intro lo f s st R h hz0 hnd hA hr hno hf hsz hst hsn htl
    obtain ⟨f, rfl⟩ : ∃ g, f = g + 1 := ⟨f - 1, by omega⟩
    have hzs := h.ns_zero hz0
    obtain ⟨c, l, h1, h2, h3, h4, h5, h6⟩ := h
    obtain ⟨e1, e2⟩ := h4.get ht
    obtain ⟨s_h, s_its, s_ns⟩ := s
    dsimp only at h1 h2 h4 hA hr hno hsz hnd hst htl e1 e2 hzs ⊢
    subst h1 h2
    obtain ⟨nh, nn⟩ := List.nodup_cons.1 hnd
    have t1 := ht.1
    have hkr := keys_rising hr
    have hkA : ∀ i ∈ l.map (·.1), i.At R := fun i hi => hA i (keys_in hi)
    have hsp := spot_of (key := it.k) hkr
    have hpl := place_items (key := it.k) hkA hkr
    rw [List.map_map] at hpl
    generalize rankL (prs (l.map (·.1))) it.k = k at hsp hpl
    have hkl := hsp.le
    have hkid := kid_all k h5 h6
    have hy : (nodeOf c l).kids.getD k 0 = (kid c l k).h := by
      show (c.h :: l.map (·.2.h)).getD k 0 = _
      rw [List.getD_eq_getElem?_getD, kid_get c l k hkl]; rfl
    have hne : (nodeOf c l).kids ≠ [] := by simp [nodeOf]
    have hpath : bpath R t it.k (f + 1) s_h = decide (2 * t - 1 ≤ l.length) :: bpath R t it.k f (kid c l k).h := by
      rw [bpath_node e1 e2 hpl, if_neg hne, hy, (node_keys c l).1]
    rw [hpath] at htl ⊢
    have hnh : ∀ hk' : k < l.length, l[k].1.k ≠ it.k := fun hk' e => by
      rw [hsp.here hr hk' e] at hno; cases hno
    have hkno : findI (kid c l k).its it.k = none := by rw [← hsp.gone hr hnh]; exact hno
    have hput : putI (itsOf c l) it = pre c l k ++ (putI (kid c l k).its it ++ rest (l.drop k)) := by
      conv => lhs; rw [parts_at c l k hkl]
      exact putI_parts (hsp.pre hr) (hsp.post hr)
    have hll := kid_len (c := c) hkl
    have hfit := h4.2
    have hlf : l.length ≤ 2 * t - 1 := by have := hfit.1; rwa [(node_keys c l).1] at this
    have h0k : 0 ∉ (c.h :: l.map (·.2.h)) := by
      rcases hfit.2.2 with h | h
      · exact absurd h hne
      · exact h.2
    obtain ⟨R1, used, st1, up, g1, g2, g3, g4⟩ := ih (t - 1) f (kid c l k) st R hkid hz0 (kid_nodup hkl nn) (fun i hi => hA i (kid_its hkl hi)) (kid_rising hkl hr) hkno (by omega) (by omega)
      (fun x hx => ⟨(hst x hx).1, fun hm => (hst x hx).2.1 (List.mem_cons_of_mem _ (kid_ns hkl hm)), (hst x hx).2.2⟩) hsn (Nat.le_trans (tails_cons _ _) htl)
    generalize bpath R t it.k f (kid c l k).h = p at g3 g4 htl ⊢
    have hus : ∀ x ∈ used, x ∈ st := fun x hx => by rw [g2]; exact List.mem_append.2 (.inl hx)
    have hfr : ∀ z, z ∈ nsOf c l → z ∉ (kid c l k).ns → R1 z = R z := fun z hz hz2 => g4.frame z hz2 fun hz3 => (hst z (hus z hz3)).2.1 (List.mem_cons_of_mem _ hz)
    have hrec1 : Rec R1 t s_h := g4.recs _ ⟨_, h4.1, BN.wd_len _ _⟩
    have hhu : s_h ∉ used := fun hm => (hst _ (hus _ hm)).2.1 (by simp)
    have hR10 : R1 0 = none := (g4.frame 0 (fun hm => hzs (List.mem_cons_of_mem _ (kid_ns hkl hm))) (fun hm => (hst 0 (hus 0 hm)).1 rfl)).trans hz0
    have hfr2 : ∀ z, z ∉ s_h :: nsOf c l → z ∉ used → R1 z = R z := fun z hz hz2 => g4.frame z (fun hm => hz (List.mem_cons_of_mem _ (kid_ns hkl hm))) hz2
    have hallc : (decide (2 * t - 1 ≤ l.length) :: p).all id = (decide (2 * t - 1 ≤ l.length) && p.all id) := by simp
    rw [hallc]
    cases up with
    | none =>
      obtain ⟨q1, ns', q2, q3⟩ := g4.stays rfl
      have hsk := setKid_node (c := c) (l := l) (k := k) (s := ⟨(kid c l k).h, putI (kid c l k).its it, ns'⟩) hkl rfl (putI_len _ _) hsz
      have hat := setKid_at (a := a) (lo := t - 1) hkl nn h5 h6 hfr q2
      have hcnt : ∀ x, (nsOf (setKid c l k ⟨(kid c l k).h, putI (kid c l k).its it, ns'⟩).1 (setKid c l k ⟨(kid c l k).h, putI (kid c l k).its it, ns'⟩).2).count x = (nsOf c l).count x + used.count x := fun x => by
        have h1 := setKid_ns c l k ⟨(kid c l k).h, putI (kid c l k).its it, ns'⟩ x hkl
        have h2 := q3 x
        dsimp only at h1 h2
        omega
      have hlen := setKid_len c l k ⟨(kid c l k).h, putI (kid c l k).its it, ns'⟩ hkl
      have hhs := setKid_hs c l k ⟨(kid c l k).h, putI (kid c l k).its it, ns'⟩ hkl rfl
      have hits := setKid_its c l k ⟨(kid c l k).h, putI (kid c l k).its it, ns'⟩ hkl
      rw [bins_stay e1 e2 hpl hne hy g1, hsk.1]
      generalize setKid c l k ⟨(kid c l k).h, putI (kid c l k).its it, ns'⟩ = cl at hat hcnt hlen hhs hits ⊢
      obtain ⟨c', l'⟩ := cl
      dsimp only at hat hcnt hlen hhs hits ⊢
      have hn' : s_h ∉ nsOf c' l' := by
        rw [← List.count_eq_zero, hcnt, List.count_eq_zero.2 nh, List.count_eq_zero.2 hhu]
      obtain ⟨b1, b2⟩ := inner_small (lo := lo) (st := st1) ht hrec1 (by omega) (by rw [hhs]; exact h0k) hat.1 hat.2 hn' (by omega)
      refine ⟨_, used, st1, none, b1, g2, ?_, ⟨fun z hz hz2 => ?_, fun z hz => upd_rec (g4.recs z hz), fun _ => ⟨by rw [q1, Bool.and_false], s_h :: nsOf c' l', ?_, fun x => ?_⟩, fun mk mv r e => by cases e⟩⟩
      · rw [g3]
        conv => rhs; unfold tails
        rw [if_neg (by rw [q1]; simp)]
      · rw [updR_other (fun e => hz (by rw [e]; simp)), hfr2 z hz hz2]
      · rw [hput, ← hits]; exact b2
      · simp only [List.count_cons, hcnt]; omega
    | some u =>
      obtain ⟨mk, mv, r⟩ := u
      obtain ⟨q1, L, Q, m, rfl, rfl, q4, rfl, q6, q7, q8, q9⟩ := g4.split _ _ _ rfl
      have hlq : L.its.length + 1 + Q.its.length = (kid c l k).its.length + 1 := by
        have h9 := congrArg List.length q8
        rw [putI_len] at h9
        simp only [List.length_append, List.length_cons] at h9
        omega
      have hsk := insK_node (c := c) (l := l) (k := k) (s := L) (m := m) (r := Q) hkl q4 hlq hsz
      have hat := insK_at (a := a) (lo := t - 1) (m := m) hkl nn h5 h6 hfr q6 q7
      have hcnt : ∀ x, (nsOf (insK c l k L m Q).1 (insK c l k L m Q).2).count x = (nsOf c l).count x + used.count x := fun x => by
        have h1 := insK_ns c l k L m Q x hkl
        have h2 := q9 x
        omega
      have hlen := insK_len c l k L m Q hkl
      have hhs := insK_hs c l k L m Q hkl q4
      have hits := insK_its c l k L m Q hkl
      have hQ0 : Q.h ≠ 0 := fun e => q7.ns_zero hR10 (by rw [← e]; exact ns_pos q7)
      rw [bins_up e1 e2 hpl hne hy g1, hsk.1]
      have hsize := hsk.2
      generalize insK c l k L m Q = cl at hat hcnt hlen hhs hits hsize ⊢
      obtain ⟨c', l'⟩ := cl
      dsimp only at hat hcnt hlen hhs hits hsize ⊢
      have hn' : s_h ∉ nsOf c' l' := by
        rw [← List.count_eq_zero, hcnt, List.count_eq_zero.2 nh, List.count_eq_zero.2 hhu]
      have h0' : 0 ∉ (c'.h :: l'.map (·.2.h)) := fun hm => by
        rw [hhs] at hm
        rcases mem_ins_hs hm with h | h
        · exact hQ0 h.symm
        · exact h0k h
      have hits2 : putI (itsOf c l) it = itsOf c' l' := by rw [hput, q8, hits]
      have htp := tails_all q1
      by_cases hfull : 2 * t - 1 ≤ l.length
      · have htl2 : tails (decide (2 * t - 1 ≤ l.length) :: p) = p.length + 1 := by
          conv => lhs; unfold tails
          rw [if_pos q1, if_pos (decide_eq_true hfull)]
        rw [htl2] at htl ⊢
        obtain ⟨x, st2, rfl⟩ : ∃ x st2, st1 = x :: st2 := by
          cases st1 with
          | nil =>
            rw [g2, List.append_nil, g3, htp] at htl
            omega
          | cons x st2 => exact ⟨x, st2, rfl⟩
        have hxs : x ∈ st := by rw [g2]; simp
        obtain ⟨x1, x2, x3⟩ := hst x hxs
        have hxu : x ∉ used := fun hm => by
          rw [g2] at hsn
          exact (List.nodup_append.1 hsn).2.2 x hm x (by simp) rfl
        have hxh : x ≠ s_h := fun e => x2 (by rw [e]; simp)
        have hxn : x ∉ nsOf c' l' := by
          rw [← List.count_eq_zero, hcnt, List.count_eq_zero.2 (fun hm => x2 (List.mem_cons_of_mem _ hm)), List.count_eq_zero.2 hxu]
        obtain ⟨A, m', d, B, rfl, b1, b2, b3⟩ := inner_great (st := st2) ht hrec1 (g4.recs x x3) (by omega) h0' hat.1 hat.2 hn' hxn hxh (by omega)
        refine ⟨_, used ++ [x], st2, _, b1, by rw [g2]; simp, by rw [List.length_append, g3, htp]; rfl, ⟨fun z hz hz2 => ?_, fun z hz => upd_rec (upd_rec (g4.recs z hz)), (fun e => by cases e), fun mk mv r e => ?_⟩⟩
        · rw [List.mem_append, List.mem_singleton, not_or] at hz2
          rw [updR_other hz2.2, updR_other (fun e => hz (by rw [e]; simp)), hfr2 z hz hz2.1]
        · simp only [Option.some.injEq, Prod.mk.injEq] at e
          obtain ⟨rfl, rfl, rfl⟩ := e
          refine ⟨by rw [q1, decide_eq_true hfull]; rfl, ⟨s_h, itsOf c' A, s_h :: nsOf c' A⟩, ⟨x, itsOf d B, x :: nsOf d B⟩, m', rfl, rfl, rfl, rfl, b2, b3, ?_, fun y => ?_⟩
          · rw [hits2, halves_its]
          · have h9 := hcnt y
            rw [halves_ns, List.count_append] at h9
            simp only [List.count_cons, List.count_append, List.count_nil]
            omega
      · have htl2 : tails (decide (2 * t - 1 ≤ l.length) :: p) = p.length := by
          conv => lhs; unfold tails
          rw [if_pos q1, decide_eq_false hfull]
          rfl
        rw [htl2]
        obtain ⟨b1, b2⟩ := inner_small (lo := lo) (st := st1) ht hrec1 (by omega) h0' hat.1 hat.2 hn' (by omega)
        refine ⟨_, used, st1, none, b1, g2, by rw [g3, htp], ⟨fun z hz hz2 => ?_, fun z hz => upd_rec (g4.recs z hz), fun _ => ⟨by rw [decide_eq_false hfull]; rfl, s_h :: nsOf c' l', ?_, fun x => ?_⟩, fun mk mv r e => by cases e⟩⟩
        · rw [updR_other (fun e => hz (by rw [e]; simp)), hfr2 z hz hz2]
        · rw [hits2]; exact b2
        · simp only [List.count_cons, hcnt]; omega
end
end Bt
end Go.Proofs.YtjcpclcmnhpgpaaGreatDoor
