/-
  The seat's own texts, what PartsPlays wants besides: OpenO, CutP14, CutS14, Spl14, Plays14.
-/
import Derived.Test.YtijpmjaeanocpaaGreatDoorAPf
import Derived.WalkLawsBesides

set_option linter.unusedVariables false
set_option linter.unusedSimpArgs false
namespace Go.Proofs.YtijpmjaeanocpaaGreatDoor
open Go.ChangeShapes Go.WideShapes Go.ChangeAt Go.WideMaps Go.WideElems Go.RowKit Go.Deep
abbrev Cl := Int × Pr
def opsV (l : List Cl) : List Value := l.flatMap fun p => [.int .i64 p.1, .string p.2.1, .string p.2.2]
def OLaw (w : World) (A : Option Addr) (l : List Cl) : Prop := CellsF w (fun b => w.heap.size ≤ b) A (opsV l) ∧ (∀ p ∈ l, (-9223372036854775808 ≤ p.1 ∧ p.1 ≤ 9223372036854775807) ∧ p.2.1.size ≤ 9223372036854775807 ∧ p.2.2.size ≤ 9223372036854775807) ∧ l.length ≤ 9223372036854775807
theorem opsV_at : ∀ (l : List Cl) (k : Nat) (h : k < l.length), (opsV l)[k * 3]? = some (.int .i64 l[k].1) ∧ (opsV l)[k * 3 + 1]? = some (.string l[k].2.1) ∧ (opsV l)[k * 3 + 2]? = some (.string l[k].2.2)
  | p :: l, 0, _ => ⟨rfl, rfl, rfl⟩
  | p :: l, k + 1, h => by
    have := opsV_at l k (by simpa using h)
    rw [show (k + 1) * 3 = k * 3 + 3 by omega]
    exact this
theorem opsV_inv : ∀ {l : List Cl} {j : Nat} {u : Value}, (opsV l)[j]? = some u → ∃ (i : Nat) (hi : i < l.length), (j = i * 3 ∧ u = .int .i64 l[i].1) ∨ (j = i * 3 + 1 ∧ u = .string l[i].2.1) ∨ (j = i * 3 + 2 ∧ u = .string l[i].2.2)
  | [], j, u, h => by simp [opsV] at h
  | p :: l, 0, u, h => by simp [opsV] at h; exact ⟨0, by simp, .inl ⟨rfl, h.symm⟩⟩
  | p :: l, 1, u, h => by simp [opsV] at h; exact ⟨0, by simp, .inr (.inl ⟨rfl, h.symm⟩)⟩
  | p :: l, 2, u, h => by simp [opsV] at h; exact ⟨0, by simp, .inr (.inr ⟨rfl, h.symm⟩)⟩
  | p :: l, j + 3, u, h => by
    obtain ⟨i, hi, hh⟩ := opsV_inv (l := l) (j := j) (u := u) (by simpa [opsV] using h)
    refine ⟨i + 1, by simpa using hi, ?_⟩
    rcases hh with ⟨h1, h2⟩ | ⟨h1, h2⟩ | ⟨h1, h2⟩
    · exact .inl ⟨by omega, h2⟩
    · exact .inr (.inl ⟨by omega, h2⟩)
    · exact .inr (.inr ⟨by omega, h2⟩)
theorem CellsF.ops {w : World} {F : Nat → Prop} {A : Option Addr} {l : List Cl} (h : CellsF w F A (opsV l)) {k : Nat} (hk : k < l.length) : ∃ b o, A = some ⟨b, o, none⟩ ∧ w.cell? ⟨b, o + k * 3, none⟩ = some (.int .i64 l[k].1) ∧ w.cell? ⟨b, o + k * 3 + 1, none⟩ = some (.string l[k].2.1) ∧ w.cell? ⟨b, o + k * 3 + 2, none⟩ = some (.string l[k].2.2) := by
  obtain ⟨h1, h2, h3⟩ := opsV_at l k hk
  obtain ⟨b, o, e, hc⟩ := h.at' h1
  obtain ⟨b', o', e', hc'⟩ := h.at' h2
  obtain ⟨b2, o2, e2, hc2⟩ := h.at' h3
  rw [e] at e' e2
  cases e'
  cases e2
  exact ⟨b, o, e, hc, by rw [Nat.add_assoc]; exact hc', by rw [Nat.add_assoc]; exact hc2⟩
section
variable {H : Type} {enc : TypeId × Value → H} {w : World} {base : Nat} {held : Bool}
set_option maxRecDepth 100000 in
theorem open_ops {t e : TypeId} {f0 f1 : Field} (ht : Tryz.prog.underlying t = some (.slice e)) (he : Tryz.prog.underlying e = some (.struct #[f0, f1])) (ce : Tryz.prog.cellsOf e = 3) (o0 : f0.offset = 0) (o1 : f1.offset = 1)
    (t0 : f0.type = 3) (t1 : f1.type = 33)
    {fuel : Nat} {cs : List Value} {x : DataW H × List MemPlace} (h : DataW.trod enc Tryz.prog w base (fun _ => true) held fuel t cs = some x) : ∃ A len cap l, cs = [.slice A len cap] ∧ len = l.length ∧ OLaw w A l := by
  rcases open_slice ht h with ⟨hcs, _⟩ | ⟨a, len, cap, m, n, D, Pl, hcs, hb, hl, hm, hmm, _, hx⟩
  · exact ⟨none, 0, 0, [], hcs, rfl, .inl rfl, fun p hp => by simp at hp, by simp⟩
  · have hmc : m = cap := by simpa using hmm
    subst hmc
    have hS : ∀ i, ∃ p : Cl, i < m → w.cell? (a.add (i * 3)) = some (.int .i64 p.1) ∧ w.cell? (a.add (i * 3 + 1)) = some (.string p.2.1) ∧ w.cell? (a.add (i * 3 + 2)) = some (.string p.2.2) ∧ (-9223372036854775808 ≤ p.1 ∧ p.1 ≤ 9223372036854775807) ∧ p.2.1.size ≤ maxLen ∧ p.2.2.size ≤ maxLen := fun i => by
      by_cases hi : i < m
      · obtain ⟨cs', h1, h2⟩ := hx i hi
        rw [ce] at h1
        obtain ⟨_, hlen, hcell⟩ := World.cells?_some h1
        obtain ⟨xs, k, hk, hxy, _, hxl, hf⟩ := DataW.trod_struct he h2
        have c0 : Tryz.prog.cellsOf f0.type = 1 := by rw [t0]; kernel_rfl
        have c1 : Tryz.prog.cellsOf f1.type = 2 := by rw [t1]; kernel_rfl
        match xs, hxl, cs', hlen with
        | [y0, y1], _, [v0, v1, v2], _ =>
          have g0 : DataW.trod enc Tryz.prog w base (fun _ => true) held k 3 (([v0, v1, v2].drop 0).take (Tryz.prog.cellsOf 3)) = some y0 := by have h9 := hf 0 f0 rfl; rw [o0, t0] at h9; exact h9
          have g1 : DataW.trod enc Tryz.prog w base (fun _ => true) held k 33 (([v0, v1, v2].drop 1).take (Tryz.prog.cellsOf 33)) = some y1 := by have h9 := hf 1 f1 rfl; rw [o1, t1] at h9; exact h9
          rw [t0] at c0
          rw [t1] at c1
          rw [c0] at g0
          rw [c1] at g1
          simp only [List.drop_zero, List.drop_succ_cons, List.take_succ_cons, List.take_zero] at g0 g1
          have e0 := hcell 0 (by omega)
          have e1 := hcell 1 (by omega)
          have e2 := hcell 2 (by omega)
          rw [Go.Deep.add_add] at e0 e1 e2
          obtain ⟨z, ez, _, bz⟩ := DataW.trod_int Tryz.underlying3 g0
          obtain ⟨ys, k2, hk2, _, _, hyl, hg⟩ := DataW.trod_struct Tryz.underlying33 g1
          match ys, hyl with
          | [u0, u1], _ =>
            have cs0 : Tryz.prog.cellsOf 9 = 1 := by kernel_rfl
            have q0 : DataW.trod enc Tryz.prog w base (fun _ => true) held k2 9 (([v1, v2].drop 0).take (Tryz.prog.cellsOf 9)) = some u0 := hg 0 _ rfl
            have q1 : DataW.trod enc Tryz.prog w base (fun _ => true) held k2 9 (([v1, v2].drop 1).take (Tryz.prog.cellsOf 9)) = some u1 := hg 1 _ rfl
            rw [cs0] at q0 q1
            simp only [List.drop_zero, List.drop_succ_cons, List.take_succ_cons, List.take_zero] at q0 q1
            obtain ⟨s0, es0, _, z0⟩ := DataW.trod_string Tryz.underlying9 q0
            obtain ⟨s1, es1, _, z1⟩ := DataW.trod_string Tryz.underlying9 q1
            simp only [List.cons.injEq, and_true] at ez es0 es1
            subst ez es0 es1
            exact ⟨(z, s0, s1), fun _ => ⟨by simpa using e0, by simpa using e1, by simpa using e2, int_bound bz, z0, z1⟩⟩
      · exact ⟨(0, ⟨#[]⟩, ⟨#[]⟩), fun hh => absurd hh hi⟩
    obtain ⟨f, hf⟩ := Classical.axiomOfChoice hS
    have hll : ((List.range len).map f).length = len := by simp
    unfold maxLen at hm
    refine ⟨some a, len, m, (List.range len).map f, hcs, hll.symm, ?_, ?_, by rw [hll]; omega⟩
    · by_cases h0 : len = 0
      · subst h0; exact .inl rfl
      · obtain ⟨b, off, spot⟩ := a
        have hc0 := (hf 0 (by omega)).1
        have hspot : spot = none := by simpa [Addr.add] using World.cell?_spot hc0
        subst hspot
        have hbl := World.block_lt_of_cell? _ _ hc0
        rw [addr_add] at hbl
        refine .inr ⟨b, off, rfl, hbl, by show ¬ w.heap.size ≤ b; simp only at hbl; omega, fun j u hu => ?_⟩
        obtain ⟨i, hi, hh⟩ := opsV_inv hu
        have hil : i < len := by omega
        obtain ⟨c0, c1, c2, _⟩ := hf i (by omega)
        rw [addr_add] at c0 c1 c2
        have hget : ((List.range len).map f)[i] = f i := by simp
        rcases hh with ⟨rfl, rfl⟩ | ⟨rfl, rfl⟩ | ⟨rfl, rfl⟩
        · rw [c0, hget]
        · rw [c1, hget]
        · rw [c2, hget]
    · intro p hp
      obtain ⟨i, hi, rfl⟩ := List.mem_map.1 hp
      have hil : i < len := by simpa using hi
      obtain ⟨_, _, _, z, z0, z1⟩ := hf i (by omega)
      unfold maxLen at z0 z1
      exact ⟨z, z0, z1⟩
end
end Go.Proofs.YtijpmjaeanocpaaGreatDoor

set_option linter.unusedVariables false
set_option linter.unusedSimpArgs false
namespace Go.Proofs.YtijpmjaeanocpaaGreatDoor
open Go.RowKit Go.Shelf
theorem Ln_off {R R' : Nat → Option (List Nat)} {m : Ln} {ns hs : List Nat} (h : m.At R) (hf : ∀ z, z ∉ ns → R' z = R z) (hn : ∀ z ∈ ns, z ∈ hs) (hd : ∀ z ∈ m.hs, z ∉ hs) : m.At R' := h.congr fun z hz => hf z (fun h9 => hd z hz (hn z h9))
structure Five (rd : Bool) (R : Nat → Option (List Nat)) (a b : ByteArray) (x : BT) (m : Ln) (y : BT) (n : Ln) (z : BT) (l : List Pr) : Prop where
  xa : x.At R
  ma : m.At R
  ya : y.At R
  na : n.At R
  za : z.At R
  xk : BT.Kd rd x
  yk : BT.Kd rd y
  zk : BT.Kd rd z
  nd : (x.hs ++ (m.hs ++ (y.hs ++ (n.hs ++ z.hs)))).Nodup
  prs : x.prs ++ (m.prs ++ (y.prs ++ (n.prs ++ z.prs))) = l
  mky : ∀ p ∈ m.prs, p.1 = a
  nky : ∀ p ∈ n.prs, p.1 = b
  xlow : ∀ p ∈ x.prs, Tx.cmp p.1 a < 0
  yz : ∀ p ∈ y.prs ++ z.prs, Tx.cmp a p.1 < 0
  ylow : ∀ p ∈ y.prs, Tx.cmp p.1 b < 0
  zhigh : ∀ p ∈ z.prs, Tx.cmp b p.1 < 0
section
variable {rd : Bool} {R : Nat → Option (List Nat)} {a b : ByteArray} {x y z : BT} {m n : Ln} {l : List Pr}
theorem Five.first (h : Five rd R a b x m y n z l) {v : ByteArray} : Parted (x.prs ++ (y.prs ++ z.prs)) a x.prs [] (y.prs ++ z.prs) := ⟨rfl, h.xlow, (fun p hp => by cases hp), by simp, h.yz⟩
theorem Five.xb (h : Five rd R a b x m y n z l) (hab : Tx.cmp a b < 0) : ∀ p ∈ x.prs ++ (m.prs ++ y.prs), Tx.cmp p.1 b < 0 := by
  intro p hp
  rcases List.mem_append.1 hp with h1 | h1
  · exact cmp_lt_trans (h.xlow p h1) hab
  · rcases List.mem_append.1 h1 with h2 | h2
    · rw [h.mky p h2]; exact hab
    · exact h.ylow p h2
theorem Five.sum (h : Five rd R a b x m y n z l) : x.prs.length + y.prs.length + z.prs.length + m.prs.length + n.prs.length = l.length := by
  have := congrArg List.length h.prs
  simp only [List.length_append] at this
  omega
theorem Five.rank (h : Five rd R a b x m y n z l) (hab : Tx.cmp a b < 0) : rankL l a = x.prs.length := by
  have hp : Parted l a x.prs m.prs (y.prs ++ (n.prs ++ z.prs)) := ⟨h.prs, h.xlow, h.mky, m.prs_len, fun p hp => by
    rcases List.mem_append.1 hp with h1 | h1
    · exact h.yz p (List.mem_append.2 (.inl h1))
    · rcases List.mem_append.1 h1 with h2 | h2
      · rw [h.nky p h2]; exact hab
      · exact h.yz p (List.mem_append.2 (.inr h2))⟩
  exact hp.rank
end
end Go.Proofs.YtijpmjaeanocpaaGreatDoor

set_option linter.unusedVariables false
set_option linter.unusedSimpArgs false
namespace Go.Proofs.YtijpmjaeanocpaaGreatDoor
open Go.RowKit Go.Shelf
theorem nodup_perm {a b : List Nat} (h : a.Nodup) (e : ∀ x, b.count x = a.count x) : b.Nodup := (List.Perm.nodup_iff (List.perm_iff_count.2 e)).2 h
structure JoinSt (w : World) (s : Nat) (F : Nat → Prop) (R : Nat → Option (List Nat)) (H : List Nat) (P q most last G : Nat) (rd : Bool) (r : BT) (m n : Ln) (l : List Pr) : Prop where
  st : StoreIs w s F R H P q most last G
  z : R 0 = none
  sh : Short R
  at' : r.At R
  mat : m.At R
  nat : n.At R
  kd : BT.Kd rd r
  nd : (r.hs ++ (m.hs ++ n.hs)).Nodup
  prs : r.prs = l
  ris : Rising l
structure HalfSt (w : World) (s : Nat) (F : Nat → Prop) (R : Nat → Option (List Nat)) (H : List Nat) (P q most last G : Nat) (rd : Bool) (t u : BT) (m n : Ln) (l : List Pr) : Prop where
  st : StoreIs w s F R H P q most last G
  z : R 0 = none
  sh : Short R
  pa : t.At R
  qa : u.At R
  mat : m.At R
  nat : n.At R
  pk : BT.Kd rd t
  qk : BT.Kd rd u
  nd : (t.hs ++ (u.hs ++ (m.hs ++ n.hs))).Nodup
  prs : t.prs ++ u.prs = l
  ris : Rising l
structure CutSt (w : World) (s : Nat) (F : Nat → Prop) (R : Nat → Option (List Nat)) (H : List Nat) (P q most last G : Nat) (rd : Bool) (a b : ByteArray) (x : BT) (m : Ln) (y : BT) (n : Ln) (z : BT) (l : List Pr) : Prop where
  st : StoreIs w s F R H P q most last G
  z0 : R 0 = none
  sh : Short R
  five : Five rd R a b x m y n z l
  ris : Rising l
section
variable {w : World} {s : Nat} {F : Nat → Prop} {R : Nat → Option (List Nat)} {H : List Nat} {P q most last G : Nat} {rd : Bool} {a b : ByteArray} {r t u x y z : BT} {m n : Ln} {l : List Pr}
theorem HalfSt.below {w' : World} (h : HalfSt w s F R H P q most last G rd t u m n l) (hb : Below w.heap.size w w') : HalfSt w' s F R H P q most last G rd t u m n l := { h with st := h.st.below hb }
theorem JoinSt.below {w' : World} (h : JoinSt w s F R H P q most last G rd r m n l) (hb : Below w.heap.size w w') : JoinSt w' s F R H P q most last G rd r m n l := { h with st := h.st.below hb }
theorem CutSt.below {w' : World} (h : CutSt w s F R H P q most last G rd a b x m y n z l) (hb : Below w.heap.size w w') : CutSt w' s F R H P q most last G rd a b x m y n z l := { h with st := h.st.below hb }
theorem JoinSt.swap (h : JoinSt w s F R H P q most last G rd r m n l) : JoinSt w s F R H P q most last G rd r n m l :=
  ⟨h.st, h.z, h.sh, h.at', h.nat, h.mat, h.kd, nodup_perm h.nd (fun x => by simp only [List.count_append]; omega), h.prs, h.ris⟩
theorem JoinSt.tree (h : JoinSt w s F R H P q most last G rd r m n l) : ∃ k, TreeR w.heap.size w s R k r l := by
  obtain ⟨k, hT, -⟩ := treeIn h.st h.sh h.z h.at' h.prs h.ris (List.nodup_append.1 h.nd).1
  exact ⟨k, hT⟩
theorem half_at (h : HalfSt w s F R H P q most last G rd t u m n l) (hl : l.length ≤ 100) :
    Calls Tryz.prog 69 #[.pointer (some ⟨s, 0, none⟩), .int .i64 (kindZ rd), .int .u64 (t.root : Nat), .int .u64 (u.root : Nat)] w fun e w' => ∃ (r : BT) (R' : Nat → Option (List Nat)), e = .returned (.tuple #[.int .u64 (r.root : Nat), .int .i64 0]) ∧ JoinSt w' s F R' H P q most last G rd r m n l ∧ Turn w F w' F := by
  have hln := congrArg List.length h.prs
  rw [List.length_append, BT.prs_len, BT.prs_len] at hln
  have hnd : (t.hs ++ u.hs).Nodup := by have h9 := h.nd; rw [← List.append_assoc] at h9; exact (List.nodup_append.1 h9).1
  have hj := paConT_at h.st rd h.z h.sh h.pa h.qa h.pk h.qk hnd (by omega)
  refine hj.mono fun e w' hp => ?_
  obtain ⟨r, R', he, ⟨a1, a2, a3, a4, a5, a6⟩, hkp, hS, hT⟩ := hp
  have h9 := h.nd
  rw [← List.append_assoc] at h9
  obtain ⟨-, -, hd⟩ := List.nodup_append.1 h9
  have hno : ∀ z ∈ t.nodes ++ u.nodes, z ∈ t.hs ++ u.hs := fun z hz => by
    rcases List.mem_append.1 hz with h1 | h1
    · exact List.mem_append.2 (.inl (BT.nodes_hs t z h1))
    · exact List.mem_append.2 (.inr (BT.nodes_hs u z h1))
  refine ⟨r, R', he, ⟨hS, hkp.zero h.z, hkp.short h.sh, a1, ?_, ?_, a2, ?_, ?_, h.ris⟩, hT⟩
  · exact Ln_off h.mat a6 hno (fun z hz h1 => hd z h1 z (List.mem_append.2 (.inl hz)) rfl)
  · exact Ln_off h.nat a6 hno (fun z hz h1 => hd z h1 z (List.mem_append.2 (.inr hz)) rfl)
  · rw [a3]; exact h9
  · rw [a5]; exact h.prs
theorem add_at {A C : List Pr} (h : JoinSt w s F R H P q most last G rd r m n l) (nz : m.root ≠ 0) (hl : l.length ≤ 99) (hp : Parted l a A [] C) (mk : ∀ p ∈ m.prs, p.1 = a) :
    Calls Tryz.prog 17 #[.pointer (some ⟨s, 0, none⟩), .int .i64 (kindZ rd), .int .u64 (r.root : Nat), .int .u64 (m.root : Nat)] w fun e w' => ∃ (t : BT) (R' : Nat → Option (List Nat)), e = .returned (.tuple #[.int .u64 (t.root : Nat), .int .u64 0, .int .i64 0]) ∧ JoinSt w' s F R' H P q most last G rd t .none n (A ++ (m.prs ++ C)) ∧ Turn w F w' F := by
  cases m with
  | none => exact absurd rfl nz
  | one xx kx vx k v =>
    obtain rfl : k = a := mk (k, v) (by simp [Ln.prs])
    have h9 : ((r.hs ++ [xx, kx, vx]) ++ n.hs).Nodup := by have := h.nd; rw [← List.append_assoc] at this; exact this
    obtain ⟨hnd, -, hd⟩ := List.nodup_append.1 h9
    have hsz : r.size ≤ 99 := by rw [← BT.prs_len, h.prs]; exact hl
    have hj := paInsT_at h.st rd h.z h.sh h.at' h.kd h.mat hnd hsz (by rw [h.prs]; exact h.ris)
    refine hj.mono fun e w' hq => ?_
    obtain ⟨t', old, R', he, o, ho, hkp, hS, hT⟩ := hq
    have h0 : old.root = 0 := by
      by_cases h1 : old.root = 0
      · exact h1
      · have h2 := ho.1 h1
        rw [h.prs, hp.find] at h2
        simp at h2
    obtain rfl := Ln.none_of o.oat h0
    have e1 : putL l (k, v) = A ++ ((Ln.one xx kx vx k v).prs ++ C) := by rw [hp.put]; rfl
    have hno : ∀ z ∈ r.nodes ++ [xx], z ∈ r.hs ++ [xx, kx, vx] := fun z hz => by
      rcases List.mem_append.1 hz with h1 | h1
      · exact List.mem_append.2 (.inl (BT.nodes_hs r z h1))
      · exact List.mem_append.2 (.inr (by simp only [List.mem_singleton] at h1; simp [h1]))
    refine ⟨t', R', he, ⟨hS, hkp.zero h.z, hkp.short h.sh, o.at', trivial, ?_, o.kd, ?_, ?_, ?_⟩, hT⟩
    · exact Ln_off h.nat o.frame hno (fun z hz h1 => hd z h1 z hz rfl)
    · have hc := List.perm_iff_count.1 o.hs
      refine nodup_perm h9 (fun x => ?_)
      have := hc x
      simp only [Ln.hs, List.count_append, List.count_nil] at this ⊢
      omega
    · rw [o.prs, h.prs, e1]
    · rw [← e1]; exact putL_rising h.ris _
theorem JoinSt.skip {A C : List Pr} (h : JoinSt w s F R H P q most last G rd r m n l) (nz : m.root = 0) (hl : A ++ C = l) : JoinSt w s F R H P q most last G rd r .none n (A ++ (m.prs ++ C)) := by
  obtain rfl := Ln.none_of h.mat nz
  have : A ++ ((Ln.none).prs ++ C) = l := hl
  rw [this]
  exact h
end
end Go.Proofs.YtijpmjaeanocpaaGreatDoor

set_option linter.unusedVariables false
set_option linter.unusedSimpArgs false
namespace Go.Proofs.YtijpmjaeanocpaaGreatDoor
open Go.RowKit Go.Shelf
theorem ln_pair_at {w : World} {s N n : Nat} {R : Nat → Option (List Nat)} (h : Rd N w s R n) (hsh : Short R) {x kx vx : Nat} {k v : ByteArray} (hm : (Ln.one x kx vx k v).At R) :
    Calls Tryz.prog 68 #[.pointer (some ⟨s, 0, none⟩), .int .u64 (x : Nat)] w fun e w' => e = .returned (.tuple #[.agg #[.string k, .string v], .int .i64 0]) ∧ Below w.heap.size w w' := by
  obtain ⟨nd, hnd⟩ := nodeE_zero.1 hm.e
  have hRx := nodeR_some hnd
  have hnG : nodeG R x = nd := by unfold nodeG; rw [hnd]; rfl
  have hk : nd.key = kx := by rw [← hnG]; exact hm.key
  have hv : nd.val = vx := by rw [← hnG]; exact hm.val
  obtain ⟨p1, p2⟩ := En.At.pair hRx (by rw [hk]; exact hm.kt) (by rw [hv]; exact hm.vt) hm.ks hm.vs
  have hp := pair_at h hsh x (h.u64 hRx).1
  rw [p1, p2] at hp
  exact hp
theorem JoinSt.pa {w : World} {s : Nat} {F : Nat → Prop} {R : Nat → Option (List Nat)} {H : List Nat} {P q most last G : Nat} {rd : Bool} {r : BT} {l : List Pr} (h : JoinSt w s F R H P q most last G rd r .none .none l) (hH : H.length = 3 * l.length) : PaIn w s F R H P q most last G rd r .none l :=
  ⟨h.st, h.z, h.sh, h.at', trivial, h.kd, by have := h.nd; simpa [Ln.hs] using this, h.prs, h.ris, by simpa [Ln.hs] using hH⟩
set_option maxHeartbeats 4000000 in
set_option maxRecDepth 100000 in
theorem split14_at {w : World} {s : Nat} {F : Nat → Prop} {R : Nat → Option (List Nat)} {H : List Nat} {P q most last G : Nat} {rd : Bool} {t : BT} {l : List Pr} (h : PaIn w s F R H P q most last G rd t .none l) (sz : l.length ≤ 60) (key : ByteArray) (hky : key.size ≤ 1000) {A : Option Addr} {c : Nat}
    (hc : CellsF w F A (prsV l)) (hA : A = none → c = 0) (hcl : l.length ≤ c) (hszl : Sized l) :
    Calls Tryz.prog 22 #[.pointer (some ⟨s, 0, none⟩), .int .i64 (kindZ rd), .int .u64 (t.root : Nat), .slice A l.length c, .string key] w fun e w' => ∃ (t' : BT) (R' : Nat → Option (List Nat)), e = .returned (.tuple #[.int .u64 (t'.root : Nat), .bool true]) ∧ PaIn w' s F R' H P q most last G rd t' .none l ∧ Turn w F w' F := by
  have hnd0 := (List.nodup_append.1 h.nd).1
  have hts := h.size
  have hSp := Lib.hid (paSplT_at h.st rd h.z h.sh h.at' h.kd hnd0 (by omega) key hky)
  have hH := Lib.hid h
  have hcH := Lib.hid hc
  have hAH := Lib.hid hA
  have hszH := Lib.hid hszl
  have hHl : Hid (H.length = 3 * l.length) := Lib.hid (by have := h.len; simpa [Ln.hs] using this)
  clear h hc hA hszl hnd0
  go_enter Tryz.func22, Tryz.ntmps22
  go_wp2_with fail
  refine hSp.out.mono ?_
  rintro e w5 ⟨x, m, y, R5, rfl, o, hk5, hS5, hT5⟩
  have hpt := o.parted (by rw [hH.out.prs]; exact hH.out.ris)
  rw [hH.out.prs] at hpt
  have z5 : R5 0 = none := hk5.zero hH.out.z
  have sh5 : Short R5 := hk5.short hH.out.sh
  have nd5 : (x.hs ++ (m.hs ++ y.hs)).Nodup := by rw [o.hs]; exact (List.nodup_append.1 hH.out.nd).1
  have hc5 := hcH.out.turn hT5
  have hF5 := fun b (hf : F b) => hS5.lt hf
  have hHalf : HalfSt w5 s F R5 H P q most last G rd x y m .none (x.prs ++ y.prs) := ⟨hS5, z5, sh5, o.la, o.ra, o.ma, trivial, o.lk, o.rk, nodup_perm nd5 (fun x => by simp only [List.count_append, Ln.hs, List.count_nil]; omega), rfl, by have := hH.out.ris; rw [← hpt.app] at this; exact (List.pairwise_append.2 ⟨rising_left this, rising_right (rising_right this), fun a ha b hb => (List.pairwise_append.1 this).2.2 a ha b (List.mem_append.2 (.inr hb))⟩)⟩
  have hrx : Rising x.prs := by have := hH.out.ris; rw [← hpt.app] at this; exact rising_left this
  have hry : Rising y.prs := by have := hH.out.ris; rw [← hpt.app] at this; exact rising_right (rising_right this)
  obtain ⟨nx, hTx, -⟩ := treeIn hS5 sh5 z5 o.la rfl hrx (List.nodup_append.1 nd5).1
  obtain ⟨ny, hTy, -⟩ := treeIn hS5 sh5 z5 o.ra rfl hry (List.nodup_append.1 (List.nodup_append.1 nd5).2.1).2.1
  have hln : x.prs.length + m.prs.length + y.prs.length = l.length := by rw [← hpt.app]; simp only [List.length_append]; omega
  have hRk := Lib.hid (refRank_at (c := c) hc5.prs (Nat.le_refl _) (by omega) hszH.out key (by omega))
  have hFi := Lib.hid (fun W (hb : Below w5.heap.size w5 W) => refFind_at (c := c) (hc5.prs.below hb) hb.size (by omega) hszH.out key (by omega))
  have hCu := Lib.hid (fun W (hT : Turn w5 F W F) (i j : Nat) (hi : i ≤ l.length) (hj : j ≤ l.length) => refCut_at (c := c) (hc5.turn hT).prs (Nat.le_refl _) hAH.out hcl (by omega) i j hi hj)
  have hI1 := Lib.hid (fun W (hb : Below w5.heap.size w5 W) => paIs_at (c := c) (hTx.below hb) rd o.lk (F := F) (A := A) ((by have := hc5.take' x.prs.length; rwa [← hpt.app, List.take_left] at this : CellsF w5 F A (prsV x.prs)).turn (Turn.below hb)))
  obtain ⟨A5, sl1, sl2, hdr, -⟩ := slice_fromF A l.length (x.prs.length + m.prs.length) c (by omega) hcl
  have hc6 : CellsF w5 F A5 (prsV y.prs) := by have := hdr w5 F l rfl hc5; rwa [← hpt.app, ← List.append_assoc, ← List.length_append, List.drop_left] at this
  have hI2 := Lib.hid (fun W (hb : Below w5.heap.size w5 W) => paIs_at (c := c - (x.prs.length + m.prs.length)) (hTy.below hb) rd o.rk (hc6.turn (Turn.below hb)))
  have hyl : l.length - (x.prs.length + m.prs.length) = y.prs.length := by omega
  rw [hyl] at sl1 sl2
  have hCn := Lib.hid (fun W (hb : Below w5.heap.size w5 W) => half_at (hHalf.below hb) (by rw [List.length_append]; omega))
  have hptH := Lib.hid hpt
  have hT5H := Lib.hid hT5
  have hmA := Lib.hid o.ma
  have hS5H := Lib.hid hS5
  have sh5H := Lib.hid sh5
  have hF5H := Lib.hid hF5
  have hc5H := Lib.hid hc5
  have hrk : rankL l key = x.prs.length := hpt.rank
  rw [hrk] at hRk
  have hfi := hpt.find
  rw [hfi] at hFi
  have hcut := Lib.hid (hpt.cut)
  rw [hrk] at hcut
  clear hrk hfi hSp hHalf hTx hTy hc5 hF5 hdr hc6 z5 sh5 nd5 hrx hry hpt hS5 hT5 o hk5 hcH
  skip
  rcases m with _ | ⟨hx, kx, vx, mk, mv⟩
  · skip
    have m0 : (Ln.none).prs.length = 0 := rfl
    have mr : (Ln.none).root = 0 := rfl
    rw [m0] at hFi hI2 sl1 sl2 hln hcut
    rw [Nat.add_zero] at hI2 sl1 sl2 hln hcut
    rw [mr]
    rw [if_neg (by omega)] at hFi
    go_wp2_with fail
    refine hRk.out.mono ?_
    rintro e w6 ⟨rfl, hb6⟩
    have hb6H := Lib.hid hb6
    clear hb6 hRk
    go_wp2_with fail
    refine (hFi.out _ hb6H.out).mono ?_
    rintro e w7 ⟨rfl, hb7⟩
    have hb7H := Lib.hid (hb6H.out.trans (hb7.mono hb6H.out.size))
    clear hb7 hFi hb6H
    go_wp2_with fail
    refine (hI1.out _ hb7H.out).mono ?_
    rintro e w8 ⟨rfl, hb8⟩
    have hb8H := Lib.hid (hb7H.out.trans (hb8.mono hb7H.out.size))
    clear hb8 hI1 hb7H
    go_wp2_with fail
    refine (hI2.out _ hb8H.out).mono ?_
    rintro e w9 ⟨rfl, hb9⟩
    have hb9H := Lib.hid (hb8H.out.trans (hb9.mono hb8H.out.size))
    clear hb9 hI2 hb8H
    go_wp2_with fail
    refine (hCn.out _ hb9H.out).mono ?_
    rintro e w10 ⟨r, R10, rfl, hj, hT10⟩
    have hjH := Lib.hid hj
    have hT10H := Lib.hid ((Turn.below (F := F) hb9H.out).trans hT10)
    obtain ⟨nr, hTr⟩ := hj.tree
    have hTrH := Lib.hid hTr
    have hkdH := Lib.hid hj.kd
    have hCt := Lib.hid (hCu.out _ hT10H.out x.prs.length (x.prs.length + 0) (by omega) (by omega))
    have hz10 : Hid (∀ b, F b → b < w10.heap.size) := Lib.hid (fun b hf => hj.st.lt hf)
    obtain ⟨xy, hxy⟩ : ∃ xy, x.prs ++ y.prs = xy := ⟨_, rfl⟩
    rw [hxy] at hjH hTrH hcut
    have hxyH := Lib.hid hxy
    clear hxy
    clear hj hT10 hTr hCn hCu hb9H
    rw [Nat.add_zero] at hCt
    go_wp2_with fail
    refine hCt.out.mono ?_
    rintro e w11 ⟨v11, rfl, hro, hb11⟩
    rw [hcut.out] at hro
    obtain ⟨A11, c11, rfl, -, -, hP11⟩ := own_pairs hro rfl
    have hcf := CellsF.own hro hP11 hz10.out
    have hIr := Lib.hid (paIs_at (c := c11) (hTrH.out.below hb11) rd hkdH.out hcf)
    have hb11H := Lib.hid hb11
    clear hro hb11 hP11 hcf hCt hTrH
    go_wp2_with fail
    refine hIr.out.mono ?_
    rintro e w12 ⟨rfl, hb12⟩
    have hb12H := Lib.hid (hb11H.out.trans (hb12.mono hb11H.out.size))
    clear hb12 hIr
    go_wp2
    go_ret2
    have heq : xy = l := by rw [← hxyH.out, ← hptH.out.app]; rfl
    have hj2 := hjH.out
    rw [heq] at hj2
    exact ⟨r, R10, rfl, (hj2.below hb12H.out).pa hHl.out, hT5H.out.trans (hT10H.out.trans (Turn.below hb12H.out))⟩
  · skip
    have m1 : (Ln.one hx kx vx mk mv).prs.length = 1 := rfl
    have mr : (Ln.one hx kx vx mk mv).root = hx := rfl
    have nz : hx ≠ 0 := hmA.out.nz
    have dz : ((hx : Int) != 0) = true := by simp; omega
    have dz2 : ((hx : Int) == 0) = false := by simp; omega
    rw [m1] at hFi hI2 sl1 sl2 hln hcut
    rw [mr]
    rw [if_pos rfl] at hFi
    push_cast at sl1 sl2
    have hkey : mk = key := hptH.out.ky (mk, mv) (by simp [Ln.prs])
    subst hkey
    have hge : decide ((0 : Int) ≤ ((x.prs.length : Nat) : Int)) = true := decide_eq_true (by omega)
    have hgt : decide (((x.prs.length : Nat) : Int) < ((x.prs.length : Nat) : Int) + 1) = true := decide_eq_true (by omega)
    obtain ⟨nn, hrd, -⟩ := hS5H.out.rd
    have hPr := Lib.hid (fun W (hb : Below w5.heap.size w5 W) => ln_pair_at (hrd.below hb) sh5H.out hmA.out)
    have hli : Hid (l[x.prs.length]? = some (mk, mv)) := Lib.hid (by rw [← hptH.out.app, List.getElem?_append_right (Nat.le_refl _), Nat.sub_self]; rfl)
    have hlt : x.prs.length < l.length := by omega
    have hcl5 := Lib.hid (fun W (hb : Below w5.heap.size w5 W) => (hc5H.out.turn (Turn.below (F := F) hb)).pairs hlt)
    rw [List.getElem?_eq_getElem hlt] at hli
    have hli2 : Hid (l[x.prs.length] = (mk, mv)) := Lib.hid (Option.some.inj hli.out)
    rw [hli2.out] at hcl5
    clear hli hrd
    go_wp2_with fail
    refine hRk.out.mono ?_
    rintro e w6 ⟨rfl, hb6⟩
    have hb6H := Lib.hid hb6
    clear hb6 hRk
    go_wp2_with fail
    refine (hFi.out _ hb6H.out).mono ?_
    rintro e w7 ⟨rfl, hb7⟩
    have hb7H := Lib.hid (hb6H.out.trans (hb7.mono hb6H.out.size))
    clear hb7 hFi hb6H
    go_wp2_with fail
    refine (hI1.out _ hb7H.out).mono ?_
    rintro e w8 ⟨rfl, hb8⟩
    have hb8H := Lib.hid (hb7H.out.trans (hb8.mono hb7H.out.size))
    clear hb8 hI1 hb7H
    go_wp2_with fail
    refine (hI2.out _ hb8H.out).mono ?_
    rintro e w9 ⟨rfl, hb9⟩
    have hb9H := Lib.hid (hb8H.out.trans (hb9.mono hb8H.out.size))
    clear hb9 hI2 hb8H
    go_wp2_with fail
    refine (hPr.out _ hb9H.out).mono ?_
    rintro e w9b ⟨rfl, hb9b⟩
    have hb9b2 := hb9H.out.trans (hb9b.mono hb9H.out.size)
    have hz9 := hb9b2.size
    have hb9c := Lib.hid (hb9b2.alloc hz9 (Obj.cells #[.string mk, .string mv] 33))
    obtain ⟨ba, oa, hAs, q1, q2⟩ := hcl5.out _ hb9c.out
    subst hAs
    have hb9bH := Lib.hid hb9b2
    clear hb9b hb9b2 hPr hcl5 hb9H
    go_wp2
    go_quiet (fail)
    have hb9q : Below w5.heap.size w5 ((w9b.alloc (Obj.cells #[.string mk, .string mv] 33)).drewN nq) := hb9c.out.trans ((Tx.drewN_below _ nq).mono hb9c.out.size)
    have hb9qH := Lib.hid hb9q
    clear hb9bH hb9c q1 q2 hb9q
    go_wp2_with fail
    refine (hCn.out _ hb9qH.out).mono ?_
    rintro e w10 ⟨r, R10, rfl, hj, hT10⟩
    have hjH := Lib.hid hj
    have hT10H := Lib.hid ((Turn.below (F := F) hb9qH.out).trans hT10)
    obtain ⟨nr, hTr⟩ := hj.tree
    have hTrH := Lib.hid hTr
    have hkdH := Lib.hid hj.kd
    have hCt := Lib.hid (hCu.out _ hT10H.out x.prs.length (x.prs.length + 1) (by omega) (by omega))
    have hz10 : Hid (∀ b, F b → b < w10.heap.size) := Lib.hid (fun b hf => hj.st.lt hf)
    obtain ⟨xy, hxy⟩ : ∃ xy, x.prs ++ y.prs = xy := ⟨_, rfl⟩
    rw [hxy] at hjH hTrH hcut
    have hxyH := Lib.hid hxy
    clear hxy
    clear hj hT10 hTr hCn hCu hb9qH
    push_cast at hCt
    go_wp2_with fail
    refine hCt.out.mono ?_
    rintro e w11 ⟨v11, rfl, hro, hb11⟩
    rw [hcut.out] at hro
    obtain ⟨A11, c11, rfl, -, -, hP11⟩ := own_pairs hro rfl
    have hcf := CellsF.own hro hP11 hz10.out
    have hIr := Lib.hid (paIs_at (c := c11) (hTrH.out.below hb11) rd hkdH.out hcf)
    have hb11H := Lib.hid hb11
    clear hro hb11 hP11 hcf hCt hTrH
    go_wp2_with fail
    refine hIr.out.mono ?_
    rintro e w12 ⟨rfl, hb12⟩
    have hb12H := Lib.hid (hb11H.out.trans (hb12.mono hb11H.out.size))
    clear hb12 hIr
    have hpn : Parted xy mk x.prs [] y.prs := ⟨hxyH.out, hptH.out.low, (fun p hp => by cases hp), by simp, hptH.out.high⟩
    have hAd := Lib.hid (add_at (hjH.out.below hb12H.out) nz (by rw [← hxyH.out, List.length_append]; omega) hpn (fun p hp => by simp only [Ln.prs, List.mem_singleton] at hp; rw [hp]))
    clear hpn
    go_wp2_with fail
    refine hAd.out.mono ?_
    rintro e w13 ⟨t', R13, rfl, hj13, hT13⟩
    have hj13H := Lib.hid hj13
    have hT13H := Lib.hid hT13
    clear hj13 hT13 hAd
    have heq : x.prs ++ ([(mk, mv)] ++ y.prs) = l := by rw [← hptH.out.app]; rfl
    have hj2 := hj13H.out
    rw [show (Ln.one hx kx vx mk mv).prs = [(mk, mv)] from rfl, heq] at hj2
    have hj2H := Lib.hid hj2
    clear hj2 heq
    go_wp2
    go_ret2
    exact ⟨t', R13, rfl, hj2H.out.pa hHl.out, hT5H.out.trans (hT10H.out.trans ((Turn.below (F := F) hb12H.out).trans hT13H.out))⟩
end Go.Proofs.YtijpmjaeanocpaaGreatDoor

set_option linter.unusedVariables false
set_option linter.unusedSimpArgs false
namespace Go.Proofs.YtijpmjaeanocpaaGreatDoor
open Go.RowKit Go.Shelf
theorem CellsF.into {w w1 : World} {F : Nat → Prop} {A : Option Addr} {vs : List Value} (h : CellsF w (fun b => w.heap.size ≤ b) A vs) (hb : Below w.heap.size w w1) (hF : ∀ b, F b → w.heap.size ≤ b) : CellsF w1 F A vs := by
  rcases h with h | ⟨b, o, h1, h2, h3, h4⟩
  · exact .inl h
  · exact .inr ⟨b, o, h1, Nat.lt_of_lt_of_le h2 hb.size, fun hf => h3 (hF b hf), fun j u hu => (hb.cell (p := ⟨b, o + j, none⟩) (cell_lt (h4 j u hu))).trans (h4 j u hu)⟩
theorem cutLn_mem {l : List Pr} {i j : Nat} {p : Pr} (h : p ∈ cutLn l i j) : p ∈ l := by
  rcases List.mem_append.1 h with h | h
  · exact List.mem_of_mem_take h
  · exact List.mem_of_mem_drop h
def Thin (l : List Pr) : Prop := ∀ p ∈ l, p.1.size ≤ 1000 ∧ p.2.size ≤ 1000
theorem Thin.sized {l : List Pr} (h : Thin l) : Sized l := fun p hp => ⟨by have := (h p hp).1; omega, by have := (h p hp).2; omega⟩
theorem Thin.put {l : List Pr} (h : Thin l) {p : Pr} (h1 : p.1.size ≤ 1000) (h2 : p.2.size ≤ 1000) : Thin (putL l p) := fun q hq => by
  rcases putL_mem hq with rfl | hq
  · exact ⟨h1, h2⟩
  · exact h q hq
theorem Thin.cut {l : List Pr} (h : Thin l) (i j : Nat) : Thin (cutLn l i j) := fun q hq => h q (cutLn_mem hq)
theorem findL_cases (l : List Pr) (k : ByteArray) : (findL l k = -1) ∨ (∃ n : Nat, findL l k = (n : Int) ∧ n < l.length) := by
  unfold findL
  split
  · next h =>
    refine .inr ⟨_, rfl, ?_⟩
    by_cases hl : rankL l k < l.length
    · exact hl
    · rw [List.getElem?_eq_none (by omega)] at h; cases h
  · exact .inl rfl
set_option maxHeartbeats 4000000 in
set_option maxRecDepth 100000 in
theorem plays14_0 {w : World} (hT : Tab w) (k : Int) (z : List Cl) (A : Option Addr) (c : Nat) (hz : z.length ≤ 9223372036854775807) (hg : k < 1 ∨ 2 < k ∨ 60 < z.length) :
    Calls Tryz.prog 3 #[.int .i64 k, .slice A z.length c] w (TrueB w) := by
  have hN := Lib.hid (snew_at hT 262144 1000 4294967295 (by omega) (by omega) (by omega) (by omega) (by omega))
  have hTH := Lib.hid hT
  clear hT
  unfold TrueB
  by_cases q1 : k < 1
  · have d1 : decide (k < 1) = true := decide_eq_true q1
    clear hg
    go_enter Tryz.func3, Tryz.ntmps3
    go_wp2_with fail
    refine hN.out.mono ?_
    rintro e w1 ⟨s, F, rfl, hS, hs1, hF1, hb1⟩
    have hb1H := Lib.hid hb1
    clear hS hF1 hb1 hN
    have hAw := Lib.hid (awake14_at (hTH.out.below hb1H.out (tab_lt hTH.out)))
    go_wp2_with fail
    refine hAw.out.mono ?_
    rintro e w9 ⟨rfl, hb9⟩
    have hb9H := Lib.hid (hb1H.out.trans (hb9.mono hb1H.out.size))
    clear hb9 hAw
    go_wp2
    go_ret
    exact ⟨rfl, hb9H.out⟩
  · have d1 : decide (k < 1) = false := decide_eq_false q1
    by_cases q2 : 2 < k
    · have d2 : decide (2 < k) = true := decide_eq_true q2
      clear hg
      go_enter Tryz.func3, Tryz.ntmps3
      go_wp2_with fail
      refine hN.out.mono ?_
      rintro e w1 ⟨s, F, rfl, hS, hs1, hF1, hb1⟩
      have hb1H := Lib.hid hb1
      clear hS hF1 hb1 hN
      have hAw := Lib.hid (awake14_at (hTH.out.below hb1H.out (tab_lt hTH.out)))
      go_wp2_with fail
      refine hAw.out.mono ?_
      rintro e w9 ⟨rfl, hb9⟩
      have hb9H := Lib.hid (hb1H.out.trans (hb9.mono hb1H.out.size))
      clear hb9 hAw
      go_wp2
      go_ret
      exact ⟨rfl, hb9H.out⟩
    · have d2 : decide (2 < k) = false := decide_eq_false q2
      have q3 : (60 : Int) < (z.length : Int) := by omega
      have d3 : decide ((60 : Int) < (z.length : Int)) = true := decide_eq_true q3
      clear hg
      go_enter Tryz.func3, Tryz.ntmps3
      go_wp2_with fail
      refine hN.out.mono ?_
      rintro e w1 ⟨s, F, rfl, hS, hs1, hF1, hb1⟩
      have hb1H := Lib.hid hb1
      clear hS hF1 hb1 hN
      have hAw := Lib.hid (awake14_at (hTH.out.below hb1H.out (tab_lt hTH.out)))
      go_wp2_with fail
      refine hAw.out.mono ?_
      rintro e w9 ⟨rfl, hb9⟩
      have hb9H := Lib.hid (hb1H.out.trans (hb9.mono hb1H.out.size))
      clear hb9 hAw
      go_wp2
      go_ret
      exact ⟨rfl, hb9H.out⟩
set_option maxHeartbeats 8000000 in
set_option maxRecDepth 100000 in
theorem plays14_main {w : World} (hT : Tab w) (rd : Bool) (z : List Cl) (A : Option Addr) (c : Nat) (h : OLaw w A z) (g1 : z.length ≤ 60) :
    Calls Tryz.prog 3 #[.int .i64 (kindZ rd), .slice A z.length c] w (TrueB w) := by
  have hN := Lib.hid (snew_at hT 262144 1000 4294967295 (by omega) (by omega) (by omega) (by omega) (by omega))
  have hTH := Lib.hid hT
  have d1 : decide ((60 : Int) < (z.length : Int)) = false := decide_eq_false (by omega)
  obtain ⟨dk1, dk2⟩ := kindZ_ok rd
  have hI := Lib.hid (fun (W : World) (F : Nat → Prop) (hb : Below w.heap.size w W) (hF : ∀ b, F b → w.heap.size ≤ b) => h.1.into hb hF)
  have hzs := Lib.hid h.2.1
  clear hT h
  unfold TrueB
  go_enter Tryz.func3, Tryz.ntmps3
  go_wp2_with fail
  refine hN.out.mono ?_
  rintro e w1 ⟨s, F, rfl, hS, hs1, hF1, hb1⟩
  have hb1H := Lib.hid hb1
  have hSt1 := Lib.hid (PaIn.start hS rd)
  have hF1H : Hid (∀ b, F b → w.heap.size ≤ b) := Lib.hid hF1
  have hcf := Lib.hid (hI.out w1 F hb1 hF1)
  clear hS hF1 hb1 hN hI
  go_wp2_with fail
  go_loopw [7, 8, 9] (fun rv lv iv wr => ∃ (k : Nat) (t : BT) (F' : Nat → Prop) (R' : Nat → Option (List Nat)) (H' : List Nat) (l : List Pr) (Al : Option Addr) (cl : Nat), k ≤ z.length ∧ l.length ≤ k ∧ iv = .int .i64 k ∧ rv = .int .u64 (t.root : Nat) ∧ lv = .slice Al l.length cl ∧ Hid (PaIn wr s F' R' H' (9 * k) 262144 1000 4294967295 (3 * k) rd t .none l) ∧ Hid (CellsF wr F' Al (prsV l)) ∧ Hid (Al = none → cl = 0) ∧ Hid (l.length ≤ cl) ∧ Hid (Thin l) ∧ Hid (Turn w1 F wr F')) (fun _ _ iv _ => z.length - (intOf iv).toNat)
  case atStart => exact ⟨0, .nil, F, _, [], [], none, 0, by omega, by simp, rfl, rfl, rfl, by simpa using hSt1, Lib.hid (.inl rfl), Lib.hid (fun _ => rfl), Lib.hid (by simp), Lib.hid (fun p hp => by cases hp), Lib.hid (Turn.refl _ _)⟩
  case round =>
    obtain ⟨k, t, F', R', H', l, Al, cl, hk, hlk, rfl, rfl, rfl, hst, hcl, hAl, hcc, hth, hT'⟩ := hrel
    by_cases hlt : k < z.length
    · obtain ⟨bb, oo, hAs, q1, q2, q3⟩ := (hcf.out.turn hT'.out).ops hlt
      have hzk := hzs.out _ (List.getElem_mem hlt)
      generalize z[k] = p at *
      obtain ⟨d, pk, pv⟩ := p
      simp only at q1 q2 q3 hzk
      obtain ⟨⟨zb1, zb2⟩, zs1, zs2⟩ := hzk
      subst hAs
      obtain ⟨W2, hW2⟩ : ∃ W, W = wr.alloc (Obj.cells #[.int .i64 d, .string pk, .string pv] 35) := ⟨_, rfl⟩
      have hbx := Box.new wr 35 [.int .i64 d, .string pk, .string pv]
      have hb2 : Below wr.heap.size wr W2 := by rw [hW2]; exact (Below.refl _ _).alloc (Nat.le_refl _) _
      have hbx2 : Box W2 wr.heap.size 35 [.int .i64 d, .string pk, .string pv] := by rw [hW2]; exact hbx
      have hFn : ¬ F' wr.heap.size := fun hf => by have := hst.out.st.lt hf; omega
      have c0 := hbx2.at' (i := 0) rfl
      have c1 := hbx2.at' (i := 1) rfl
      have c2 := hbx2.at' (i := 2) rfl
      have hst2 := Lib.hid (hst.out.below hb2)
      have hcl2 := Lib.hid (hcl.out.turn (Turn.below (F := F') hb2))
      have hT2H := Lib.hid (hT'.out.trans (Turn.below (F := F') hb2))
      have hBW := Lib.hid (hb1H.out.trans ((hT2H.out).to_below hb1H.out.size hF1H.out))
      have hbxH := Lib.hid hbx2
      obtain ⟨bx, hbxe⟩ : ∃ b, b = wr.heap.size := ⟨_, rfl⟩
      rw [← hbxe] at hbxH hFn c0 c1 c2
      clear hbx hbx2 hb2 hst hcl hT'
      by_cases hk1 : 1000 < pk.size
      · have dk : decide ((1000 : Int) < (pk.size : Int)) = true := decide_eq_true (by omega)
        have hAw := Lib.hid (awake14_at (hTH.out.below hBW.out (tab_lt hTH.out)))
        go_wp2_with fail
        rw [← hW2, ← hbxe]
        refine hAw.out.mono ?_
        rintro e w9 ⟨rfl, hb9⟩
        have hb9H := Lib.hid (hBW.out.trans (hb9.mono hBW.out.size))
        clear hb9 hAw
        go_wp2
        go_ret
        exact ⟨rfl, hb9H.out⟩
      · have dk : decide ((1000 : Int) < (pk.size : Int)) = false := decide_eq_false (by omega)
        by_cases hv1 : 1000 < pv.size
        · have dv : decide ((1000 : Int) < (pv.size : Int)) = true := decide_eq_true (by omega)
          have hAw := Lib.hid (awake14_at (hTH.out.below hBW.out (tab_lt hTH.out)))
          go_wp2_with fail
          rw [← hW2, ← hbxe]
          refine hAw.out.mono ?_
          rintro e w9 ⟨rfl, hb9⟩
          have hb9H := Lib.hid (hBW.out.trans (hb9.mono hBW.out.size))
          clear hb9 hAw
          go_wp2
          go_ret
          exact ⟨rfl, hb9H.out⟩
        · have dv : decide ((1000 : Int) < (pv.size : Int)) = false := decide_eq_false (by omega)
          have hFi := Lib.hid (refFind_at (c := cl) hcl2.out.prs (Nat.le_refl _) (by omega) hth.out.sized pk (by omega))
          have hfc := findL_cases l pk
          obtain ⟨fz, hfz⟩ : ∃ fz, findL l pk = fz := ⟨_, rfl⟩
          have hfzH := Lib.hid hfz
          rw [hfz] at hFi hfc
          clear hfz
          go_wp2_with fail
          rw [← hW2, ← hbxe]
          refine hFi.out.mono ?_
          rintro e W3 ⟨rfl, hb3⟩
          have hst3 := Lib.hid (hst2.out.below hb3)
          have hcl3 := Lib.hid (hcl2.out.turn (Turn.below (F := F') hb3))
          have hbx3 := Lib.hid (hbxH.out.turn (Turn.below (F := F') hb3) hFn)
          have hT3H := Lib.hid (hT2H.out.trans (Turn.below (F := F') hb3))
          have e0 := hbx3.out.at' (i := 0) rfl
          have e1 := hbx3.out.at' (i := 1) rfl
          have e2 := hbx3.out.at' (i := 2) rfl
          clear c0 c1 c2 hst2 hcl2 hbxH hT2H hb3 hFi hBW hW2 hbxe
          by_cases z1 : d = 1
          · subst z1
            have hlen := hst3.out.len
            simp only [Ln.hs, List.length_nil, Nat.add_zero] at hlen
            have hLf := Lib.hid (leaf14_at hst3.out.st (pk, pv) (by simp only; omega) (by simp only; omega) (by omega) (by omega) (by omega))
            clear hlen
            go_wp2_with fail
            refine hLf.out.mono ?_
            rintro e W4 ⟨x, kx, vx, F2, R2, H2, rfl, gm, hS2, hH2, hT2, hx64⟩
            have hI := Lib.hid (paLeafIns_at hst3.out gm hS2 hH2 (by omega))
            have hbx4 := Lib.hid (hbx3.out.turn hT2 hFn)
            have hFn4 : ¬ F2 bx := hT2.not hbx3.out.lt hFn
            have hcl4 := Lib.hid (hcl3.out.turn hT2)
            have hT4H := Lib.hid (hT3H.out.trans hT2)
            clear gm hS2 hH2 hT2 hLf hst3 hcl3 hT3H e0 e1 e2 hbx3
            go_wp2_with fail
            refine hI.out.mono ?_
            rintro e W5 ⟨t', old, R4, rfl, hst5, ho, hT5⟩
            obtain ⟨ro, hro⟩ : ∃ ro, old.root = ro := ⟨_, rfl⟩
            rw [hro] at ho ⊢
            have hroH := Lib.hid hro
            clear hro
            have hbx5 := Lib.hid (hbx4.out.turn hT5 hFn4)
            have hcl5 := Lib.hid (hcl4.out.turn hT5)
            have hT5H := Lib.hid (hT4H.out.trans hT5)
            have e1 := hbx5.out.at' (i := 1) rfl
            have e2 := hbx5.out.at' (i := 2) rfl
            have hst5H := Lib.hid hst5
            have hoH := Lib.hid ho
            have hPu := Lib.hid (refPut_at (c := cl) hcl5.out.prs (Nat.le_refl _) hAl.out hcc.out (by omega) hth.out.sized (pk, pv) (by simp only; omega))
            have hz5 : Hid (∀ b, F2 b → b < W5.heap.size) := Lib.hid (fun b hf => hst5.st.lt hf)
            clear hst5 ho hT5 hI hbx4 hcl4 hT4H
            have hd1 : (((ro : Int) != 0) = false ∧ decide ((0 : Int) ≤ fz) = false) ∨ (((ro : Int) != 0) = true ∧ decide ((0 : Int) ≤ fz) = true) := by
              rw [← hfzH.out]
              by_cases h0 : ro = 0
              · exact .inl ⟨by simp [h0], decide_eq_false (fun h1 => hoH.out.2 h1 h0)⟩
              · exact .inr ⟨by simp; omega, decide_eq_true (hoH.out.1 h0)⟩
            have hlp : Hid ((putL l (pk, pv)).length ≤ k + 1) := Lib.hid (by have := putL_len l (pk, pv); omega)
            have hthp : Hid (Thin (putL l (pk, pv))) := Lib.hid (hth.out.put (by simp only; omega) (by simp only; omega))
            obtain ⟨l5, hl5⟩ : ∃ l5, putL l (pk, pv) = l5 := ⟨_, rfl⟩
            rw [hl5] at hst5H hPu hlp hthp
            clear hoH hl5 hfc
            rcases hd1 with ⟨d0, dd⟩ | ⟨d0, dd⟩
            · skip
              go_wp2_with fail
              refine hPu.out.mono ?_
              rintro e W5b ⟨v5, rfl, hro, hb5⟩
              obtain ⟨A5, c5, rfl, hA5, hc5, hP5⟩ := own_pairs hro rfl
              have hcl5b := Lib.hid (CellsF.own hro hP5 hz5.out)
              have hst5b := Lib.hid ((hst5H.out.below hb5).more (P' := 9 * (k + 1)) (G' := 3 * (k + 1)) (by omega) (by omega))
              have hT5b := Lib.hid (hT5H.out.trans (Turn.below (F := F2) hb5))
              have hA5H := Lib.hid hA5
              have hc5H := Lib.hid hc5
              clear hst5H hcl5 hT5H hro hb5 hP5 hPu hA5 hc5 hbx5 e1 e2 hz5
              obtain ⟨hcl5, hst5, hT5H, hA5, hc5, hth5, hlk5⟩ := And.intro hcl5b (And.intro hst5b (And.intro hT5b (And.intro hA5H (And.intro hc5H (And.intro hthp hlp)))))
              clear hcl5b hst5b hT5b hA5H hc5H hthp hlp
              have hDr := Lib.hid (paDropIn_at hst5.out)
              rw [hroH.out] at hDr
              go_wp2_with fail
              refine hDr.out.mono ?_
              rintro e W6 ⟨F6, R6, H6, rfl, hst6, hT6⟩
              have hst6H := Lib.hid hst6
              have hcl6 := Lib.hid (hcl5.out.turn hT6)
              have hT6H := Lib.hid (hT5H.out.trans hT6)
              obtain ⟨n6, hTr6, -⟩ := hst6.tree
              have hIs := Lib.hid (paIs_at (c := c5) hTr6 rd hst6.kd hcl6.out)
              have hlen6 : Hid (H6.length = 3 * l5.length) := Lib.hid (by have := hst6.len; simpa [Ln.hs] using this)
              clear hst5 hcl5 hT5H hDr hst6 hT6 hTr6
              go_wp2_with fail
              refine hIs.out.mono ?_
              rintro e W7 ⟨rfl, hb7⟩
              have hst7 := Lib.hid (hst6H.out.below hb7)
              have hcl7 := Lib.hid (hcl6.out.turn (Turn.below (F := F6) hb7))
              have hT7H := Lib.hid (hT6H.out.trans (Turn.below (F := F6) hb7))
              have hAl9 := Lib.hid (sall_at hst7.out.st)
              clear hst6H hcl6 hT6H hIs hb7
              go_wp2_with fail
              refine hAl9.out.mono ?_
              rintro e W8 ⟨v8, Hs, rfl, hpm, hro, hb8⟩
              obtain ⟨A8, c8, rfl⟩ := ownsRow_form hro
              have hlS : Hs.length = 3 * l5.length := by rw [hpm.length_eq, hlen6.out]
              rw [hlS]
              have hst8 := Lib.hid (hst7.out.below hb8)
              have hcl8 := Lib.hid (hcl7.out.turn (Turn.below (F := F6) hb8))
              have hT8H := Lib.hid (hT7H.out.trans (Turn.below (F := F6) hb8))
              clear hst7 hcl7 hT7H hAl9 hpm hro hb8 hlS hlen6
              have hb5 := hlk5.out
              have e9 : (((3 * l5.length : Nat) : Int) == 3 * (l5.length : Int)) = true := by simp
              go_wp2
              go_roundw
              case rel => exact ⟨k + 1, t', F6, R6, H6, l5, A5, c5, by omega, hlk5.out, by go_num, rfl, rfl, hst8, hcl8, hA5, hc5, hth5, hT8H⟩
              case measure => simp [intOf]; omega
            · skip
              go_wp2_with fail
              refine hPu.out.mono ?_
              rintro e W5b ⟨v5, rfl, hro, hb5⟩
              obtain ⟨A5, c5, rfl, hA5, hc5, hP5⟩ := own_pairs hro rfl
              have hcl5b := Lib.hid (CellsF.own hro hP5 hz5.out)
              have hst5b := Lib.hid ((hst5H.out.below hb5).more (P' := 9 * (k + 1)) (G' := 3 * (k + 1)) (by omega) (by omega))
              have hT5b := Lib.hid (hT5H.out.trans (Turn.below (F := F2) hb5))
              have hA5H := Lib.hid hA5
              have hc5H := Lib.hid hc5
              clear hst5H hcl5 hT5H hro hb5 hP5 hPu hA5 hc5 hbx5 e1 e2 hz5
              obtain ⟨hcl5, hst5, hT5H, hA5, hc5, hth5, hlk5⟩ := And.intro hcl5b (And.intro hst5b (And.intro hT5b (And.intro hA5H (And.intro hc5H (And.intro hthp hlp)))))
              clear hcl5b hst5b hT5b hA5H hc5H hthp hlp
              have hDr := Lib.hid (paDropIn_at hst5.out)
              rw [hroH.out] at hDr
              go_wp2_with fail
              refine hDr.out.mono ?_
              rintro e W6 ⟨F6, R6, H6, rfl, hst6, hT6⟩
              have hst6H := Lib.hid hst6
              have hcl6 := Lib.hid (hcl5.out.turn hT6)
              have hT6H := Lib.hid (hT5H.out.trans hT6)
              obtain ⟨n6, hTr6, -⟩ := hst6.tree
              have hIs := Lib.hid (paIs_at (c := c5) hTr6 rd hst6.kd hcl6.out)
              have hlen6 : Hid (H6.length = 3 * l5.length) := Lib.hid (by have := hst6.len; simpa [Ln.hs] using this)
              clear hst5 hcl5 hT5H hDr hst6 hT6 hTr6
              go_wp2_with fail
              refine hIs.out.mono ?_
              rintro e W7 ⟨rfl, hb7⟩
              have hst7 := Lib.hid (hst6H.out.below hb7)
              have hcl7 := Lib.hid (hcl6.out.turn (Turn.below (F := F6) hb7))
              have hT7H := Lib.hid (hT6H.out.trans (Turn.below (F := F6) hb7))
              have hAl9 := Lib.hid (sall_at hst7.out.st)
              clear hst6H hcl6 hT6H hIs hb7
              go_wp2_with fail
              refine hAl9.out.mono ?_
              rintro e W8 ⟨v8, Hs, rfl, hpm, hro, hb8⟩
              obtain ⟨A8, c8, rfl⟩ := ownsRow_form hro
              have hlS : Hs.length = 3 * l5.length := by rw [hpm.length_eq, hlen6.out]
              rw [hlS]
              have hst8 := Lib.hid (hst7.out.below hb8)
              have hcl8 := Lib.hid (hcl7.out.turn (Turn.below (F := F6) hb8))
              have hT8H := Lib.hid (hT7H.out.trans (Turn.below (F := F6) hb8))
              clear hst7 hcl7 hT7H hAl9 hpm hro hb8 hlS hlen6
              have hb5 := hlk5.out
              have e9 : (((3 * l5.length : Nat) : Int) == 3 * (l5.length : Int)) = true := by simp
              go_wp2
              go_roundw
              case rel => exact ⟨k + 1, t', F6, R6, H6, l5, A5, c5, by omega, hlk5.out, by go_num, rfl, rfl, hst8, hcl8, hA5, hc5, hth5, hT8H⟩
              case measure => simp [intOf]; omega
          · by_cases z2 : d = 2
            · subst z2
              have hI := Lib.hid (paDelIn_at hst3.out (by omega) pk (by omega))
              rw [hfzH.out] at hI
              go_wp2_with fail
              refine hI.out.mono ?_
              rintro e W5 ⟨t', old, R4, rfl, hst5, ho, hT5⟩
              obtain ⟨ro, hro⟩ : ∃ ro, old.root = ro := ⟨_, rfl⟩
              rw [hro] at ho ⊢
              have hroH := Lib.hid hro
              clear hro
              have hcl5 := Lib.hid (hcl3.out.turn hT5)
              have hT5H := Lib.hid (hT3H.out.trans hT5)
              have hst5H := Lib.hid hst5
              have hz5 : Hid (∀ b, F' b → b < W5.heap.size) := Lib.hid (fun b hf => hst5.st.lt hf)
              rcases hfc with hfc | ⟨n, hfc, hn⟩
              · rw [hfc, if_neg (by omega)] at hst5H
                have d0 : ((ro : Int) != 0) = false := by
                  by_cases h0 : ro = 0
                  · simp [h0]
                  · exact absurd (ho.1 h0) (by rw [hfc]; omega)
                have dd : decide ((0 : Int) ≤ fz) = false := decide_eq_false (by rw [hfc]; omega)
                have hst5 := Lib.hid (hst5H.out.more (P' := 9 * (k + 1)) (G' := 3 * (k + 1)) (by omega) (by omega))
                obtain ⟨l5, hl5⟩ : ∃ l5, l = l5 := ⟨_, rfl⟩
                obtain ⟨A5, hA5e⟩ : ∃ A5, Al = A5 := ⟨_, rfl⟩
                obtain ⟨c5, hc5e⟩ : ∃ c5, cl = c5 := ⟨_, rfl⟩
                subst hl5 hA5e hc5e
                have hA5 := hAl
                have hc5 := hcc
                have hth5 := hth
                have hlk5 : Hid (l.length ≤ k + 1) := Lib.hid (by omega)
                clear hst5H ho hT5 hI hcl3 hT3H hst3 hbx3 e0 e1 e2 hz5
                have hDr := Lib.hid (paDropIn_at hst5.out)
                rw [hroH.out] at hDr
                go_wp2_with fail
                refine hDr.out.mono ?_
                rintro e W6 ⟨F6, R6, H6, rfl, hst6, hT6⟩
                have hst6H := Lib.hid hst6
                have hcl6 := Lib.hid (hcl5.out.turn hT6)
                have hT6H := Lib.hid (hT5H.out.trans hT6)
                obtain ⟨n6, hTr6, -⟩ := hst6.tree
                have hIs := Lib.hid (paIs_at (c := cl) hTr6 rd hst6.kd hcl6.out)
                have hlen6 : Hid (H6.length = 3 * l.length) := Lib.hid (by have := hst6.len; simpa [Ln.hs] using this)
                clear hst5 hcl5 hT5H hDr hst6 hT6 hTr6
                go_wp2_with fail
                refine hIs.out.mono ?_
                rintro e W7 ⟨rfl, hb7⟩
                have hst7 := Lib.hid (hst6H.out.below hb7)
                have hcl7 := Lib.hid (hcl6.out.turn (Turn.below (F := F6) hb7))
                have hT7H := Lib.hid (hT6H.out.trans (Turn.below (F := F6) hb7))
                have hAl9 := Lib.hid (sall_at hst7.out.st)
                clear hst6H hcl6 hT6H hIs hb7
                go_wp2_with fail
                refine hAl9.out.mono ?_
                rintro e W8 ⟨v8, Hs, rfl, hpm, hro, hb8⟩
                obtain ⟨A8, c8, rfl⟩ := ownsRow_form hro
                have hlS : Hs.length = 3 * l.length := by rw [hpm.length_eq, hlen6.out]
                rw [hlS]
                have hst8 := Lib.hid (hst7.out.below hb8)
                have hcl8 := Lib.hid (hcl7.out.turn (Turn.below (F := F6) hb8))
                have hT8H := Lib.hid (hT7H.out.trans (Turn.below (F := F6) hb8))
                clear hst7 hcl7 hT7H hAl9 hpm hro hb8 hlS hlen6
                have hb5 := hlk5.out
                have e9 : (((3 * l.length : Nat) : Int) == 3 * (l.length : Int)) = true := by simp
                go_wp2
                go_roundw
                case rel => exact ⟨k + 1, t', F6, R6, H6, l, Al, cl, by omega, hlk5.out, by go_num, rfl, rfl, hst8, hcl8, hA5, hc5, hth5, hT8H⟩
                case measure => simp [intOf]; omega
              · rw [hfc, if_pos (by omega), Int.toNat_natCast] at hst5H
                have d0 : ((ro : Int) != 0) = true := by
                  have := ho.2 (by rw [hfc]; omega)
                  simp; omega
                have dd : decide ((0 : Int) ≤ fz) = true := decide_eq_true (by rw [hfc]; omega)
                have hCu := Lib.hid (refCut_at (c := cl) hcl5.out.prs (Nat.le_refl _) hAl.out hcc.out (by omega) n (n + 1) (by omega) (by omega))
                push_cast at hCu
                have hlp : Hid ((cutLn l n (n + 1)).length ≤ k + 1) := Lib.hid (by unfold cutLn; simp only [List.length_append, List.length_take, List.length_drop]; omega)
                have hthp : Hid (Thin (cutLn l n (n + 1))) := Lib.hid (hth.out.cut _ _)
                obtain ⟨l5, hl5⟩ : ∃ l5, cutLn l n (n + 1) = l5 := ⟨_, rfl⟩
                rw [hl5] at hst5H hCu hlp hthp
                subst hfc
                clear hl5 ho hT5 hI hcl3 hT3H hst3 hbx3 e0 e1 e2
                go_wp2_with fail
                refine hCu.out.mono ?_
                rintro e W5b ⟨v5, rfl, hro, hb5⟩
                obtain ⟨A5, c5, rfl, hA5, hc5, hP5⟩ := own_pairs hro rfl
                have hcl5b := Lib.hid (CellsF.own hro hP5 hz5.out)
                have hst5b := Lib.hid ((hst5H.out.below hb5).more (P' := 9 * (k + 1)) (G' := 3 * (k + 1)) (by omega) (by omega))
                have hT5b := Lib.hid (hT5H.out.trans (Turn.below (F := F') hb5))
                have hA5H := Lib.hid hA5
                have hc5H := Lib.hid hc5
                clear hst5H hcl5 hT5H hro hb5 hP5 hCu hA5 hc5 hz5
                obtain ⟨hcl5, hst5, hT5H, hA5, hc5, hth5, hlk5⟩ := And.intro hcl5b (And.intro hst5b (And.intro hT5b (And.intro hA5H (And.intro hc5H (And.intro hthp hlp)))))
                clear hcl5b hst5b hT5b hA5H hc5H hthp hlp
                have hDr := Lib.hid (paDropIn_at hst5.out)
                rw [hroH.out] at hDr
                go_wp2_with fail
                refine hDr.out.mono ?_
                rintro e W6 ⟨F6, R6, H6, rfl, hst6, hT6⟩
                have hst6H := Lib.hid hst6
                have hcl6 := Lib.hid (hcl5.out.turn hT6)
                have hT6H := Lib.hid (hT5H.out.trans hT6)
                obtain ⟨n6, hTr6, -⟩ := hst6.tree
                have hIs := Lib.hid (paIs_at (c := c5) hTr6 rd hst6.kd hcl6.out)
                have hlen6 : Hid (H6.length = 3 * l5.length) := Lib.hid (by have := hst6.len; simpa [Ln.hs] using this)
                clear hst5 hcl5 hT5H hDr hst6 hT6 hTr6
                go_wp2_with fail
                refine hIs.out.mono ?_
                rintro e W7 ⟨rfl, hb7⟩
                have hst7 := Lib.hid (hst6H.out.below hb7)
                have hcl7 := Lib.hid (hcl6.out.turn (Turn.below (F := F6) hb7))
                have hT7H := Lib.hid (hT6H.out.trans (Turn.below (F := F6) hb7))
                have hAl9 := Lib.hid (sall_at hst7.out.st)
                clear hst6H hcl6 hT6H hIs hb7
                go_wp2_with fail
                refine hAl9.out.mono ?_
                rintro e W8 ⟨v8, Hs, rfl, hpm, hro, hb8⟩
                obtain ⟨A8, c8, rfl⟩ := ownsRow_form hro
                have hlS : Hs.length = 3 * l5.length := by rw [hpm.length_eq, hlen6.out]
                rw [hlS]
                have hst8 := Lib.hid (hst7.out.below hb8)
                have hcl8 := Lib.hid (hcl7.out.turn (Turn.below (F := F6) hb8))
                have hT8H := Lib.hid (hT7H.out.trans (Turn.below (F := F6) hb8))
                clear hst7 hcl7 hT7H hAl9 hpm hro hb8 hlS hlen6
                have hb5 := hlk5.out
                have e9 : (((3 * l5.length : Nat) : Int) == 3 * (l5.length : Int)) = true := by simp
                go_wp2
                go_roundw
                case rel => exact ⟨k + 1, t', F6, R6, H6, l5, A5, c5, by omega, hlk5.out, by go_num, rfl, rfl, hst8, hcl8, hA5, hc5, hth5, hT8H⟩
                case measure => simp [intOf]; omega
            · by_cases z3 : d = 3
              · subst z3
                have hI := Lib.hid (split14_at hst3.out (by omega) pk (by omega) hcl3.out hAl.out hcc.out hth.out.sized)
                clear hfc
                go_wp2_with fail
                refine hI.out.mono ?_
                rintro e W5 ⟨t', R4, rfl, hst5b, hT5⟩
                have hcl5 := Lib.hid (hcl3.out.turn hT5)
                have hT5H := Lib.hid (hT3H.out.trans hT5)
                have hst5 := Lib.hid (hst5b.more (P' := 9 * (k + 1)) (G' := 3 * (k + 1)) (by omega) (by omega))
                have hA5 := hAl
                have hc5 := hcc
                have hth5 := hth
                have hlk5 : Hid (l.length ≤ k + 1) := Lib.hid (by omega)
                clear hst5b hT5 hI hcl3 hT3H hst3 hbx3 e0 e1 e2
                have hDr := Lib.hid (paDropIn_at hst5.out)
                rw [show (Ln.none).root = 0 from rfl, show ((0 : Nat) : Int) = 0 from rfl] at hDr
                go_wp2_with fail
                refine hDr.out.mono ?_
                rintro e W6 ⟨F6, R6, H6, rfl, hst6, hT6⟩
                have hst6H := Lib.hid hst6
                have hcl6 := Lib.hid (hcl5.out.turn hT6)
                have hT6H := Lib.hid (hT5H.out.trans hT6)
                obtain ⟨n6, hTr6, -⟩ := hst6.tree
                have hIs := Lib.hid (paIs_at (c := cl) hTr6 rd hst6.kd hcl6.out)
                have hlen6 : Hid (H6.length = 3 * l.length) := Lib.hid (by have := hst6.len; simpa [Ln.hs] using this)
                clear hst5 hcl5 hT5H hDr hst6 hT6 hTr6
                go_wp2_with fail
                refine hIs.out.mono ?_
                rintro e W7 ⟨rfl, hb7⟩
                have hst7 := Lib.hid (hst6H.out.below hb7)
                have hcl7 := Lib.hid (hcl6.out.turn (Turn.below (F := F6) hb7))
                have hT7H := Lib.hid (hT6H.out.trans (Turn.below (F := F6) hb7))
                have hAl9 := Lib.hid (sall_at hst7.out.st)
                clear hst6H hcl6 hT6H hIs hb7
                go_wp2_with fail
                refine hAl9.out.mono ?_
                rintro e W8 ⟨v8, Hs, rfl, hpm, hro, hb8⟩
                obtain ⟨A8, c8, rfl⟩ := ownsRow_form hro
                have hlS : Hs.length = 3 * l.length := by rw [hpm.length_eq, hlen6.out]
                rw [hlS]
                have hst8 := Lib.hid (hst7.out.below hb8)
                have hcl8 := Lib.hid (hcl7.out.turn (Turn.below (F := F6) hb8))
                have hT8H := Lib.hid (hT7H.out.trans (Turn.below (F := F6) hb8))
                clear hst7 hcl7 hT7H hAl9 hpm hro hb8 hlS hlen6
                have hb5 := hlk5.out
                have e9 : (((3 * l.length : Nat) : Int) == 3 * (l.length : Int)) = true := by simp
                go_wp2
                go_roundw
                case rel => exact ⟨k + 1, t', F6, R6, H6, l, Al, cl, by omega, hlk5.out, by go_num, rfl, rfl, hst8, hcl8, hA5, hc5, hth5, hT8H⟩
                case measure => simp [intOf]; omega
              · have w1 : (d == 1) = false := by simp [z1]
                have w2 : (d == 2) = false := by simp [z2]
                have w3 : (d == 3) = false := by simp [z3]
                have hst9 := Lib.hid (hst3.out.more (P' := 9 * (k + 1)) (G' := 3 * (k + 1)) (by omega) (by omega))
                clear hst3 hfc hbx3 e1 e2
                go_wp2
                go_roundw
                case rel => exact ⟨k + 1, t, F', R', H', l, Al, cl, by omega, by omega, by go_num, rfl, rfl, hst9, hcl3, hAl, hcc, hth, hT3H⟩
                case measure => simp [intOf]; omega
    · obtain rfl : k = z.length := by omega
      have hbw := Lib.hid (hb1H.out.trans (hT'.out.to_below hb1H.out.size hF1H.out))
      have hAw := Lib.hid (awake14_at (hTH.out.below hbw.out (tab_lt hTH.out)))
      go_wp2_with fail
      refine hAw.out.mono ?_
      rintro e w9 ⟨rfl, hb9⟩
      have hb9H := Lib.hid (hbw.out.trans (hb9.mono hbw.out.size))
      clear hb9 hAw
      go_wp2
      go_ret
      exact ⟨rfl, hb9H.out⟩
end Go.Proofs.YtijpmjaeanocpaaGreatDoor
