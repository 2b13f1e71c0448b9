/-
  The seat's own texts, what PartsCut wants besides: RankP, CutP14, CutS14, Cut14.
-/
import Derived.Test.YtjpmlneihbckpaaGreatDoorPe
import Derived.WalkLawsBesides
/- Ranks and the order of strings: plain law. -/
set_option linter.unusedVariables false
set_option linter.unusedSimpArgs false
namespace Go.Proofs.YtjpmlneihbckpaaGreatDoor
open Go.RowKit Go.Shelf
theorem less_cmp : ∀ a b : List UInt8, Op.bytesLess a b = decide (Lib.compareBytes a b < 0)
  | [], [] => rfl
  | [], _ :: _ => rfl
  | _ :: _, [] => rfl
  | a :: ar, b :: bs => by
    rw [Op.bytesLess, Lib.compareBytes]
    by_cases h1 : a < b
    · simp [h1]
    · by_cases h2 : b < a
      · have : (a == b) = false := by
          rw [beq_eq_false_iff_ne]; rintro rfl; exact h1 h2
        simp [h1, h2, this]
      · have : a = b := Tx.u8_eq h1 h2
        subst this
        simp [h1, less_cmp ar bs]
theorem cb_zero_byte : ∀ p a : List UInt8, Lib.compareBytes p (a ++ [0]) < 0 ↔ Lib.compareBytes p a ≤ 0
  | [], [] => by simp [Lib.compareBytes]
  | [], _ :: _ => by simp [Lib.compareBytes]
  | c :: cs, [] => by
    have h1 : ¬ c < 0 := by simp [UInt8.lt_iff_toNat_lt]
    simp only [List.nil_append, Lib.compareBytes, if_neg h1]
    constructor
    · intro h
      split at h
      · omega
      · cases cs <;> simp [Lib.compareBytes] at h
    · intro h; omega
  | c :: cs, b :: bs => by
    simp only [List.cons_append, Lib.compareBytes]
    by_cases h1 : c < b
    · simp [h1]
    · by_cases h2 : b < c
      · simp [h1, h2]
      · simp only [if_neg h1, if_neg h2]
        exact cb_zero_byte cs bs
theorem cmp_zero_byte (p a : ByteArray) : Tx.cmp p (a ++ ⟨#[0]⟩) < 0 ↔ Tx.cmp p a ≤ 0 := by
  unfold Tx.cmp
  rw [show (a ++ (⟨#[0]⟩ : ByteArray)).data.toList = a.data.toList ++ [0] by rw [ByteArray.data_append]; simp]
  exact cb_zero_byte _ _
theorem rank_mono {l : List Pr} {a b : ByteArray} (h : Tx.cmp a b ≤ 0) : rankL l a ≤ rankL l b := by
  unfold rankL
  refine List.countP_mono_left fun p _ hp => ?_
  have hp := of_decide_eq_true hp
  refine decide_eq_true ?_
  by_cases h0 : Tx.cmp a b = 0
  · rw [← cmp_zero.1 h0]; exact hp
  · exact cmp_lt_trans hp (by omega)
theorem rank_zero {l : List Pr} (h : Rising l) (a : ByteArray) : rankL l (a ++ ⟨#[0]⟩) = rankL l a + if hasK l a then 1 else 0 := by
  obtain ⟨h1, h2⟩ := rank_split (k := a) h
  have hle := rankL_le l a
  have hk : hasK l a ↔ (l[rankL l a]?).map (·.1) = some a := Iff.rfl
  rw [show (if hasK l a then 1 else 0) = (if (l[rankL l a]?).map (·.1) = some a then 1 else 0) from rfl]
  clear hk
  generalize rankL l a = r at *
  have hsplit : rankL l (a ++ ⟨#[0]⟩) = rankL (l.take r) (a ++ ⟨#[0]⟩) + rankL (l.drop r) (a ++ ⟨#[0]⟩) := by
    rw [← rankL_append, List.take_append_drop]
  have ht : rankL (l.take r) (a ++ ⟨#[0]⟩) = r := by
    rw [rankL_all (fun p hp => (cmp_zero_byte _ _).2 (by have := h1 p hp; omega)), List.length_take]
    omega
  rw [hsplit, ht]
  congr 1
  by_cases hlt : r < l.length
  · have hd := List.drop_eq_getElem_cons hlt
    have hr : Rising (l.drop r) := List.Pairwise.sublist (List.drop_sublist r l) h
    rw [hd] at h2 hr ⊢
    have hr' := List.pairwise_cons.1 hr
    have hd0 := h2 l[r] List.mem_cons_self
    have hrest : rankL (l.drop (r + 1)) (a ++ ⟨#[0]⟩) = 0 := by
      refine rankL_none fun q hq e => ?_
      have h3 := hr'.1 q hq
      have h4 := (cmp_zero_byte _ _).1 e
      have h5 := cmp_swap q.1 a
      by_cases h6 : Tx.cmp q.1 a = 0
      · rw [cmp_zero.1 h6] at h3; exact hd0 h3
      · exact hd0 (cmp_lt_trans h3 (by omega))
    rw [rankL_cons, hrest, List.getElem?_eq_getElem hlt]
    simp only [Option.map_some, Option.some.injEq, Nat.zero_add]
    by_cases he : l[r].1 = a
    · rw [if_pos he, if_pos ((cmp_zero_byte _ _).2 (by have := (cmp_zero (a := l[r].1) (b := a)).2 he; omega))]
    · rw [if_neg he, if_neg]
      intro e
      have h4 := (cmp_zero_byte _ _).1 e
      have : Tx.cmp l[r].1 a ≠ 0 := fun e => he (cmp_zero.1 e)
      omega
  · rw [List.drop_eq_nil_of_le (by omega), List.getElem?_eq_none (by omega)]
    simp [rankL]
/-- what a law's guard lets by: too many, or a long text: awake -/
theorem str_less (a b : ByteArray) : Op.bytesLess a.toList b.toList = decide (Tx.cmp a b < 0) := by
  rw [Tx.toList_eq, Tx.toList_eq, less_cmp]; rfl
end Go.Proofs.YtjpmlneihbckpaaGreatDoor
/- A tree that is cut twice, and put together again: plain law. -/
set_option linter.unusedVariables false
set_option linter.unusedSimpArgs false
namespace Go.Proofs.YtjpmlneihbckpaaGreatDoor
open Go.RowKit Go.Shelf
theorem At_off {R R' : Nat → Option (List Nat)} {t : BT} {ns hs : List Nat} (h : t.At R) (hf : ∀ z, z ∉ ns → R' z = R z) (hn : ∀ z ∈ ns, z ∈ hs) (hd : ∀ z ∈ t.hs, z ∉ hs) : t.At R' := h.congr fun z hz => hf z (fun h9 => hd z hz (hn z h9))
theorem Ln_off {R R' : Nat → Option (List Nat)} {m : Ln} {ns hs : List Nat} (h : m.At R) (hf : ∀ z, z ∉ ns → R' z = R z) (hn : ∀ z ∈ ns, z ∈ hs) (hd : ∀ z ∈ m.hs, z ∉ hs) : m.At R' := h.congr fun z hz => hf z (fun h9 => hd z hz (hn z h9))
/-- five pieces -/
structure Five (rd : Bool) (R : Nat → Option (List Nat)) (a b : ByteArray) (x : BT) (m : Ln) (y : BT) (n : Ln) (z : BT) (l : List Pr) : Prop where
  xa : x.At R
  ma : m.At R
  ya : y.At R
  na : n.At R
  za : z.At R
  xk : BT.Kd rd x
  yk : BT.Kd rd y
  zk : BT.Kd rd z
  nd : (x.hs ++ (m.hs ++ (y.hs ++ (n.hs ++ z.hs)))).Nodup
  prs : x.prs ++ (m.prs ++ (y.prs ++ (n.prs ++ z.prs))) = l
  mky : ∀ p ∈ m.prs, p.1 = a
  nky : ∀ p ∈ n.prs, p.1 = b
  xlow : ∀ p ∈ x.prs, Tx.cmp p.1 a < 0
  yz : ∀ p ∈ y.prs ++ z.prs, Tx.cmp a p.1 < 0
  ylow : ∀ p ∈ y.prs, Tx.cmp p.1 b < 0
  zhigh : ∀ p ∈ z.prs, Tx.cmp b p.1 < 0
theorem five_of {rd : Bool} {R R1 R2 : Nat → Option (List Nat)} {a b : ByteArray} {t x y0 y z : BT} {m n : Ln} (hn : t.hs.Nodup) (hr : Rising t.prs) (o1 : CutOut rd R R1 a t x m y0) (o2 : CutOut rd R1 R2 b y0 y n z) : Five rd R2 a b x m y n z t.prs := by
  have e1 := o1.hs
  have e2 := o2.hs
  have nd : (x.hs ++ (m.hs ++ y0.hs)).Nodup := by rw [e1]; exact hn
  obtain ⟨n1, n2, n3⟩ := List.nodup_append.1 nd
  obtain ⟨n4, n5, n6⟩ := List.nodup_append.1 n2
  have hr1 : Rising (x.prs ++ (m.prs ++ y0.prs)) := by rw [o1.prs]; exact hr
  have hry : Rising y0.prs := rising_right (rising_right hr1)
  have hi := o1.high hr
  have hin : ∀ p, p ∈ y.prs ∨ p ∈ z.prs → p ∈ y0.prs := fun p hp => by
    rw [← o2.prs]; simp only [List.mem_append]; rcases hp with h | h <;> simp [h]
  refine ⟨?_, ?_, o2.la, o2.ma, o2.ra, o1.lk, o2.lk, o2.rk, ?_, ?_, o1.ky, o2.ky, o1.low hr, ?_, o2.low hry, o2.high hry⟩
  · exact At_off o1.la o2.frame (fun z hz => BT.nodes_hs y0 z hz) (fun z hz h => n3 z hz z (List.mem_append.2 (.inr h)) rfl)
  · exact Ln_off o1.ma o2.frame (fun z hz => BT.nodes_hs y0 z hz) (fun z hz h => n6 z hz z h rfl)
  · rw [e2, e1]; exact hn
  · rw [o2.prs, o1.prs]
  · intro p hp
    rcases List.mem_append.1 hp with h | h
    · exact hi p (hin p (.inl h))
    · exact hi p (hin p (.inr h))
section
variable {rd : Bool} {R : Nat → Option (List Nat)} {a b : ByteArray} {x y z : BT} {m n : Ln} {l : List Pr}
theorem Five.first (h : Five rd R a b x m y n z l) {v : ByteArray} : Parted (x.prs ++ (y.prs ++ z.prs)) a x.prs [] (y.prs ++ z.prs) := ⟨rfl, h.xlow, (fun p hp => by cases hp), by simp, h.yz⟩
theorem Five.xb (h : Five rd R a b x m y n z l) (hab : Tx.cmp a b < 0) : ∀ p ∈ x.prs ++ (m.prs ++ y.prs), Tx.cmp p.1 b < 0 := by
  intro p hp
  rcases List.mem_append.1 hp with h1 | h1
  · exact cmp_lt_trans (h.xlow p h1) hab
  · rcases List.mem_append.1 h1 with h2 | h2
    · rw [h.mky p h2]; exact hab
    · exact h.ylow p h2
theorem Five.second (h : Five rd R a b x m y n z l) (hab : Tx.cmp a b < 0) : Parted ((x.prs ++ (m.prs ++ y.prs)) ++ z.prs) b (x.prs ++ (m.prs ++ y.prs)) [] z.prs := ⟨rfl, h.xb hab, (fun p hp => by cases hp), by simp, h.zhigh⟩
theorem Five.sum (h : Five rd R a b x m y n z l) : x.prs.length + y.prs.length + z.prs.length + m.prs.length + n.prs.length = l.length := by
  have := congrArg List.length h.prs
  simp only [List.length_append] at this
  omega
theorem Five.rank (h : Five rd R a b x m y n z l) (hab : Tx.cmp a b < 0) : rankL l a = x.prs.length := by
  have hp : Parted l a x.prs m.prs (y.prs ++ (n.prs ++ z.prs)) := ⟨h.prs, h.xlow, h.mky, m.prs_len, fun p hp => by
    rcases List.mem_append.1 hp with h1 | h1
    · exact h.yz p (List.mem_append.2 (.inl h1))
    · rcases List.mem_append.1 h1 with h2 | h2
      · rw [h.nky p h2]; exact hab
      · exact h.yz p (List.mem_append.2 (.inr h2))⟩
  exact hp.rank
end
end Go.Proofs.YtjpmlneihbckpaaGreatDoor
/- A tree cut in five pieces, and joined again: the calls. -/
set_option linter.unusedVariables false
set_option linter.unusedSimpArgs false
namespace Go.Proofs.YtjpmlneihbckpaaGreatDoor
open Go.RowKit Go.Shelf
theorem nodup_perm {a b : List Nat} (h : a.Nodup) (e : ∀ x, b.count x = a.count x) : b.Nodup := (List.Perm.nodup_iff (List.perm_iff_count.2 e)).2 h
theorem Ln.nil_prs {R : Nat → Option (List Nat)} {m : Ln} (h : m.At R) (h0 : m.root = 0) : m.prs = [] := by
  rw [Ln.none_of h h0]; rfl
theorem one_ln {R : Nat → Option (List Nat)} {m : Ln} (h : m.At R) (W : World) : Calls Tryz.prog 38 #[.int .u64 (m.root : Nat)] W fun e w' => e = .returned (.int .i64 (m.prs.length : Nat)) ∧ W = w' := by
  have h1 := paOne_at m.root W
  cases m with
  | none => exact h1
  | one x kx vx k v =>
    have h2 : (Ln.one x kx vx k v).root ≠ 0 := h.nz
    rw [if_neg h2] at h1
    exact h1
/-- one tree, and two nodes that lie apart -/
structure JoinSt (w : World) (s : Nat) (F : Nat → Prop) (R : Nat → Option (List Nat)) (H : List Nat) (P q most last G : Nat) (rd : Bool) (r : BT) (m n : Ln) (l : List Pr) : Prop where
  st : StoreIs w s F R H P q most last G
  z : R 0 = none
  sh : Short R
  at' : r.At R
  mat : m.At R
  nat : n.At R
  kd : BT.Kd rd r
  nd : (r.hs ++ (m.hs ++ n.hs)).Nodup
  prs : r.prs = l
  ris : Rising l
/-- two trees, and two nodes that lie apart -/
structure HalfSt (w : World) (s : Nat) (F : Nat → Prop) (R : Nat → Option (List Nat)) (H : List Nat) (P q most last G : Nat) (rd : Bool) (t u : BT) (m n : Ln) (l : List Pr) : Prop where
  st : StoreIs w s F R H P q most last G
  z : R 0 = none
  sh : Short R
  pa : t.At R
  qa : u.At R
  mat : m.At R
  nat : n.At R
  pk : BT.Kd rd t
  qk : BT.Kd rd u
  nd : (t.hs ++ (u.hs ++ (m.hs ++ n.hs))).Nodup
  prs : t.prs ++ u.prs = l
  ris : Rising l
/-- the five pieces in the store -/
structure CutSt (w : World) (s : Nat) (F : Nat → Prop) (R : Nat → Option (List Nat)) (H : List Nat) (P q most last G : Nat) (rd : Bool) (a b : ByteArray) (x : BT) (m : Ln) (y : BT) (n : Ln) (z : BT) (l : List Pr) : Prop where
  st : StoreIs w s F R H P q most last G
  z0 : R 0 = none
  sh : Short R
  five : Five rd R a b x m y n z l
  ris : Rising l
section
variable {w : World} {s : Nat} {F : Nat → Prop} {R : Nat → Option (List Nat)} {H : List Nat} {P q most last G : Nat} {rd : Bool} {a b : ByteArray} {r t u x y z : BT} {m n : Ln} {l : List Pr}
theorem HalfSt.below {w' : World} (h : HalfSt w s F R H P q most last G rd t u m n l) (hb : Below w.heap.size w w') : HalfSt w' s F R H P q most last G rd t u m n l := { h with st := h.st.below hb }
theorem JoinSt.below {w' : World} (h : JoinSt w s F R H P q most last G rd r m n l) (hb : Below w.heap.size w w') : JoinSt w' s F R H P q most last G rd r m n l := { h with st := h.st.below hb }
theorem CutSt.below {w' : World} (h : CutSt w s F R H P q most last G rd a b x m y n z l) (hb : Below w.heap.size w w') : CutSt w' s F R H P q most last G rd a b x m y n z l := { h with st := h.st.below hb }
theorem JoinSt.swap (h : JoinSt w s F R H P q most last G rd r m n l) : JoinSt w s F R H P q most last G rd r n m l :=
  ⟨h.st, h.z, h.sh, h.at', h.nat, h.mat, h.kd, nodup_perm h.nd (fun x => by simp only [List.count_append]; omega), h.prs, h.ris⟩
theorem JoinSt.tree (h : JoinSt w s F R H P q most last G rd r m n l) : ∃ k, TreeR w.heap.size w s R k r l := by
  obtain ⟨k, hT, -⟩ := treeIn h.st h.sh h.z h.at' h.prs h.ris (List.nodup_append.1 h.nd).1
  exact ⟨k, hT⟩
theorem CutSt.treex (h : CutSt w s F R H P q most last G rd a b x m y n z l) : ∃ k, TreeR w.heap.size w s R k x x.prs := by
  have hr : Rising x.prs := by have := h.ris; rw [← h.five.prs] at this; exact (List.pairwise_append.1 this).1
  obtain ⟨k, hT, -⟩ := treeIn h.st h.sh h.z0 h.five.xa rfl hr (List.nodup_append.1 h.five.nd).1
  exact ⟨k, hT⟩
theorem CutSt.treey (h : CutSt w s F R H P q most last G rd a b x m y n z l) : ∃ k, TreeR w.heap.size w s R k y y.prs := by
  have hr : Rising y.prs := by have := h.ris; rw [← h.five.prs] at this; exact (List.pairwise_append.1 (rising_right (rising_right this))).1
  have hn := (List.nodup_append.1 (List.nodup_append.1 (List.nodup_append.1 h.five.nd).2.1).2.1).1
  obtain ⟨k, hT, -⟩ := treeIn h.st h.sh h.z0 h.five.ya rfl hr hn
  exact ⟨k, hT⟩
theorem CutSt.treez (h : CutSt w s F R H P q most last G rd a b x m y n z l) : ∃ k, TreeR w.heap.size w s R k z z.prs := by
  have hr : Rising z.prs := by have := h.ris; rw [← h.five.prs] at this; exact rising_right (rising_right (rising_right (rising_right this)))
  have hn := (List.nodup_append.1 (List.nodup_append.1 (List.nodup_append.1 (List.nodup_append.1 h.five.nd).2.1).2.1).2.1).2.1
  obtain ⟨k, hT, -⟩ := treeIn h.st h.sh h.z0 h.five.za rfl hr hn
  exact ⟨k, hT⟩
theorem half_at (h : HalfSt w s F R H P q most last G rd t u m n l) (hl : l.length ≤ 100) :
    Calls Tryz.prog 39 #[.pointer (some ⟨s, 0, none⟩), .int .i64 (kindZ rd), .int .u64 (t.root : Nat), .int .u64 (u.root : Nat)] w fun e w' => ∃ (r : BT) (R' : Nat → Option (List Nat)), e = .returned (.tuple #[.int .u64 (r.root : Nat), .int .i64 0]) ∧ JoinSt w' s F R' H P q most last G rd r m n l ∧ Turn w F w' F := by
  have hln := congrArg List.length h.prs
  rw [List.length_append, BT.prs_len, BT.prs_len] at hln
  have hnd : (t.hs ++ u.hs).Nodup := by have h9 := h.nd; rw [← List.append_assoc] at h9; exact (List.nodup_append.1 h9).1
  have hj := paConT_at h.st rd h.z h.sh h.pa h.qa h.pk h.qk hnd (by omega)
  refine hj.mono fun e w' hp => ?_
  obtain ⟨r, R', he, ⟨a1, a2, a3, a4, a5, a6⟩, hkp, hS, hT⟩ := hp
  have h9 := h.nd
  rw [← List.append_assoc] at h9
  obtain ⟨-, -, hd⟩ := List.nodup_append.1 h9
  have hno : ∀ z ∈ t.nodes ++ u.nodes, z ∈ t.hs ++ u.hs := fun z hz => by
    rcases List.mem_append.1 hz with h1 | h1
    · exact List.mem_append.2 (.inl (BT.nodes_hs t z h1))
    · exact List.mem_append.2 (.inr (BT.nodes_hs u z h1))
  refine ⟨r, R', he, ⟨hS, hkp.zero h.z, hkp.short h.sh, a1, ?_, ?_, a2, ?_, ?_, h.ris⟩, hT⟩
  · exact Ln_off h.mat a6 hno (fun z hz h1 => hd z h1 z (List.mem_append.2 (.inl hz)) rfl)
  · exact Ln_off h.nat a6 hno (fun z hz h1 => hd z h1 z (List.mem_append.2 (.inr hz)) rfl)
  · rw [a3]; exact h9
  · rw [a5]; exact h.prs
theorem cutYZ_at (h : CutSt w s F R H P q most last G rd a b x m y n z l) (hl : l.length ≤ 100) (hr : Rising (x.prs ++ (y.prs ++ z.prs))) :
    Calls Tryz.prog 39 #[.pointer (some ⟨s, 0, none⟩), .int .i64 (kindZ rd), .int .u64 (y.root : Nat), .int .u64 (z.root : Nat)] w fun e w' => ∃ (u : BT) (R' : Nat → Option (List Nat)), e = .returned (.tuple #[.int .u64 (u.root : Nat), .int .i64 0]) ∧ HalfSt w' s F R' H P q most last G rd x u m n (x.prs ++ (y.prs ++ z.prs)) ∧ Turn w F w' F := by
  have f := h.five
  have hln := f.sum
  rw [BT.prs_len, BT.prs_len, BT.prs_len] at hln
  have h9 : ((y.hs ++ z.hs) ++ (x.hs ++ (m.hs ++ n.hs))).Nodup := nodup_perm f.nd (fun x => by simp only [List.count_append]; omega)
  obtain ⟨hnd, -, hd⟩ := List.nodup_append.1 h9
  have hj := paConT_at h.st rd h.z0 h.sh f.ya f.za f.yk f.zk hnd (by omega)
  refine hj.mono fun e w' hp => ?_
  obtain ⟨r, R', he, ⟨a1, a2, a3, a4, a5, a6⟩, hkp, hS, hT⟩ := hp
  have hno : ∀ v ∈ y.nodes ++ z.nodes, v ∈ y.hs ++ z.hs := fun v hv => by
    rcases List.mem_append.1 hv with h1 | h1
    · exact List.mem_append.2 (.inl (BT.nodes_hs y v h1))
    · exact List.mem_append.2 (.inr (BT.nodes_hs z v h1))
  refine ⟨r, R', he, ⟨hS, hkp.zero h.z0, hkp.short h.sh, ?_, a1, ?_, ?_, f.xk, a2, ?_, ?_, hr⟩, hT⟩
  · exact At_off f.xa a6 hno (fun z hz h1 => hd z h1 z (List.mem_append.2 (.inl hz)) rfl)
  · exact Ln_off f.ma a6 hno (fun z hz h1 => hd z h1 z (List.mem_append.2 (.inr (List.mem_append.2 (.inl hz)))) rfl)
  · exact Ln_off f.na a6 hno (fun z hz h1 => hd z h1 z (List.mem_append.2 (.inr (List.mem_append.2 (.inr hz)))) rfl)
  · rw [a3]; exact nodup_perm f.nd (fun x => by simp only [List.count_append]; omega)
  · rw [a5]
theorem cutXY_at (h : CutSt w s F R H P q most last G rd a b x m y n z l) (hl : l.length ≤ 100) (hr : Rising (x.prs ++ (y.prs ++ z.prs))) :
    Calls Tryz.prog 39 #[.pointer (some ⟨s, 0, none⟩), .int .i64 (kindZ rd), .int .u64 (x.root : Nat), .int .u64 (y.root : Nat)] w fun e w' => ∃ (u : BT) (R' : Nat → Option (List Nat)), e = .returned (.tuple #[.int .u64 (u.root : Nat), .int .i64 0]) ∧ HalfSt w' s F R' H P q most last G rd u z m n (x.prs ++ (y.prs ++ z.prs)) ∧ Turn w F w' F := by
  have f := h.five
  have hln := f.sum
  rw [BT.prs_len, BT.prs_len, BT.prs_len] at hln
  have h9 : ((x.hs ++ y.hs) ++ (z.hs ++ (m.hs ++ n.hs))).Nodup := nodup_perm f.nd (fun x => by simp only [List.count_append]; omega)
  obtain ⟨hnd, -, hd⟩ := List.nodup_append.1 h9
  have hj := paConT_at h.st rd h.z0 h.sh f.xa f.ya f.xk f.yk hnd (by omega)
  refine hj.mono fun e w' hp => ?_
  obtain ⟨r, R', he, ⟨a1, a2, a3, a4, a5, a6⟩, hkp, hS, hT⟩ := hp
  have hno : ∀ v ∈ x.nodes ++ y.nodes, v ∈ x.hs ++ y.hs := fun v hv => by
    rcases List.mem_append.1 hv with h1 | h1
    · exact List.mem_append.2 (.inl (BT.nodes_hs x v h1))
    · exact List.mem_append.2 (.inr (BT.nodes_hs y v h1))
  refine ⟨r, R', he, ⟨hS, hkp.zero h.z0, hkp.short h.sh, a1, ?_, ?_, ?_, a2, f.zk, ?_, ?_, hr⟩, hT⟩
  · exact At_off f.za a6 hno (fun z hz h1 => hd z h1 z (List.mem_append.2 (.inl hz)) rfl)
  · exact Ln_off f.ma a6 hno (fun z hz h1 => hd z h1 z (List.mem_append.2 (.inr (List.mem_append.2 (.inl hz)))) rfl)
  · exact Ln_off f.na a6 hno (fun z hz h1 => hd z h1 z (List.mem_append.2 (.inr (List.mem_append.2 (.inr hz)))) rfl)
  · rw [a3]; exact nodup_perm f.nd (fun x => by simp only [List.count_append]; omega)
  · rw [a5, List.append_assoc]
theorem add_at {A C : List Pr} (h : JoinSt w s F R H P q most last G rd r m n l) (nz : m.root ≠ 0) (hl : l.length ≤ 99) (hp : Parted l a A [] C) (mk : ∀ p ∈ m.prs, p.1 = a) :
    Calls Tryz.prog 34 #[.pointer (some ⟨s, 0, none⟩), .int .i64 (kindZ rd), .int .u64 (r.root : Nat), .int .u64 (m.root : Nat)] w fun e w' => ∃ (t : BT) (R' : Nat → Option (List Nat)), e = .returned (.tuple #[.int .u64 (t.root : Nat), .int .u64 0, .int .i64 0]) ∧ JoinSt w' s F R' H P q most last G rd t .none n (A ++ (m.prs ++ C)) ∧ Turn w F w' F := by
  cases m with
  | none => exact absurd rfl nz
  | one xx kx vx k v =>
    obtain rfl : k = a := mk (k, v) (by simp [Ln.prs])
    have h9 : ((r.hs ++ [xx, kx, vx]) ++ n.hs).Nodup := by have := h.nd; rw [← List.append_assoc] at this; exact this
    obtain ⟨hnd, -, hd⟩ := List.nodup_append.1 h9
    have hsz : r.size ≤ 99 := by rw [← BT.prs_len, h.prs]; exact hl
    have hj := paInsT_at h.st rd h.z h.sh h.at' h.kd h.mat hnd hsz (by rw [h.prs]; exact h.ris)
    refine hj.mono fun e w' hq => ?_
    obtain ⟨t', old, R', he, o, ho, hkp, hS, hT⟩ := hq
    have h0 : old.root = 0 := by
      by_cases h1 : old.root = 0
      · exact h1
      · have h2 := ho.1 h1
        rw [h.prs, hp.find] at h2
        simp at h2
    obtain rfl := Ln.none_of o.oat h0
    have e1 : putL l (k, v) = A ++ ((Ln.one xx kx vx k v).prs ++ C) := by rw [hp.put]; rfl
    have hno : ∀ z ∈ r.nodes ++ [xx], z ∈ r.hs ++ [xx, kx, vx] := fun z hz => by
      rcases List.mem_append.1 hz with h1 | h1
      · exact List.mem_append.2 (.inl (BT.nodes_hs r z h1))
      · exact List.mem_append.2 (.inr (by simp only [List.mem_singleton] at h1; simp [h1]))
    refine ⟨t', R', he, ⟨hS, hkp.zero h.z, hkp.short h.sh, o.at', trivial, ?_, o.kd, ?_, ?_, ?_⟩, hT⟩
    · exact Ln_off h.nat o.frame hno (fun z hz h1 => hd z h1 z hz rfl)
    · have hc := List.perm_iff_count.1 o.hs
      refine nodup_perm h9 (fun x => ?_)
      have := hc x
      simp only [Ln.hs, List.count_append, List.count_nil] at this ⊢
      omega
    · rw [o.prs, h.prs, e1]
    · rw [← e1]; exact putL_rising h.ris _
theorem JoinSt.skip {A C : List Pr} (h : JoinSt w s F R H P q most last G rd r m n l) (nz : m.root = 0) (hl : A ++ C = l) : JoinSt w s F R H P q most last G rd r .none n (A ++ (m.prs ++ C)) := by
  obtain rfl := Ln.none_of h.mat nz
  have : A ++ ((Ln.none).prs ++ C) = l := hl
  rw [this]
  exact h
end
end Go.Proofs.YtjpmlneihbckpaaGreatDoor
/- loftlaw14.PartsCut: the walk. -/
set_option linter.unusedVariables false
set_option linter.unusedSimpArgs false
namespace Go.Proofs.YtjpmlneihbckpaaGreatDoor
open Go.RowKit Go.Shelf
set_option maxHeartbeats 4000000 in
set_option maxRecDepth 100000 in
theorem cut14_0 {w : World} (hT : Tab w) (k : Int) (l : List Pr) (A : Option Addr) (c : Nat) (a b : ByteArray) (tn : Bool) (h : ILaw w A l) (ha : a.size ≤ 9223372036854775807) (hb : b.size ≤ 9223372036854775807) (hg : k < 1 ∨ 2 < k ∨ 60 < l.length ∨ longL l = true ∨ 1000 < a.size ∨ 1000 < b.size ∨ Op.bytesLess a.toList b.toList = false) :
    Calls Tryz.prog 12 #[.int .i64 k, .slice A l.length c, .string a, .string b, .bool tn] w (TrueB w) := by
  have hN := Lib.hid (snew_at hT 262144 1000 4294967295 (by omega) (by omega) (by omega) (by omega) (by omega))
  have hTH := Lib.hid hT
  have hL := fun W (hb : Below w.heap.size w W) => refLong_at (c := c) (h.1.prs.below hb) h.2.2 h.2.1
  have z1 := h.2.2
  have hLH := Lib.hid hL
  clear hT h hL
  unfold TrueB
  by_cases q7 : k < 1
  · have d7 : decide (k < 1) = true := decide_eq_true q7
    clear hg
    go_enter Tryz.func12, Tryz.ntmps12
    go_wp2_with fail
    refine hN.out.mono ?_
    rintro e w1 ⟨s, F, rfl, hS, hs1, hF1, hb1⟩
    have hb1H := Lib.hid hb1
    clear hS hF1 hb1 hN
    have hAw := Lib.hid (awake14_at (hTH.out.below hb1H.out (tab_lt hTH.out)))
    go_wp2_with fail
    refine hAw.out.mono ?_
    rintro e w9 ⟨rfl, hb9⟩
    have hb9H := Lib.hid (hb1H.out.trans (hb9.mono hb1H.out.size))
    clear hb9 hAw
    go_wp2
    go_ret
    exact ⟨rfl, hb9H.out⟩
  · have d7 : decide (k < 1) = false := decide_eq_false q7
    by_cases q6 : 2 < k
    · have d6 : decide (2 < k) = true := decide_eq_true q6
      clear hg
      go_enter Tryz.func12, Tryz.ntmps12
      go_wp2_with fail
      refine hN.out.mono ?_
      rintro e w1 ⟨s, F, rfl, hS, hs1, hF1, hb1⟩
      have hb1H := Lib.hid hb1
      clear hS hF1 hb1 hN
      have hAw := Lib.hid (awake14_at (hTH.out.below hb1H.out (tab_lt hTH.out)))
      go_wp2_with fail
      refine hAw.out.mono ?_
      rintro e w9 ⟨rfl, hb9⟩
      have hb9H := Lib.hid (hb1H.out.trans (hb9.mono hb1H.out.size))
      clear hb9 hAw
      go_wp2
      go_ret
      exact ⟨rfl, hb9H.out⟩
    · have d6 : decide (2 < k) = false := decide_eq_false q6
      by_cases q5 : (60 : Int) < (l.length : Int)
      · have d5 : decide ((60 : Int) < (l.length : Int)) = true := decide_eq_true q5
        clear hg
        go_enter Tryz.func12, Tryz.ntmps12
        go_wp2_with fail
        refine hN.out.mono ?_
        rintro e w1 ⟨s, F, rfl, hS, hs1, hF1, hb1⟩
        have hb1H := Lib.hid hb1
        clear hS hF1 hb1 hN
        have hAw := Lib.hid (awake14_at (hTH.out.below hb1H.out (tab_lt hTH.out)))
        go_wp2_with fail
        refine hAw.out.mono ?_
        rintro e w9 ⟨rfl, hb9⟩
        have hb9H := Lib.hid (hb1H.out.trans (hb9.mono hb1H.out.size))
        clear hb9 hAw
        go_wp2
        go_ret
        exact ⟨rfl, hb9H.out⟩
      · have d5 : decide ((60 : Int) < (l.length : Int)) = false := decide_eq_false q5
        cases q4 : longL l with
        | true =>
          have hLa := Lib.hid (fun W hb => by have := hLH.out W hb; rw [q4] at this; exact this)
          clear hLH
          clear hg
          go_enter Tryz.func12, Tryz.ntmps12
          go_wp2_with fail
          refine hN.out.mono ?_
          rintro e w1 ⟨s, F, rfl, hS, hs1, hF1, hb1⟩
          have hb1H := Lib.hid hb1
          clear hS hF1 hb1 hN
          go_wp2_with fail
          refine (hLa.out _ hb1H.out).mono ?_
          rintro e w2 ⟨rfl, rfl⟩
          have hAw := Lib.hid (awake14_at (hTH.out.below hb1H.out (tab_lt hTH.out)))
          go_wp2_with fail
          refine hAw.out.mono ?_
          rintro e w9 ⟨rfl, hb9⟩
          have hb9H := Lib.hid (hb1H.out.trans (hb9.mono hb1H.out.size))
          clear hb9 hAw
          go_wp2
          go_ret
          exact ⟨rfl, hb9H.out⟩
        | false =>
          have hLa := Lib.hid (fun W hb => by have := hLH.out W hb; rw [q4] at this; exact this)
          clear hLH
          by_cases q3 : (1000 : Int) < (a.size : Int)
          · have d3 : decide ((1000 : Int) < (a.size : Int)) = true := decide_eq_true q3
            clear hg
            go_enter Tryz.func12, Tryz.ntmps12
            go_wp2_with fail
            refine hN.out.mono ?_
            rintro e w1 ⟨s, F, rfl, hS, hs1, hF1, hb1⟩
            have hb1H := Lib.hid hb1
            clear hS hF1 hb1 hN
            go_wp2_with fail
            refine (hLa.out _ hb1H.out).mono ?_
            rintro e w2 ⟨rfl, rfl⟩
            have hAw := Lib.hid (awake14_at (hTH.out.below hb1H.out (tab_lt hTH.out)))
            go_wp2_with fail
            refine hAw.out.mono ?_
            rintro e w9 ⟨rfl, hb9⟩
            have hb9H := Lib.hid (hb1H.out.trans (hb9.mono hb1H.out.size))
            clear hb9 hAw
            go_wp2
            go_ret
            exact ⟨rfl, hb9H.out⟩
          · have d3 : decide ((1000 : Int) < (a.size : Int)) = false := decide_eq_false q3
            by_cases q2 : (1000 : Int) < (b.size : Int)
            · have d2 : decide ((1000 : Int) < (b.size : Int)) = true := decide_eq_true q2
              clear hg
              go_enter Tryz.func12, Tryz.ntmps12
              go_wp2_with fail
              refine hN.out.mono ?_
              rintro e w1 ⟨s, F, rfl, hS, hs1, hF1, hb1⟩
              have hb1H := Lib.hid hb1
              clear hS hF1 hb1 hN
              go_wp2_with fail
              refine (hLa.out _ hb1H.out).mono ?_
              rintro e w2 ⟨rfl, rfl⟩
              have hAw := Lib.hid (awake14_at (hTH.out.below hb1H.out (tab_lt hTH.out)))
              go_wp2_with fail
              refine hAw.out.mono ?_
              rintro e w9 ⟨rfl, hb9⟩
              have hb9H := Lib.hid (hb1H.out.trans (hb9.mono hb1H.out.size))
              clear hb9 hAw
              go_wp2
              go_ret
              exact ⟨rfl, hb9H.out⟩
            · have d2 : decide ((1000 : Int) < (b.size : Int)) = false := decide_eq_false q2
              have q : Op.bytesLess a.toList b.toList = false := by first | (rcases hg with h | h | h | h <;> first | exact h | omega) | (rcases hg with h | h | h | h | h | h | h <;> first | exact h | omega | (rw [‹longL l = false›] at h; cases h)) | simp_all
              clear hg
              go_enter Tryz.func12, Tryz.ntmps12
              go_wp2_with fail
              refine hN.out.mono ?_
              rintro e w1 ⟨s, F, rfl, hS, hs1, hF1, hb1⟩
              have hb1H := Lib.hid hb1
              clear hS hF1 hb1 hN
              go_wp2_with fail
              refine (hLa.out _ hb1H.out).mono ?_
              rintro e w2 ⟨rfl, rfl⟩
              have hAw := Lib.hid (awake14_at (hTH.out.below hb1H.out (tab_lt hTH.out)))
              go_wp2_with fail
              refine hAw.out.mono ?_
              rintro e w9 ⟨rfl, hb9⟩
              have hb9H := Lib.hid (hb1H.out.trans (hb9.mono hb1H.out.size))
              clear hb9 hAw
              go_wp2
              go_ret
              exact ⟨rfl, hb9H.out⟩
set_option maxHeartbeats 8000000 in
set_option maxRecDepth 100000 in
theorem cut14_main {w : World} (hT : Tab w) (rd : Bool) (l : List Pr) (A : Option Addr) (c : Nat) (a b : ByteArray) (tn : Bool) (h : ILaw w A l) (g1 : l.length ≤ 60) (g3 : longL l = false) (ha : a.size ≤ 1000) (hb : b.size ≤ 1000) (hbl : Op.bytesLess a.toList b.toList = true) (hab : Tx.cmp a b < 0) :
    Calls Tryz.prog 12 #[.int .i64 (kindZ rd), .slice A l.length c, .string a, .string b, .bool tn] w (TrueB w) := by
  have hN := Lib.hid (snew_at hT 262144 1000 4294967295 (by omega) (by omega) (by omega) (by omega) (by omega))
  have hTH := Lib.hid hT
  have hL := fun W (hb : Below w.heap.size w W) => refLong_at (c := c) (h.1.prs.below hb) h.2.2 h.2.1
  rw [g3] at hL
  have hLH := Lib.hid hL
  have d1 : decide ((60 : Int) < (l.length : Int)) = false := decide_eq_false (by omega)
  obtain ⟨dk1, dk2⟩ := kindZ_ok rd
  have hso := Lib.hid (fun W (hb : Below w.heap.size w W) => refSorted_at (c := c) (h.1.prs.below hb) hb.size (by omega) h.2.1)
  have hsl := sortedL_len l
  have hrs := Lib.hid (sortedL_rising l)
  have hszl := sized_of g3
  have hszm : Hid (∀ p ∈ sortedL l, p.1.size ≤ 1000 ∧ p.2.size ≤ 1000) := Lib.hid (fun p hp => hszl p (sortedL_mem hp))
  have da : decide ((1000 : Int) < (a.size : Int)) = false := decide_eq_false (by omega)
  have db : decide ((1000 : Int) < (b.size : Int)) = false := decide_eq_false (by omega)
  have habH := Lib.hid hab
  clear hT h hL g3 hszl
  unfold TrueB
  go_enter Tryz.func12, Tryz.ntmps12
  go_wp2_with fail
  refine hN.out.mono ?_
  rintro e w1 ⟨s, F, rfl, hS, hs1, hF1, hb1⟩
  have hb1H := Lib.hid hb1
  have hSt1 := Lib.hid (PaIn.start hS rd)
  have hF1H : Hid (∀ b, F b → w.heap.size ≤ b) := Lib.hid hF1
  have hFl := Lib.hid (fun b (hf : F b) => hS.lt hf)
  have hso1 := Lib.hid (hso.out _ hb1)
  clear hS hF1 hb1 hN hso
  go_wp2_with fail
  refine (hLH.out _ hb1H.out).mono ?_
  rintro e w2 ⟨rfl, rfl⟩
  clear hLH
  go_wp2_with fail
  refine hso1.out.mono ?_
  rintro e w2 ⟨v, rfl, hrow, hb2⟩
  obtain ⟨A2, c2, rfl, hA2, hc2, hP2⟩ := own_pairs hrow rfl
  have hcf := Lib.hid (CellsF.own hrow hP2 hFl.out)
  have hb2H := Lib.hid (hb1H.out.trans (hb2.mono hb1H.out.size))
  have hSt2 := Lib.hid (hSt1.out.below hb2)
  clear hrow hP2 hb2 hso1 hFl hSt1 hb1H
  generalize sortedL l = m at *
  go_wp2_with fail
  go_loopw [14, 15] (fun rv iv wr => ∃ (k : Nat) (t : BT) (F' : Nat → Prop) (R' : Nat → Option (List Nat)) (H' : List Nat), k ≤ m.length ∧ iv = .int .i64 k ∧ rv = .int .u64 (t.root : Nat) ∧ Hid (PaIn wr s F' R' H' (9 * k) 262144 1000 4294967295 (3 * k) rd t .none (m.take k)) ∧ Hid (Turn w2 F wr F')) (fun _ iv _ => m.length - (intOf iv).toNat)
  case atStart => exact ⟨0, .nil, F, _, [], by omega, rfl, rfl, by simpa using hSt2, Lib.hid (Turn.refl _ _)⟩
  case round =>
    obtain ⟨k, t, F', R', H', hk, rfl, rfl, hst, hT'⟩ := hrel
    by_cases hlt : k < m.length
    · skip
      obtain ⟨bb, oo, hAs, q1, q2⟩ := (hcf.out.turn hT'.out).pairs hlt
      obtain ⟨hput, hfnd⟩ := rise_put hrs.out hlt
      have hzp := hszm.out _ (List.getElem_mem hlt)
      obtain ⟨p, hp⟩ : ∃ p, m[k] = p := ⟨_, rfl⟩
      rw [hp] at hput hfnd hzp
      simp only [hp] at q1 q2
      have hlen := hst.out.len
      have htk : (m.take k).length = k := by rw [List.length_take]; omega
      rw [htk] at hlen
      simp only [Ln.hs, List.length_nil, Nat.add_zero] at hlen
      have hLf := leaf14_at hst.out.st p hzp.1 hzp.2 (by omega) (by omega) (by omega)
      have hpH := Lib.hid hp
      have hLfH := Lib.hid hLf
      have hputH := Lib.hid hput
      have hfndH := Lib.hid hfnd
      have htkH := Lib.hid htk
      have hz9 := hzp.1
      subst hAs
      clear hLf hput hfnd hp hlen htk hzp
      go_wp2_with fail
      refine hLfH.out.mono ?_
      rintro e w3 ⟨x, kx, vx, F2, R2, H2, rfl, gm, hS2, hH2, hT2, hx64⟩
      have hIH := Lib.hid (paLeafIns_at hst.out gm hS2 hH2 (by have := htkH.out; omega))
      have hT2H := Lib.hid (hT'.out.trans hT2)
      clear gm hS2 hH2 hT2 hLfH
      go_wp2_with fail
      refine hIH.out.mono ?_
      rintro e w4 ⟨t', old, R4, rfl, hst4, ho, hT4⟩
      have h0 : old.root = 0 := by
        by_cases h : old.root = 0
        · exact h
        · exact absurd (ho.1 h) (by have := hfndH.out; omega)
      obtain rfl := Ln.none_of hst4.oat h0
      have hst4' := hst4.more (P' := 9 * (k + 1)) (G' := 3 * (k + 1)) (by omega) (by omega)
      rw [hputH.out] at hst4'
      have hst4H := Lib.hid hst4'
      have hT4H := Lib.hid (hT2H.out.trans hT4)
      have r0 : (Ln.none).root = 0 := rfl
      clear hst4 hst4' ho hT4 hIH h0 hst hT'
      go_wp2
      go_roundw
      case rel => exact ⟨k + 1, t', F2, R4, H2, by omega, by go_num, rfl, hst4H, hT4H⟩
      case measure => simp [intOf]; omega
    · obtain rfl : k = m.length := by omega
      have hst2 := hst.out
      rw [List.take_length] at hst2
      have hHl := hst2.len
      simp only [Ln.hs, List.length_nil, Nat.add_zero] at hHl
      have hAl := Lib.hid (sall_at hst2.st)
      have hstH := Lib.hid hst2
      have hHlH := Lib.hid hHl
      have hm60 : m.length ≤ 60 := by omega
      clear hst hst2 hHl
      go_wp2_with fail
      refine hAl.out.mono ?_
      rintro e w4 ⟨v4, Hs, rfl, hpm, hro, hb4⟩
      obtain ⟨A4, c4, rfl⟩ := ownsRow_form hro
      have hlenS : Hs.length = 3 * m.length := by rw [hpm.length_eq, hHlH.out]
      rw [hlenS]
      have hst4 := Lib.hid (hstH.out.below hb4)
      have hT4H := Lib.hid (hT'.out.trans (Turn.below (F := F') hb4))
      have hnd := (List.nodup_append.1 hst4.out.nd).1
      have hsz := hst4.out.size
      have hSp := Lib.hid (paSplT_at hst4.out.st rd hst4.out.z hst4.out.sh hst4.out.at' hst4.out.kd hnd (by omega) a ha)
      have hndH := Lib.hid hnd
      clear hnd hsz hpm hro hb4 hAl hstH hlenS hT'
      go_wp2_with fail
      refine hSp.out.mono ?_
      rintro e w5 ⟨x, mm, y0, R5, rfl, o1, hk5, hS5, hT5⟩
      have z5 : R5 0 = none := hk5.zero hst4.out.z
      have sh5 : Short R5 := hk5.short hst4.out.sh
      have nd5 : y0.hs.Nodup := by have h9 := hndH.out; rw [← o1.hs] at h9; exact (List.nodup_append.1 (List.nodup_append.1 h9).2.1).2.1
      have hz5 : y0.size ≤ 99 := by
        have h9 := congrArg List.length o1.prs
        rw [hst4.out.prs] at h9
        simp only [List.length_append] at h9
        rw [← BT.prs_len]; omega
      have hSp2 := Lib.hid (paSplT_at hS5 rd z5 sh5 o1.ra o1.rk nd5 hz5 b hb)
      have hT5H := Lib.hid (hT4H.out.trans hT5)
      have o1H := Lib.hid o1
      have z5H := Lib.hid z5
      have sh5H := Lib.hid sh5
      clear z5 sh5 nd5 hz5 o1 hk5 hS5 hT5 hSp hT4H
      go_wp2_with fail
      refine hSp2.out.mono ?_
      rintro e w6 ⟨y, nn, z, R6, rfl, o2, hk6, hS6, hT6⟩
      have f : Five rd R6 a b x mm y nn z m := by
        have h9 := five_of hndH.out (by rw [hst4.out.prs]; exact hrs.out) o1H.out o2
        rw [hst4.out.prs] at h9
        exact h9
      have hcs : CutSt w6 s F' R6 H' _ _ _ _ _ rd a b x mm y nn z m := ⟨hS6, hk6.zero z5H.out, hk6.short sh5H.out, f, hrs.out⟩
      obtain ⟨tx, hTx⟩ := hcs.treex
      obtain ⟨ty, hTy⟩ := hcs.treey
      obtain ⟨tz, hTz⟩ := hcs.treez
      have hSx := fun W (hb9 : Below w6.heap.size w6 W) => tsize_at (hTx.below hb9)
      have hSy := fun W (hb9 : Below w6.heap.size w6 W) => tsize_at (hTy.below hb9)
      have hSz := fun W (hb9 : Below w6.heap.size w6 W) => tsize_at (hTz.below hb9)
      have hO1 := fun W => one_ln f.ma W
      have hO2 := fun W => one_ln f.na W
      have hT6H := Lib.hid (hT5H.out.trans hT6)
      have hcf6 := hcf.out.turn hT6H.out
      have hRk := fun W (hb9 : Below w6.heap.size w6 W) => refRank_at (c := c2) (hcf6.prs.below hb9) hb9.size (by omega) (fun p hp => by have := hszm.out p hp; omega) a (by omega)
      rw [f.rank habH.out] at hRk
      have hsum := f.sum
      have hfirst := Lib.hid (f.first (v := b))
      have hsecond := Lib.hid (f.second habH.out)
      have hris1 : Hid (Rising (x.prs ++ (y.prs ++ z.prs))) := Lib.hid (List.Pairwise.sublist (by rw [← f.prs]; exact List.Sublist.append (List.Sublist.refl _) ((List.Sublist.append (List.Sublist.refl _) (List.sublist_append_right _ _)).trans (List.sublist_append_right _ _))) hrs.out)
      have hbw6 := Lib.hid (hb2H.out.trans (hT6H.out.to_below hb2H.out.size hF1H.out))
      have hcs1 := Lib.hid hcs
      have hSxH := Lib.hid hSx
      have hSyH := Lib.hid hSy
      have hSzH := Lib.hid hSz
      have hO1H := Lib.hid hO1
      have hO2H := Lib.hid hO2
      have hRkH := Lib.hid hRk
      have hfH := Lib.hid f
      have hpl := congrArg List.length f.prs
      have hpn1 := hfH.out.mky
      have hpn2 := hfH.out.nky
      have hmkH : Hid (∀ p ∈ mm.prs, p.1 = a) := Lib.hid f.mky
      have hnkH : Hid (∀ p ∈ nn.prs, p.1 = b) := Lib.hid f.nky
      have hall : Hid (x.prs ++ (mm.prs ++ (y.prs ++ (nn.prs ++ z.prs))) = m) := Lib.hid f.prs
      have hln1 : (x.prs ++ (y.prs ++ z.prs)).length ≤ 60 := by simp only [List.length_append]; omega
      have hln2 : (x.prs ++ (mm.prs ++ (y.prs ++ z.prs))).length ≤ 60 := by simp only [List.length_append]; omega
      clear hpl hpn1 hpn2 f hcs hTx hTy hTz hSx hSy hSz hO1 hO2 hRk hcf6 o2 hk6 hS6 hT6 hSp2 hndH o1H z5H sh5H hT5H hst4 hfH
      generalize hX : x.prs.length = xl at *
      generalize hY : y.prs.length = yl at *
      generalize hZ : z.prs.length = zl at *
      generalize hM : mm.prs.length = ml at *
      generalize hN9 : nn.prs.length = nl at *
      have dsx : ((xl : Int) != (xl : Int)) = false := by simp
      have dsum : ((xl : Int) + (yl : Int) + (zl : Int) + (ml : Int) + (nl : Int) != (m.length : Int)) = false := by simp; omega
      have b1 : (xl : Int) + (yl : Int) ≤ 60 := by omega
      have b2 : (xl : Int) + (yl : Int) + (zl : Int) ≤ 60 := by omega
      have b3 : (xl : Int) + (yl : Int) + (zl : Int) + (ml : Int) ≤ 60 := by omega
      have b4 : (xl : Int) + (yl : Int) + (zl : Int) + (ml : Int) + (nl : Int) ≤ 60 := by omega
      clear hX hY hZ hM hN9 hsum
      have hb6 := Lib.hid (Below.refl w6.heap.size w6)
      go_wp2_with fail
      refine (hSxH.out _ hb6.out).mono ?_
      rintro e w7 ⟨rfl, hb9⟩
      have hb7 := Lib.hid (hb6.out.trans (hb9.mono hb6.out.size))
      clear hb9
      go_wp2_with fail
      refine (hRkH.out _ hb7.out).mono ?_
      rintro e w8 ⟨rfl, hb9⟩
      have hb8 := Lib.hid (hb7.out.trans (hb9.mono hb7.out.size))
      clear hb9
      go_wp2_with fail
      refine (hSxH.out _ hb8.out).mono ?_
      rintro e w9 ⟨rfl, hb9⟩
      have hb9H := Lib.hid (hb8.out.trans (hb9.mono hb8.out.size))
      clear hb9
      go_wp2_with fail
      refine (hSyH.out _ hb9H.out).mono ?_
      rintro e w10 ⟨rfl, hb9⟩
      have hb10 := Lib.hid (hb9H.out.trans (hb9.mono hb9H.out.size))
      clear hb9
      go_wp2_with fail
      refine (hSzH.out _ hb10.out).mono ?_
      rintro e w11 ⟨rfl, hb9⟩
      have hb11 := Lib.hid (hb10.out.trans (hb9.mono hb10.out.size))
      clear hb9
      go_wp2_with fail
      refine (hO1H.out _).mono ?_
      rintro e w11' ⟨rfl, rfl⟩
      go_wp2_with fail
      refine (hO2H.out _).mono ?_
      rintro e w11' ⟨rfl, rfl⟩
      have hcs2 := Lib.hid (hcs1.out.below hb11.out)
      have hT7H := Lib.hid (hT6H.out.trans (Turn.below (F := F') hb11.out))
      clear hSxH hSyH hSzH hRkH hO1H hO2H hcs1 hb6 hb7 hb8 hb9H hb10 hb11 hT6H hbw6
      cases tn with
      | false =>
        have hC1 := Lib.hid (cutXY_at hcs2.out (by omega) hris1.out)
        go_wp2_with fail
        refine hC1.out.mono ?_
        rintro e w12 ⟨u, R12, rfl, hf12, hT12⟩
        have hC2 := Lib.hid (half_at hf12 (by omega))
        have hT12H := Lib.hid (hT7H.out.trans hT12)
        clear hf12 hT12 hC1 dsx dsum b1 b2 b3 b4
        go_wp2_with fail
        refine hC2.out.mono ?_
        rintro e w13 ⟨r, R13, rfl, hj13, hT13⟩
        have hj13H := Lib.hid hj13
        have hT13H := Lib.hid (hT12H.out.trans hT13)
        clear hj13 hT13 hC2 hcs2 hT12H hT7H
        by_cases qm : mm.root = 0
        · have dm : ((mm.root : Int) != 0) = false := by simp; omega
          have hj14 := Lib.hid (hj13H.out.skip (A := x.prs) (C := y.prs ++ z.prs) qm rfl)
          have hT14H := Lib.hid hT13H.out
          clear hT13H
          clear hj13H hmkH hfirst qm
          by_cases qn : nn.root = 0
          · have dn : ((nn.root : Int) != 0) = false := by simp; omega
            have hj15 := Lib.hid (hj14.out.swap.skip (A := x.prs ++ (mm.prs ++ y.prs)) (C := z.prs) qn (by simp only [List.append_assoc]))
            have hT15H := Lib.hid hT14H.out
            have heq : (x.prs ++ (mm.prs ++ y.prs)) ++ (nn.prs ++ z.prs) = m := by rw [← hall.out]; simp only [List.append_assoc]
            have hj16 := hj15.out
            rw [heq] at hj16
            have hcf9 := Lib.hid (hcf.out.turn hT15H.out)
            have hbw := Lib.hid (hb2H.out.trans (hT15H.out.to_below hb2H.out.size hF1H.out))
            obtain ⟨tk, hTk⟩ := hj16.tree
            have hIs := Lib.hid (paIs_at (c := c2) hTk rd hj16.kd hcf9.out)
            have hAl2 := Lib.hid (fun W (hb9 : Below _ _ W) => sall_at (hj16.st.below hb9))
            clear hTk heq hj15 hj14 hT14H hT15H qn hcf9 hsecond hnkH hall hris1 hj16
            go_wp2_with fail
            refine hIs.out.mono ?_
            rintro e w16 ⟨rfl, hb16⟩
            have hb16H := Lib.hid (hbw.out.trans (hb16.mono hbw.out.size))
            have hAl3 := Lib.hid (hAl2.out _ hb16)
            clear hIs hAl2 hb16
            go_wp2_with fail
            refine hAl3.out.mono ?_
            rintro e w17 ⟨v17, Hs2, rfl, hpm, hro, hb17⟩
            obtain ⟨A17, c17, rfl⟩ := ownsRow_form hro
            have hlenS2 : Hs2.length = 3 * m.length := by rw [hpm.length_eq, hHlH.out]
            rw [hlenS2]
            have e4 : (((3 * m.length : Nat) : Int) == ((3 * m.length : Nat) : Int)) = true := by simp
            have hb17H := Lib.hid (hb16H.out.trans (hb17.mono hb16H.out.size))
            clear hb17 hpm hro hlenS2 hAl3
            have hAw := Lib.hid (awake14_at (hTH.out.below hb17H.out (tab_lt hTH.out)))
            go_wp2_with fail
            refine hAw.out.mono ?_
            rintro e w9 ⟨rfl, hb9⟩
            have hb9H := Lib.hid (hb17H.out.trans (hb9.mono hb17H.out.size))
            clear hb9 hAw
            go_wp2
            go_ret
            exact ⟨rfl, hb9H.out⟩
          · have dn : ((nn.root : Int) != 0) = true := by simp; omega
            have hA2 := Lib.hid (add_at hj14.out.swap qn (by omega) (by have h9 := hsecond.out; simp only [List.append_assoc] at h9 ⊢; exact h9) hnkH.out)
            go_wp2_with fail
            refine hA2.out.mono ?_
            rintro e w15 ⟨t15, R15, rfl, hj, hT15⟩
            have hj15 := Lib.hid hj
            have hT15H := Lib.hid (hT14H.out.trans hT15)
            clear hj hT15 hA2
            have heq : (x.prs ++ (mm.prs ++ y.prs)) ++ (nn.prs ++ z.prs) = m := by rw [← hall.out]; simp only [List.append_assoc]
            have hj16 := hj15.out
            rw [heq] at hj16
            have hcf9 := Lib.hid (hcf.out.turn hT15H.out)
            have hbw := Lib.hid (hb2H.out.trans (hT15H.out.to_below hb2H.out.size hF1H.out))
            obtain ⟨tk, hTk⟩ := hj16.tree
            have hIs := Lib.hid (paIs_at (c := c2) hTk rd hj16.kd hcf9.out)
            have hAl2 := Lib.hid (fun W (hb9 : Below _ _ W) => sall_at (hj16.st.below hb9))
            clear hTk heq hj15 hj14 hT14H hT15H qn hcf9 hsecond hnkH hall hris1 hj16
            go_wp2_with fail
            refine hIs.out.mono ?_
            rintro e w16 ⟨rfl, hb16⟩
            have hb16H := Lib.hid (hbw.out.trans (hb16.mono hbw.out.size))
            have hAl3 := Lib.hid (hAl2.out _ hb16)
            clear hIs hAl2 hb16
            go_wp2_with fail
            refine hAl3.out.mono ?_
            rintro e w17 ⟨v17, Hs2, rfl, hpm, hro, hb17⟩
            obtain ⟨A17, c17, rfl⟩ := ownsRow_form hro
            have hlenS2 : Hs2.length = 3 * m.length := by rw [hpm.length_eq, hHlH.out]
            rw [hlenS2]
            have e4 : (((3 * m.length : Nat) : Int) == ((3 * m.length : Nat) : Int)) = true := by simp
            have hb17H := Lib.hid (hb16H.out.trans (hb17.mono hb16H.out.size))
            clear hb17 hpm hro hlenS2 hAl3
            have hAw := Lib.hid (awake14_at (hTH.out.below hb17H.out (tab_lt hTH.out)))
            go_wp2_with fail
            refine hAw.out.mono ?_
            rintro e w9 ⟨rfl, hb9⟩
            have hb9H := Lib.hid (hb17H.out.trans (hb9.mono hb17H.out.size))
            clear hb9 hAw
            go_wp2
            go_ret
            exact ⟨rfl, hb9H.out⟩
        · have dm : ((mm.root : Int) != 0) = true := by simp; omega
          have hA1 := Lib.hid (add_at hj13H.out qm (by omega) hfirst.out hmkH.out)
          go_wp2_with fail
          refine hA1.out.mono ?_
          rintro e w14 ⟨t14, R14, rfl, hj, hT14⟩
          have hj14 := Lib.hid hj
          have hT14H := Lib.hid (hT13H.out.trans hT14)
          clear hj hT14 hA1 hT13H
          clear hj13H hmkH hfirst qm
          by_cases qn : nn.root = 0
          · have dn : ((nn.root : Int) != 0) = false := by simp; omega
            have hj15 := Lib.hid (hj14.out.swap.skip (A := x.prs ++ (mm.prs ++ y.prs)) (C := z.prs) qn (by simp only [List.append_assoc]))
            have hT15H := Lib.hid hT14H.out
            have heq : (x.prs ++ (mm.prs ++ y.prs)) ++ (nn.prs ++ z.prs) = m := by rw [← hall.out]; simp only [List.append_assoc]
            have hj16 := hj15.out
            rw [heq] at hj16
            have hcf9 := Lib.hid (hcf.out.turn hT15H.out)
            have hbw := Lib.hid (hb2H.out.trans (hT15H.out.to_below hb2H.out.size hF1H.out))
            obtain ⟨tk, hTk⟩ := hj16.tree
            have hIs := Lib.hid (paIs_at (c := c2) hTk rd hj16.kd hcf9.out)
            have hAl2 := Lib.hid (fun W (hb9 : Below _ _ W) => sall_at (hj16.st.below hb9))
            clear hTk heq hj15 hj14 hT14H hT15H qn hcf9 hsecond hnkH hall hris1 hj16
            go_wp2_with fail
            refine hIs.out.mono ?_
            rintro e w16 ⟨rfl, hb16⟩
            have hb16H := Lib.hid (hbw.out.trans (hb16.mono hbw.out.size))
            have hAl3 := Lib.hid (hAl2.out _ hb16)
            clear hIs hAl2 hb16
            go_wp2_with fail
            refine hAl3.out.mono ?_
            rintro e w17 ⟨v17, Hs2, rfl, hpm, hro, hb17⟩
            obtain ⟨A17, c17, rfl⟩ := ownsRow_form hro
            have hlenS2 : Hs2.length = 3 * m.length := by rw [hpm.length_eq, hHlH.out]
            rw [hlenS2]
            have e4 : (((3 * m.length : Nat) : Int) == ((3 * m.length : Nat) : Int)) = true := by simp
            have hb17H := Lib.hid (hb16H.out.trans (hb17.mono hb16H.out.size))
            clear hb17 hpm hro hlenS2 hAl3
            have hAw := Lib.hid (awake14_at (hTH.out.below hb17H.out (tab_lt hTH.out)))
            go_wp2_with fail
            refine hAw.out.mono ?_
            rintro e w9 ⟨rfl, hb9⟩
            have hb9H := Lib.hid (hb17H.out.trans (hb9.mono hb17H.out.size))
            clear hb9 hAw
            go_wp2
            go_ret
            exact ⟨rfl, hb9H.out⟩
          · have dn : ((nn.root : Int) != 0) = true := by simp; omega
            have hA2 := Lib.hid (add_at hj14.out.swap qn (by omega) (by have h9 := hsecond.out; simp only [List.append_assoc] at h9 ⊢; exact h9) hnkH.out)
            go_wp2_with fail
            refine hA2.out.mono ?_
            rintro e w15 ⟨t15, R15, rfl, hj, hT15⟩
            have hj15 := Lib.hid hj
            have hT15H := Lib.hid (hT14H.out.trans hT15)
            clear hj hT15 hA2
            have heq : (x.prs ++ (mm.prs ++ y.prs)) ++ (nn.prs ++ z.prs) = m := by rw [← hall.out]; simp only [List.append_assoc]
            have hj16 := hj15.out
            rw [heq] at hj16
            have hcf9 := Lib.hid (hcf.out.turn hT15H.out)
            have hbw := Lib.hid (hb2H.out.trans (hT15H.out.to_below hb2H.out.size hF1H.out))
            obtain ⟨tk, hTk⟩ := hj16.tree
            have hIs := Lib.hid (paIs_at (c := c2) hTk rd hj16.kd hcf9.out)
            have hAl2 := Lib.hid (fun W (hb9 : Below _ _ W) => sall_at (hj16.st.below hb9))
            clear hTk heq hj15 hj14 hT14H hT15H qn hcf9 hsecond hnkH hall hris1 hj16
            go_wp2_with fail
            refine hIs.out.mono ?_
            rintro e w16 ⟨rfl, hb16⟩
            have hb16H := Lib.hid (hbw.out.trans (hb16.mono hbw.out.size))
            have hAl3 := Lib.hid (hAl2.out _ hb16)
            clear hIs hAl2 hb16
            go_wp2_with fail
            refine hAl3.out.mono ?_
            rintro e w17 ⟨v17, Hs2, rfl, hpm, hro, hb17⟩
            obtain ⟨A17, c17, rfl⟩ := ownsRow_form hro
            have hlenS2 : Hs2.length = 3 * m.length := by rw [hpm.length_eq, hHlH.out]
            rw [hlenS2]
            have e4 : (((3 * m.length : Nat) : Int) == ((3 * m.length : Nat) : Int)) = true := by simp
            have hb17H := Lib.hid (hb16H.out.trans (hb17.mono hb16H.out.size))
            clear hb17 hpm hro hlenS2 hAl3
            have hAw := Lib.hid (awake14_at (hTH.out.below hb17H.out (tab_lt hTH.out)))
            go_wp2_with fail
            refine hAw.out.mono ?_
            rintro e w9 ⟨rfl, hb9⟩
            have hb9H := Lib.hid (hb17H.out.trans (hb9.mono hb17H.out.size))
            clear hb9 hAw
            go_wp2
            go_ret
            exact ⟨rfl, hb9H.out⟩
      | true =>
        have hC1 := Lib.hid (cutYZ_at hcs2.out (by omega) hris1.out)
        go_wp2_with fail
        refine hC1.out.mono ?_
        rintro e w12 ⟨u, R12, rfl, hf12, hT12⟩
        have hC2 := Lib.hid (half_at hf12 (by omega))
        have hT12H := Lib.hid (hT7H.out.trans hT12)
        clear hf12 hT12 hC1 dsx dsum b1 b2 b3 b4
        go_wp2_with fail
        refine hC2.out.mono ?_
        rintro e w13 ⟨r, R13, rfl, hj13, hT13⟩
        have hj13H := Lib.hid hj13
        have hT13H := Lib.hid (hT12H.out.trans hT13)
        clear hj13 hT13 hC2 hcs2 hT12H hT7H
        by_cases qm : mm.root = 0
        · have dm : ((mm.root : Int) != 0) = false := by simp; omega
          have hj14 := Lib.hid (hj13H.out.skip (A := x.prs) (C := y.prs ++ z.prs) qm rfl)
          have hT14H := Lib.hid hT13H.out
          clear hT13H
          clear hj13H hmkH hfirst qm
          by_cases qn : nn.root = 0
          · have dn : ((nn.root : Int) != 0) = false := by simp; omega
            have hj15 := Lib.hid (hj14.out.swap.skip (A := x.prs ++ (mm.prs ++ y.prs)) (C := z.prs) qn (by simp only [List.append_assoc]))
            have hT15H := Lib.hid hT14H.out
            have heq : (x.prs ++ (mm.prs ++ y.prs)) ++ (nn.prs ++ z.prs) = m := by rw [← hall.out]; simp only [List.append_assoc]
            have hj16 := hj15.out
            rw [heq] at hj16
            have hcf9 := Lib.hid (hcf.out.turn hT15H.out)
            have hbw := Lib.hid (hb2H.out.trans (hT15H.out.to_below hb2H.out.size hF1H.out))
            obtain ⟨tk, hTk⟩ := hj16.tree
            have hIs := Lib.hid (paIs_at (c := c2) hTk rd hj16.kd hcf9.out)
            have hAl2 := Lib.hid (fun W (hb9 : Below _ _ W) => sall_at (hj16.st.below hb9))
            clear hTk heq hj15 hj14 hT14H hT15H qn hcf9 hsecond hnkH hall hris1 hj16
            go_wp2_with fail
            refine hIs.out.mono ?_
            rintro e w16 ⟨rfl, hb16⟩
            have hb16H := Lib.hid (hbw.out.trans (hb16.mono hbw.out.size))
            have hAl3 := Lib.hid (hAl2.out _ hb16)
            clear hIs hAl2 hb16
            go_wp2_with fail
            refine hAl3.out.mono ?_
            rintro e w17 ⟨v17, Hs2, rfl, hpm, hro, hb17⟩
            obtain ⟨A17, c17, rfl⟩ := ownsRow_form hro
            have hlenS2 : Hs2.length = 3 * m.length := by rw [hpm.length_eq, hHlH.out]
            rw [hlenS2]
            have e4 : (((3 * m.length : Nat) : Int) == ((3 * m.length : Nat) : Int)) = true := by simp
            have hb17H := Lib.hid (hb16H.out.trans (hb17.mono hb16H.out.size))
            clear hb17 hpm hro hlenS2 hAl3
            have hAw := Lib.hid (awake14_at (hTH.out.below hb17H.out (tab_lt hTH.out)))
            go_wp2_with fail
            refine hAw.out.mono ?_
            rintro e w9 ⟨rfl, hb9⟩
            have hb9H := Lib.hid (hb17H.out.trans (hb9.mono hb17H.out.size))
            clear hb9 hAw
            go_wp2
            go_ret
            exact ⟨rfl, hb9H.out⟩
          · have dn : ((nn.root : Int) != 0) = true := by simp; omega
            have hA2 := Lib.hid (add_at hj14.out.swap qn (by omega) (by have h9 := hsecond.out; simp only [List.append_assoc] at h9 ⊢; exact h9) hnkH.out)
            go_wp2_with fail
            refine hA2.out.mono ?_
            rintro e w15 ⟨t15, R15, rfl, hj, hT15⟩
            have hj15 := Lib.hid hj
            have hT15H := Lib.hid (hT14H.out.trans hT15)
            clear hj hT15 hA2
            have heq : (x.prs ++ (mm.prs ++ y.prs)) ++ (nn.prs ++ z.prs) = m := by rw [← hall.out]; simp only [List.append_assoc]
            have hj16 := hj15.out
            rw [heq] at hj16
            have hcf9 := Lib.hid (hcf.out.turn hT15H.out)
            have hbw := Lib.hid (hb2H.out.trans (hT15H.out.to_below hb2H.out.size hF1H.out))
            obtain ⟨tk, hTk⟩ := hj16.tree
            have hIs := Lib.hid (paIs_at (c := c2) hTk rd hj16.kd hcf9.out)
            have hAl2 := Lib.hid (fun W (hb9 : Below _ _ W) => sall_at (hj16.st.below hb9))
            clear hTk heq hj15 hj14 hT14H hT15H qn hcf9 hsecond hnkH hall hris1 hj16
            go_wp2_with fail
            refine hIs.out.mono ?_
            rintro e w16 ⟨rfl, hb16⟩
            have hb16H := Lib.hid (hbw.out.trans (hb16.mono hbw.out.size))
            have hAl3 := Lib.hid (hAl2.out _ hb16)
            clear hIs hAl2 hb16
            go_wp2_with fail
            refine hAl3.out.mono ?_
            rintro e w17 ⟨v17, Hs2, rfl, hpm, hro, hb17⟩
            obtain ⟨A17, c17, rfl⟩ := ownsRow_form hro
            have hlenS2 : Hs2.length = 3 * m.length := by rw [hpm.length_eq, hHlH.out]
            rw [hlenS2]
            have e4 : (((3 * m.length : Nat) : Int) == ((3 * m.length : Nat) : Int)) = true := by simp
            have hb17H := Lib.hid (hb16H.out.trans (hb17.mono hb16H.out.size))
            clear hb17 hpm hro hlenS2 hAl3
            have hAw := Lib.hid (awake14_at (hTH.out.below hb17H.out (tab_lt hTH.out)))
            go_wp2_with fail
            refine hAw.out.mono ?_
            rintro e w9 ⟨rfl, hb9⟩
            have hb9H := Lib.hid (hb17H.out.trans (hb9.mono hb17H.out.size))
            clear hb9 hAw
            go_wp2
            go_ret
            exact ⟨rfl, hb9H.out⟩
        · have dm : ((mm.root : Int) != 0) = true := by simp; omega
          have hA1 := Lib.hid (add_at hj13H.out qm (by omega) hfirst.out hmkH.out)
          go_wp2_with fail
          refine hA1.out.mono ?_
          rintro e w14 ⟨t14, R14, rfl, hj, hT14⟩
          have hj14 := Lib.hid hj
          have hT14H := Lib.hid (hT13H.out.trans hT14)
          clear hj hT14 hA1 hT13H
          clear hj13H hmkH hfirst qm
          by_cases qn : nn.root = 0
          · have dn : ((nn.root : Int) != 0) = false := by simp; omega
            have hj15 := Lib.hid (hj14.out.swap.skip (A := x.prs ++ (mm.prs ++ y.prs)) (C := z.prs) qn (by simp only [List.append_assoc]))
            have hT15H := Lib.hid hT14H.out
            have heq : (x.prs ++ (mm.prs ++ y.prs)) ++ (nn.prs ++ z.prs) = m := by rw [← hall.out]; simp only [List.append_assoc]
            have hj16 := hj15.out
            rw [heq] at hj16
            have hcf9 := Lib.hid (hcf.out.turn hT15H.out)
            have hbw := Lib.hid (hb2H.out.trans (hT15H.out.to_below hb2H.out.size hF1H.out))
            obtain ⟨tk, hTk⟩ := hj16.tree
            have hIs := Lib.hid (paIs_at (c := c2) hTk rd hj16.kd hcf9.out)
            have hAl2 := Lib.hid (fun W (hb9 : Below _ _ W) => sall_at (hj16.st.below hb9))
            clear hTk heq hj15 hj14 hT14H hT15H qn hcf9 hsecond hnkH hall hris1 hj16
            go_wp2_with fail
            refine hIs.out.mono ?_
            rintro e w16 ⟨rfl, hb16⟩
            have hb16H := Lib.hid (hbw.out.trans (hb16.mono hbw.out.size))
            have hAl3 := Lib.hid (hAl2.out _ hb16)
            clear hIs hAl2 hb16
            go_wp2_with fail
            refine hAl3.out.mono ?_
            rintro e w17 ⟨v17, Hs2, rfl, hpm, hro, hb17⟩
            obtain ⟨A17, c17, rfl⟩ := ownsRow_form hro
            have hlenS2 : Hs2.length = 3 * m.length := by rw [hpm.length_eq, hHlH.out]
            rw [hlenS2]
            have e4 : (((3 * m.length : Nat) : Int) == ((3 * m.length : Nat) : Int)) = true := by simp
            have hb17H := Lib.hid (hb16H.out.trans (hb17.mono hb16H.out.size))
            clear hb17 hpm hro hlenS2 hAl3
            have hAw := Lib.hid (awake14_at (hTH.out.below hb17H.out (tab_lt hTH.out)))
            go_wp2_with fail
            refine hAw.out.mono ?_
            rintro e w9 ⟨rfl, hb9⟩
            have hb9H := Lib.hid (hb17H.out.trans (hb9.mono hb17H.out.size))
            clear hb9 hAw
            go_wp2
            go_ret
            exact ⟨rfl, hb9H.out⟩
          · have dn : ((nn.root : Int) != 0) = true := by simp; omega
            have hA2 := Lib.hid (add_at hj14.out.swap qn (by omega) (by have h9 := hsecond.out; simp only [List.append_assoc] at h9 ⊢; exact h9) hnkH.out)
            go_wp2_with fail
            refine hA2.out.mono ?_
            rintro e w15 ⟨t15, R15, rfl, hj, hT15⟩
            have hj15 := Lib.hid hj
            have hT15H := Lib.hid (hT14H.out.trans hT15)
            clear hj hT15 hA2
            have heq : (x.prs ++ (mm.prs ++ y.prs)) ++ (nn.prs ++ z.prs) = m := by rw [← hall.out]; simp only [List.append_assoc]
            have hj16 := hj15.out
            rw [heq] at hj16
            have hcf9 := Lib.hid (hcf.out.turn hT15H.out)
            have hbw := Lib.hid (hb2H.out.trans (hT15H.out.to_below hb2H.out.size hF1H.out))
            obtain ⟨tk, hTk⟩ := hj16.tree
            have hIs := Lib.hid (paIs_at (c := c2) hTk rd hj16.kd hcf9.out)
            have hAl2 := Lib.hid (fun W (hb9 : Below _ _ W) => sall_at (hj16.st.below hb9))
            clear hTk heq hj15 hj14 hT14H hT15H qn hcf9 hsecond hnkH hall hris1 hj16
            go_wp2_with fail
            refine hIs.out.mono ?_
            rintro e w16 ⟨rfl, hb16⟩
            have hb16H := Lib.hid (hbw.out.trans (hb16.mono hbw.out.size))
            have hAl3 := Lib.hid (hAl2.out _ hb16)
            clear hIs hAl2 hb16
            go_wp2_with fail
            refine hAl3.out.mono ?_
            rintro e w17 ⟨v17, Hs2, rfl, hpm, hro, hb17⟩
            obtain ⟨A17, c17, rfl⟩ := ownsRow_form hro
            have hlenS2 : Hs2.length = 3 * m.length := by rw [hpm.length_eq, hHlH.out]
            rw [hlenS2]
            have e4 : (((3 * m.length : Nat) : Int) == ((3 * m.length : Nat) : Int)) = true := by simp
            have hb17H := Lib.hid (hb16H.out.trans (hb17.mono hb16H.out.size))
            clear hb17 hpm hro hlenS2 hAl3
            have hAw := Lib.hid (awake14_at (hTH.out.below hb17H.out (tab_lt hTH.out)))
            go_wp2_with fail
            refine hAw.out.mono ?_
            rintro e w9 ⟨rfl, hb9⟩
            have hb9H := Lib.hid (hb17H.out.trans (hb9.mono hb17H.out.size))
            clear hb9 hAw
            go_wp2
            go_ret
            exact ⟨rfl, hb9H.out⟩
end Go.Proofs.YtjpmlneihbckpaaGreatDoor
