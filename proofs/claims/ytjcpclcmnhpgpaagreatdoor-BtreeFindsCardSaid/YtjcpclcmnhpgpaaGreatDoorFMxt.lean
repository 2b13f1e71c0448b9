/-
  The seat's own texts, part xt: Bf3, Bf4.
-/
import Derived.Test.YtjcpclcmnhpgpaaGreatDoorFMxs

set_option linter.unusedVariables false
set_option linter.unusedSimpArgs false
namespace Go.Proofs.YtjcpclcmnhpgpaaGreatDoor
open Go.RowKit Go.Shelf
section
variable {w w' : World} {s : Nat} {F F' : Nat → Prop} {R R' : Nat → Option (List Nat)} {H H' : List Nat} {P q most last G t root : Nat} {its : List It} {ns : List Nat} {hg m : Nat}
theorem BtIn.insert_at (ht : BN.Deg t) (h : BtIn w s F R H P q most last G t root its ns hg m) (it : It) (hi : it.At R) (hm : 2 ≤ m) (hnd : ((ns ++ its.flatMap It.hs) ++ it.hs).Nodup) (hb : its.length < 549755813888) (h64 : it.kh < 18446744073709551616 ∧ it.vh < 18446744073709551616) :
    Calls Tryz.prog 12 #[.pointer (some ⟨s, 0, none⟩), .int .i64 (t : Nat), .int .u64 (root : Nat), .agg #[.int .u64 (it.kh : Nat), .int .u64 (it.vh : Nat)]] w (InsIn w s F H P q most last G t root its ns hg m it) :=
  (btInsert_at h.st h.sh ht root h.rt it.kh it.vh h64.1 h64.2).mono fun _ _ hI => h.insert ht it hi hm hnd hb hI
theorem BtIn.find_at (ht : BN.Deg t) (h : BtIn w s F R H P q most last G t root its ns hg m) (hb : its.length < 549755813888) (key : ByteArray) :
    Calls Tryz.prog 15 #[.pointer (some ⟨s, 0, none⟩), .int .i64 (t : Nat), .int .u64 (root : Nat), .string key] w fun e w' => e = .returned (.tuple #[itV ((Bt.findI its key).map fun i => (i.kh, i.vh)), .bool (Bt.findI its key).isSome]) ∧ Below w.heap.size w w' := by
  obtain ⟨N, hr, -⟩ := h.st.rd
  have := btFind_at hr h.sh ht root h.rt key
  rw [h.tr.down ht h.z h.ow hb key] at this
  simpa using this
theorem BtIn.rank_at (ht : BN.Deg t) (h : BtIn w s F R H P q most last G t root its ns hg m) (hb : its.length < 549755813888) (key : ByteArray) :
    Calls Tryz.prog 16 #[.pointer (some ⟨s, 0, none⟩), .int .i64 (t : Nat), .int .u64 (root : Nat), .string key] w fun e w' => e = .returned (.int .i64 (rankL (Bt.prs its) key : Nat)) ∧ Below w.heap.size w w' := by
  obtain ⟨N, hr, -⟩ := h.st.rd
  have := btRank_at hr h.sh ht root h.rt key
  rw [h.tr.down ht h.z h.ow hb key] at this
  exact this
theorem Bt.Tree.size (ht : BN.Deg t) (h : Bt.Tree R t root its ns hg) (hz : R 0 = none) (hb : its.length < 549755813888) : bszR R t root = (its.length : Nat) := by
  have hs : (bnG R t root).size = its.length := by
    rcases h with ⟨rfl, rfl, _, _⟩ | ⟨a, _, h⟩
    · unfold bnG; rw [hz]; rfl
    · exact h.sizeOf ht
  unfold bszR
  rw [hs]
  exact IntWalk.wrap64_in _ (by omega)
theorem BtIn.size_at (ht : BN.Deg t) (h : BtIn w s F R H P q most last G t root its ns hg m) (hb : its.length < 549755813888) :
    Calls Tryz.prog 28 #[.pointer (some ⟨s, 0, none⟩), .int .i64 (t : Nat), .int .u64 (root : Nat)] w fun e w' => e = .returned (.int .i64 (its.length : Nat)) ∧ Below w.heap.size w w' := by
  obtain ⟨N, hr, -⟩ := h.st.rd
  have := btSz_at hr t ht root h.rt
  rw [h.tr.size ht h.z hb] at this
  exact this
theorem Bt.Tree.height (ht : BN.Deg t) (h : Bt.Tree R t root its ns hg) (hz : R 0 = none) (hb : its.length < 549755813888) : bheight R t 40 root = hg := by
  rcases h with ⟨rfl, _, _, rfl⟩ | ⟨a, rfl, h⟩
  · unfold bheight
    rw [if_pos (by unfold bnE; rw [hz]; simp)]
  · exact Bt.height_right ht a 1 40 ⟨root, its, ns⟩ h (h.high ht hb)
theorem BtIn.height_at (ht : BN.Deg t) (h : BtIn w s F R H P q most last G t root its ns hg m) (hb : its.length < 549755813888) :
    Calls Tryz.prog 23 #[.pointer (some ⟨s, 0, none⟩), .int .i64 (t : Nat), .int .u64 (root : Nat)] w fun e w' => e = .returned (.int .i64 (hg : Nat)) ∧ Below w.heap.size w w' := by
  obtain ⟨N, hr, -⟩ := h.st.rd
  have := btHeight_at hr t ht root h.rt
  rw [h.tr.height ht h.z hb] at this
  exact this
theorem Bt.Tree.recs (h : Bt.Tree R t root its ns hg) : ∀ x ∈ ns, ∃ ws, R x = some ws ∧ ws.length = 6 * t := fun x hx => by
  rcases h with ⟨_, _, h2, _⟩ | ⟨a, _, h2⟩
  · rw [h2] at hx; simp at hx
  · exact h2.ns_rec x hx
theorem BtIn.words (h : BtIn w s F R H P q most last G t root its ns hg m) {n : Nat} (hw : WordsR R H P n) : (6 * t + 2) * ns.length ≤ n := by
  obtain ⟨p, rfl, _, _, hsum⟩ := hw
  have h1 := sum_sub (f := fun x => ((R x).getD []).length + 2) ns H (List.nodup_append.1 h.ow.nodup).1 (fun x hx => (h.st.dom x).2 (h.ne x (List.mem_append.2 (.inl hx))))
  have h2 : (ns.map fun x => ((R x).getD []).length + 2) = List.replicate ns.length (6 * t + 2) := by
    rw [List.eq_replicate_iff]
    refine ⟨by simp, fun b hb => ?_⟩
    obtain ⟨x, hx, rfl⟩ := List.mem_map.1 hb
    obtain ⟨ws, h3, h4⟩ := h.tr.recs x hx
    rw [h3, ← h4]; rfl
  rw [h2, List.sum_replicate_nat] at h1
  rw [Nat.mul_comm]
  omega
theorem BtIn.nodes_eq (ht : BN.Deg t) (h : BtIn w s F R H P q most last G t root its ns hg m) (hb : its.length < 549755813888) {n : Nat} (hw : WordsR R H P n) : bnodes R t (mostN n t) 40 [] root = ns := by
  have h1 := h.words hw
  have t1 := ht.1
  have hm : ns.length ≤ mostN n t := by
    unfold mostN
    have h2 : ns.length ≤ n / (6 * t) := by
      rw [Nat.le_div_iff_mul_le (by omega), Nat.mul_comm]
      refine Nat.le_trans (Nat.mul_le_mul_right _ (show 6 * t ≤ 6 * t + 2 by omega)) h1
    omega
  rcases h.tr with ⟨rfl, _, h3, _⟩ | ⟨a, _, h3⟩
  · rw [h3]
    unfold bnodes
    rw [if_pos (.inl (by unfold bnE; rw [h.z]; simp))]
  · have := Bt.nodes_right ht (mostN n t) a 1 40 ⟨root, its, ns⟩ [] h3 (h3.high ht hb) (by simpa using hm)
    simpa using this
theorem BtIn.nodes_at (ht : BN.Deg t) (h : BtIn w s F R H P q most last G t root its ns hg m) (hb : its.length < 549755813888) :
    Calls Tryz.prog 20 #[.pointer (some ⟨s, 0, none⟩), .int .i64 (t : Nat), .int .u64 (root : Nat)] w fun e w' => ∃ v', e = .returned v' ∧ w'.ownsRow w.heap.size 31 1 v' ns.length (hsV ns) ∧ Below w.heap.size w w' := by
  obtain ⟨N, hr, hw⟩ := h.st.rd
  have := btNods_at hr t ht root h.rt
  rw [h.nodes_eq ht hb hw] at this
  exact this
theorem Bt.Tree.at (ht : BN.Deg t) (h : Bt.Tree R t root its ns hg) (hz : R 0 = none) (hb : its.length < 549755813888) (k : Int) : batR R t root k = if 0 ≤ k ∧ k < its.length then (its[k.toNat]?).map (fun i => (i.kh, i.vh)) else none := by
  unfold batR
  rw [h.size ht hz hb]
  by_cases hk : 0 ≤ k ∧ k < its.length
  · rw [if_neg (by omega), if_pos hk]
    rcases h with ⟨_, rfl, _, _⟩ | ⟨a, _, h⟩
    · simp at hk; omega
    · obtain ⟨j, rfl⟩ := Int.eq_ofNat_of_zero_le hk.1
      exact Bt.bat_right ht a 1 40 ⟨root, its, ns⟩ j h (h.high ht hb) (by show j < its.length; omega) (by show its.length < _; omega)
  · rw [if_pos (by omega), if_neg hk]
theorem BtIn.at_at (ht : BN.Deg t) (h : BtIn w s F R H P q most last G t root its ns hg m) (hb : its.length < 549755813888) (k : Int) :
    Calls Tryz.prog 19 #[.pointer (some ⟨s, 0, none⟩), .int .i64 (t : Nat), .int .u64 (root : Nat), .int .i64 k] w fun e w' => e = .returned (.tuple #[itV (if 0 ≤ k ∧ k < its.length then (its[k.toNat]?).map (fun i => (i.kh, i.vh)) else none), .int .i64 (if 0 ≤ k ∧ k < its.length then 0 else 2)]) ∧ Below w.heap.size w w' := by
  obtain ⟨N, hr, -⟩ := h.st.rd
  have := btAt_at hr ht root h.rt k
  rw [h.tr.at ht h.z hb k] at this
  by_cases hk : 0 ≤ k ∧ k < its.length
  · simp only [if_pos hk] at this ⊢
    have h1 : k.toNat < its.length := by omega
    rw [List.getElem?_eq_getElem h1] at this ⊢
    exact this
  · simp only [if_neg hk] at this ⊢
    exact this
end
end Go.Proofs.YtjcpclcmnhpgpaaGreatDoor

set_option linter.unusedVariables false
set_option linter.unusedSimpArgs false
namespace Go.Proofs.YtjcpclcmnhpgpaaGreatDoor
open Go.RowKit Go.Shelf
def keys4 : List Pr := [(⟨#[97]⟩, ⟨#[]⟩), (⟨#[98]⟩, ⟨#[]⟩), (⟨#[99]⟩, ⟨#[]⟩), (⟨#[100]⟩, ⟨#[]⟩)]
def keyCC : ByteArray := ⟨#[99, 99]⟩
theorem keys4_put : ∀ k (h : k < 4), putL (keys4.take k) (keys4[k]'h) = keys4.take (k + 1) ∧ ¬ 0 ≤ findL (keys4.take k) (keys4[k]'h).1 ∧ (keys4[k]'h).1.size ≤ 1000 ∧ (keys4[k]'h).2 = ⟨#[]⟩ := by decide +kernel
theorem keys4_cc : rankL keys4 keyCC = 3 := by decide +kernel
theorem Bt.Tree.hg_le {R : Nat → Option (List Nat)} {t root : Nat} {its : List It} {ns : List Nat} {hg : Nat} (ht : BN.Deg t) (h : Bt.Tree R t root its ns hg) (hb : its.length < 549755813888) : hg ≤ 40 := by
  rcases h with ⟨_, _, _, rfl⟩ | ⟨a, rfl, h⟩
  · omega
  · exact h.high ht hb
theorem Bt.Tree.four {R : Nat → Option (List Nat)} {root : Nat} {its : List It} {ns : List Nat} {hg : Nat} (h : Bt.Tree R 2 root its ns hg) (hl : its.length = 4) : hg = 2 ∧ ns.length = 3 := by
  have ht : BN.Deg 2 := ⟨by omega, by omega⟩
  rcases h with ⟨_, rfl, _, _⟩ | ⟨a, rfl, h⟩
  · simp at hl
  · have hbig := h.big ht
    dsimp only at hbig
    rw [hl] at hbig
    match a, h, hbig with
    | 0, h, _ =>
      exfalso
      have h1 := h.2.2.2.1
      dsimp only at h1
      have h2 : (Bt.leafOf its).keys.length = 4 := by show (its.map (·.kh)).length = 4; rw [List.length_map, hl]
      omega
    | 1, h, _ =>
      obtain ⟨c, l, h1, h2, h3, h4, h5, h6⟩ := h
      dsimp only at h1 h2
      have hc := h5.2.1
      have hcn := h5.1
      have hsum : ∀ l : List Lk, (∀ p ∈ l, Bt.At R 2 0 (2 - 1) p.2) → 2 * l.length ≤ (Bt.rest l).length ∧ (l.flatMap fun p => p.2.ns).length = l.length := by
        intro l
        induction l with
        | nil => intro _; exact ⟨by simp, rfl⟩
        | cons p l ih =>
          intro h
          obtain ⟨g1, g2⟩ := ih fun q hq => h q (List.mem_cons_of_mem _ hq)
          have g3 := h p (by simp)
          have g4 := g3.1
          have g5 := g3.2.1
          refine ⟨?_, ?_⟩
          · rw [Bt.rest_cons]
            simp only [List.length_cons, List.length_append]
            omega
          · rw [List.flatMap_cons, List.length_append, g4, g2]
            simp
            omega
      obtain ⟨g1, g2⟩ := hsum l h6
      rw [h1] at hl
      unfold Bt.itsOf at hl
      rw [List.length_append] at hl
      have : l.length = 1 := by omega
      refine ⟨rfl, ?_⟩
      rw [h2]
      unfold Bt.nsOf
      rw [List.length_cons, List.length_append, g2, hcn]
      simp
      omega
    | a + 2, h, hbig =>
      exfalso
      have : 2 ^ (a + 2) = 4 * 2 ^ a := by rw [Nat.pow_add]; omega
      have h3 : 0 < 2 ^ a := Nat.pow_pos (by omega)
      rw [this] at hbig
      omega
theorem findI_none_of {l : List It} {key : ByteArray} (hr : Rising (Bt.prs l)) (h : ¬ 0 ≤ findL (Bt.prs l) key) : Bt.findI l key = none := by
  have h1 := (Bt.findI_has (key := key) hr).1
  cases hf : Bt.findI l key with
  | none => rfl
  | some i =>
    rw [hf] at h1
    rw [h1] at h
    simp at h
set_option maxHeartbeats 4000000 in
set_option maxRecDepth 100000 in
theorem awake16_at {w : World} (hT : Tab w) : Calls Tryz.prog 9 #[] w fun e w' => e = .returned (.bool true) ∧ Below w.heap.size w w' := by
  have hN := Lib.hid (snew_at hT 262144 1000 4294967295 (by omega) (by omega) (by omega) (by omega) (by omega))
  have ht2 : BN.Deg 2 := ⟨by omega, by omega⟩
  have htH := Lib.hid ht2
  clear hT ht2
  go_enter Tryz.func9, Tryz.ntmps9
  go_wp2_with fail
  refine hN.out.mono ?_
  rintro e w1 ⟨s, F, rfl, hS, hs1, hF1, hb1⟩
  have hb1H := Lib.hid hb1
  have hF1H := Lib.hid hF1
  have hSH := Lib.hid hS
  have hz1 := hb1.size
  clear hb1 hF1 hS hN
  go_wp2_with fail
  obtain ⟨W2, hW2⟩ : ∃ W, W = w1.alloc (Obj.cells #[.string ⟨#[97]⟩, .string ⟨#[98]⟩, .string ⟨#[99]⟩, .string ⟨#[100]⟩] 9) := ⟨_, rfl⟩
  obtain ⟨b2, hb2e⟩ : ∃ b, b = w1.heap.size := ⟨_, rfl⟩
  have hX2 : Box W2 b2 9 [.string ⟨#[97]⟩, .string ⟨#[98]⟩, .string ⟨#[99]⟩, .string ⟨#[100]⟩] := by rw [hW2, hb2e]; exact Box.new w1 9 [.string ⟨#[97]⟩, .string ⟨#[98]⟩, .string ⟨#[99]⟩, .string ⟨#[100]⟩]
  have hFb2 : ¬ F b2 := fun hf => by have := hSH.out.lt hf; omega
  have hcell : Hid (∀ k (hk : k < 4), W2.cell? ⟨b2, k, none⟩ = some (.string (keys4[k]'hk).1)) := Lib.hid fun k hk => by
    match k, hk with
    | 0, _ => exact hX2.at' (i := 0) rfl
    | 1, _ => exact hX2.at' (i := 1) rfl
    | 2, _ => exact hX2.at' (i := 2) rfl
    | 3, _ => exact hX2.at' (i := 3) rfl
  have hb2 : Below w1.heap.size w1 W2 := by rw [hW2]; exact (Below.refl _ _).alloc (Nat.le_refl _) _
  have hSt2 : Hid (BtIn W2 s F (fun _ => none) [] 0 262144 1000 4294967295 0 2 0 [] [] 0 0) := Lib.hid (BtIn.start (hSH.out.below hb2) 2)
  have hB2H := Lib.hid (hb1H.out.trans (hb2.mono hb1H.out.size))
  have hFbH := Lib.hid hFb2
  rw [← hW2, ← hb2e]
  clear hX2 hb2 hW2 hb2e hSH hz1 hb1H hFb2
  go_loopw [3, 5] (fun rv iv wr => ∃ (k root : Nat) (its : List It) (ns : List Nat) (hg : Nat) (F' : Nat → Prop) (R' : Nat → Option (List Nat)) (H' : List Nat), k ≤ 4 ∧ iv = .int .i64 k ∧ rv = .int .u64 (root : Nat) ∧ Hid (BtIn wr s F' R' H' (6 * k + 2 * ns.length) 262144 1000 4294967295 (2 * k + ns.length) 2 root its ns hg 0) ∧ Hid (Bt.prs its = keys4.take k) ∧ Hid (Turn W2 F wr F')) (fun _ iv _ => 4 - (intOf iv).toNat)
  case atStart => exact ⟨0, 0, [], [], 0, F, _, [], by omega, rfl, rfl, by simpa using hSt2, Lib.hid rfl, Lib.hid (Turn.refl _ _)⟩
  case round =>
    obtain ⟨k, root, its, ns, hg, F', R', H', hk, rfl, rfl, hst, hpr, hT'⟩ := hrel
    by_cases hlt : k < 4
    · obtain ⟨hput, hfnd, z1, z2⟩ := keys4_put k hlt
      have q1 := hT'.out.cell (hcell.out k hlt) hFbH.out
      obtain ⟨p, hp⟩ : ∃ p, keys4[k]'hlt = p := ⟨_, rfl⟩
      rw [hp] at hput hfnd z1 z2 q1
      obtain ⟨pk, pv⟩ := p
      dsimp only at z1 z2 q1 hfnd
      subst z2
      have hlk : its.length = k := by rw [← Bt.prs_len, hpr.out, List.length_take]; exact Nat.min_eq_left hk
      have hI := Lib.hid (item16_at hst.out (pk, ⟨#[]⟩) z1 (show (⟨#[]⟩ : ByteArray).size ≤ 1000 by decide))
      have hputH := Lib.hid hput
      have hfndH := Lib.hid hfnd
      have hlkH := Lib.hid hlk
      clear hput hfnd hp hlk z1
      go_wp2_with fail
      refine hI.out.mono ?_
      intro e w3 hR
      cases hR with
      | no hb hT hl hbad =>
        exfalso
        have h1 := hst.out.len
        have h2 := hst.out.tr.ns_le htH.out
        have h3 := hlkH.out
        omega
      | @ok _ it R3 F3 H3 hik hiv hb hi hnd hT h64 hl hold =>
        obtain ⟨W4, hW4⟩ : ∃ W, W = w3.alloc (Obj.cells #[.int .u64 (it.kh : Nat), .int .u64 (it.vh : Nat)] 33) := ⟨_, rfl⟩
        have hb34 : Below w3.heap.size w3 W4 := by rw [hW4]; exact (Below.refl _ w3).alloc (Nat.le_refl _) _
        have hb := hb.below hb34
        have hIn := hb.insert_at htH.out it hi (by omega) hnd (by have := hlkH.out; omega) h64
        rw [show ((2 : Nat) : Int) = 2 from rfl] at hIn
        have hInH := Lib.hid hIn
        have hT3 := Lib.hid ((hT'.out.trans hT).trans (Turn.below hb34))
        have hbH := Lib.hid hb
        have hikH := Lib.hid (And.intro hik hiv)
        obtain ⟨kh, hkh⟩ : ∃ z, z = it.kh := ⟨_, rfl⟩
        obtain ⟨vh, hvh⟩ : ∃ z, z = it.vh := ⟨_, rfl⟩
        rw [← hkh, ← hvh] at hInH hW4 ⊢
        have hW4H := Lib.hid hW4
        clear hW4 hb34 hI hb hT hIn hik hiv hnd hi h64 hold q1 hkh hvh
        go_wp2_with fail
        rw [← hW4H.out]
        refine hInH.out.mono ?_
        intro e w4 hR4
        have hno : Bt.findI its it.k = none := findI_none_of hbH.out.ow.rise (by rw [hikH.out.1, hpr.out]; exact Int.not_le.2 hfndH.out)
        cases hR4 with
        | here hf _ _ _ => exfalso; rw [hno] at hf; cases hf
        | full hf hn he _ _ _ =>
          exfalso
          have h1 := hbH.out.len
          have h2 := hst.out.tr.ns_le htH.out
          have h3 := hlkH.out
          have h4 := hst.out.tr.hg_le htH.out (by omega)
          omega
        | @put _ now n R4 F4 H4 ns' hg' hf hl4 hn hb4 hT4 =>
          have hbA4 : Below w4.heap.size w4 (w4.alloc (Obj.cells #[.int .u64 0, .int .u64 0] 33)) := (Below.refl _ w4).alloc (Nat.le_refl _) _
          have hb4' := (hb4.more (P' := 6 * (k + 1) + 2 * ns'.length) (G' := 2 * (k + 1) + ns'.length) (by omega) (by omega)).below hbA4
          have hpr4 : Hid (Bt.prs (Bt.putI its it) = keys4.take (k + 1)) := Lib.hid (by
            rw [Bt.putI_prs hbH.out.ow.rise hno, hpr.out, ← hputH.out]
            show putL _ (it.k, it.v) = _
            rw [hikH.out.1, hikH.out.2])
          have hb4H := Lib.hid hb4'
          have hT4H := Lib.hid ((hT3.out.trans hT4).trans (Turn.below hbA4))
          clear hb4 hb4' hbA4 hT4 hf hno hInH
          go_wp2
          go_roundw
          case rel => exact ⟨k + 1, now, _, ns', hg', F4, R4, H4, by omega, by go_num, rfl, hb4H, hpr4, hT4H⟩
          case measure => simp [intOf]; omega
    · obtain rfl : k = 4 := by omega
      have hl4 : its.length = 4 := by rw [← Bt.prs_len, hpr.out]; rfl
      obtain ⟨e1, e2⟩ := hst.out.tr.four hl4
      have hHt := hst.out.height_at htH.out (by omega)
      have hSz := fun W (hb : Below wr.heap.size wr W) => (hst.out.below hb).size_at htH.out (by omega)
      have hRk := fun W (hb : Below wr.heap.size wr W) => (hst.out.below hb).rank_at htH.out (by omega) keyCC
      have hNd := fun W (hb : Below wr.heap.size wr W) => (hst.out.below hb).nodes_at htH.out (by omega)
      rw [e1] at hHt
      simp only [hl4] at hSz
      simp only [hpr.out, show keys4.take 4 = keys4 from rfl, keys4_cc] at hRk
      simp only [e2] at hNd
      unfold keyCC at hRk
      have hHtH := Lib.hid hHt
      have hSzH := Lib.hid hSz
      have hRkH := Lib.hid hRk
      have hNdH := Lib.hid hNd
      have hbw := Lib.hid (hB2H.out.trans (hT'.out.to_below hB2H.out.size hF1H.out))
      clear hst hpr hl4 e1 e2 hHt hSz hRk hNd
      go_wp2_with fail
      refine hHtH.out.mono ?_
      rintro e w5 ⟨rfl, hb5⟩
      have hb5H := Lib.hid hb5
      clear hb5
      go_wp2_with fail
      refine (hSzH.out _ hb5H.out).mono ?_
      rintro e w6 ⟨rfl, hb6⟩
      have hb6H := Lib.hid (hb5H.out.trans (hb6.mono hb5H.out.size))
      clear hb6
      go_wp2_with fail
      refine (hRkH.out _ hb6H.out).mono ?_
      rintro e w7 ⟨rfl, hb7⟩
      have hb7H := Lib.hid (hb6H.out.trans (hb7.mono hb6H.out.size))
      clear hb7
      go_wp2_with fail
      refine (hNdH.out _ hb7H.out).mono ?_
      rintro e w8 ⟨v', rfl, hrow, hb8⟩
      obtain ⟨A8, c8, rfl⟩ := ownN_form hrow
      have hb8H := Lib.hid (hbw.out.trans ((hb7H.out.trans (hb8.mono hb7H.out.size)).mono hbw.out.size))
      clear hb8 hrow
      go_wp2
      go_ret
      exact ⟨rfl, hb8H.out⟩
end Go.Proofs.YtjcpclcmnhpgpaaGreatDoor
