/-
  The seat's own texts, shared part f: Nds, PaH, LeafP, PaT2, Leaf14, PaS, Awk14, PaG, PaBase.
-/
import Derived.Test.YtijpmjaeanocpaaGreatDoorAPe
import Derived.Laws.AppendOwnNone
import Derived.Maps.AppendAt
import Derived.Deep.AppendLies
import Derived.Laws.OwnMore

set_option linter.unusedVariables false
set_option linter.unusedSimpArgs false
namespace Go.Proofs.YtijpmjaeanocpaaGreatDoor
open Go.RowKit Go.Shelf
theorem ownN_keep {B : Nat} {e : TypeId} {k : Nat} {v : Value} {n : Nat} {xs : List Value} {w w' : World} (h : w.ownsRow B e k v n xs) (hb : Below w.heap.size w w') : w'.ownsRow B e k v n xs :=
  h.kept (row := none) ⟨hb.os, hb.tape, hb.output, hb.size, fun j hj _ => hb.block j hj⟩ (by cases hv : v.ownBlock <;> simp)
theorem own_none (w : World) (base z : Nat) (e : TypeId) : w.ownsRow base e z (.slice none 0 0) 0 [] := ⟨by simp, .inl ⟨rfl, rfl⟩⟩
end Go.Proofs.YtijpmjaeanocpaaGreatDoor

set_option linter.unusedVariables false
set_option linter.unusedSimpArgs false
namespace Go.Proofs.YtijpmjaeanocpaaGreatDoor
open Go.RowKit Go.Shelf
section
variable {w w' : World} {s N : Nat} {R : Nat → Option (List Nat)} {n : Nat} {t : BT} {l : List Pr}
set_option maxHeartbeats 4000000 in
set_option maxRecDepth 100000 in
theorem paCheckT_at (h : TreeR N w s R n t l) (rd : Bool) (hk : BT.Kd rd t) : Calls Tryz.prog 74 #[.pointer (some ⟨s, 0, none⟩), .int .i64 (kindZ rd), .int .u64 (t.root : Nat)] w fun e w' => e = .returned (.int .i64 0) ∧ Below w.heap.size w w' := by
  have hAsk : Calls Tryz.prog 60 #[.pointer (some ⟨s, 0, none⟩), .int .i64 (kindZ rd), .string ⟨#[]⟩, .slice none 0 0] w _ := paAsk_ok h.rd rd ⟨#[]⟩ (by decide) none 0 [] (by simp) (HsAt.nil none) (by simp) (by simp)
  have hC : ∀ W, Below w.heap.size w W → Calls Tryz.prog (ckF rd) #[.pointer (some ⟨s, 0, none⟩), .int .u64 (t.root : Nat)] W fun e w' => e = .returned (.int .i64 0) ∧ Below W.heap.size W w' := fun W hb => by
    cases rd with
    | false => exact tavCheck_at (h.below hb) hk
    | true => exact trbCheck_at (h.below hb) hk
  unfold cutV at hAsk
  clear h hk
  cases rd with
  | false =>
    have hA : Hid (Calls Tryz.prog 60 #[.pointer (some ⟨s, 0, none⟩), .int .i64 1, .string ⟨#[]⟩, .slice none 0 0] w fun e w' => e = .returned (.tuple #[.agg #[.pointer (some ⟨s, 0, none⟩), .func (.func 167) #[] #[], .func (.func 168) #[] #[]], .int .i64 0]) ∧ Below w.heap.size w w') := Lib.hid hAsk
    have hC2 : Hid (∀ W, Below w.heap.size w W → Calls Tryz.prog 168 #[.pointer (some ⟨s, 0, none⟩), .int .u64 (t.root : Nat)] W fun e w' => e = .returned (.int .i64 0) ∧ Below W.heap.size W w') := Lib.hid hC
    clear hAsk hC
    show Calls Tryz.prog 74 #[.pointer (some ⟨s, 0, none⟩), .int .i64 1, .int .u64 (t.root : Nat)] w _
    go_enter Tryz.func74, Tryz.ntmps74
    go_wp2_with fail
    refine hA.out.mono ?_
    rintro e W1 ⟨rfl, hb⟩
    have hB1H := Lib.hid hb
    have hz1 := hb.size
    clear hb hA
    have hB2 := hB1H.out.alloc hz1 (Obj.cells #[.pointer (some ⟨s, 0, none⟩), .func (.func 167) #[] #[], .func (.func 168) #[] #[]] 114)
    have hB2H := Lib.hid hB2
    clear hB2
    go_wp2_with fail
    refine (hC2.out _ hB2H.out).mono ?_
    rintro e W3 ⟨rfl, hb⟩
    have hB3H := Lib.hid (hB2H.out.trans (hb.mono hB2H.out.size))
    clear hb
    go_wp2
    go_ret
    exact ⟨rfl, hB3H.out⟩
  | true =>
    have hA : Hid (Calls Tryz.prog 60 #[.pointer (some ⟨s, 0, none⟩), .int .i64 2, .string ⟨#[]⟩, .slice none 0 0] w fun e w' => e = .returned (.tuple #[.agg #[.pointer (some ⟨s, 0, none⟩), .func (.func 169) #[] #[], .func (.func 170) #[] #[]], .int .i64 0]) ∧ Below w.heap.size w w') := Lib.hid hAsk
    have hC2 : Hid (∀ W, Below w.heap.size w W → Calls Tryz.prog 170 #[.pointer (some ⟨s, 0, none⟩), .int .u64 (t.root : Nat)] W fun e w' => e = .returned (.int .i64 0) ∧ Below W.heap.size W w') := Lib.hid hC
    clear hAsk hC
    show Calls Tryz.prog 74 #[.pointer (some ⟨s, 0, none⟩), .int .i64 2, .int .u64 (t.root : Nat)] w _
    go_enter Tryz.func74, Tryz.ntmps74
    go_wp2_with fail
    refine hA.out.mono ?_
    rintro e W1 ⟨rfl, hb⟩
    have hB1H := Lib.hid hb
    have hz1 := hb.size
    clear hb hA
    have hB2 := hB1H.out.alloc hz1 (Obj.cells #[.pointer (some ⟨s, 0, none⟩), .func (.func 169) #[] #[], .func (.func 170) #[] #[]] 114)
    have hB2H := Lib.hid hB2
    clear hB2
    go_wp2_with fail
    refine (hC2.out _ hB2H.out).mono ?_
    rintro e W3 ⟨rfl, hb⟩
    have hB3H := Lib.hid (hB2H.out.trans (hb.mono hB2H.out.size))
    clear hb
    go_wp2
    go_ret
    exact ⟨rfl, hB3H.out⟩
end
def DropPost (w : World) (s : Nat) (F : Nat → Prop) (R : Nat → Option (List Nat)) (H hs : List Nat) (P q most last G : Nat) (e : Ending) (w' : World) : Prop :=
  ∃ F' H', e = .returned (.tuple #[]) ∧ StoreIs w' s F' (dropR R hs) H' P q most last G ∧ H'.length + hs.length = H.length ∧ Turn w F w' F'
set_option maxHeartbeats 4000000 in
set_option maxRecDepth 100000 in
theorem paDrop_at {w : World} {s : Nat} {F : Nat → Prop} {R : Nat → Option (List Nat)} {H : List Nat} {P q most last G : Nat} (h : StoreIs w s F R H P q most last G) (hsh : Short R) (z : R 0 = none) : ∀ (m : Ln), m.At R → m.hs.Nodup →
    Calls Tryz.prog 23 #[.pointer (some ⟨s, 0, none⟩), .int .u64 (m.root : Nat)] w (DropPost w s F R H m.hs P q most last G)
  | .none, hm, hnd => by
    obtain ⟨n, hrd, _⟩ := h.rd
    have hGH := Lib.hid (nget_lit hrd 0 (by omega) Nd.zero (BT.nodeG_zero z) 7 (by unfold nodeE; rw [z]))
    have hS := Lib.hid h
    clear h hrd
    show Calls Tryz.prog 23 #[.pointer (some ⟨s, 0, none⟩), .int .u64 ((0 : Nat) : Int)] w _
    unfold DropPost
    go_enter Tryz.func23, Tryz.ntmps23
    go_wp2_with fail
    refine hGH.out.mono ?_
    unfold Nd.zero
    rintro e w1 ⟨rfl, hb⟩
    have hbH := Lib.hid hb
    have hz1 := hb.size
    clear hb hGH
    go_wp2
    go_end0
    have hbA := hbH.out.alloc hz1 (Obj.cells #[.int .u64 0, .int .u64 0, .int .u64 0, .int .u64 0, .int .u64 0, .int .u64 0] 118)
    exact ⟨F, H, rfl, by rw [show Ln.none.hs = [] from rfl, dropR_nil]; exact hS.out.below hbA, rfl, Turn.below hbA⟩
  | .one x kx vx k v, hm, hnd => by
    obtain ⟨n, hrd, _⟩ := h.rd
    obtain ⟨nd, hnx⟩ : ∃ nd, nodeG R x = nd := ⟨_, rfl⟩
    have hkey : nd.key = kx := by rw [← hnx]; exact hm.key
    have hval : nd.val = vx := by rw [← hnx]; exact hm.val
    obtain ⟨nd', hnd'⟩ := nodeE_zero.1 hm.e
    have hRx := nodeR_some hnd'
    have hx := (hrd.u64 hRx).1
    have hG := Lib.hid (nget_lit hrd x hx nd hnx 0 hm.e)
    simp only [Ln.hs, List.nodup_cons, List.mem_cons, List.not_mem_nil, or_false, not_or, not_false_eq_true, List.nodup_nil, and_true] at hnd
    obtain ⟨⟨n1, n2⟩, n3⟩ := hnd
    have t1 := (Tx.text_words k hm.ks).1
    have t2 := (Tx.text_words v hm.vs).1
    have hD1 := Lib.hid (fun W (hb : Below w.heap.size w W) => bdrop_at (h.below hb) hsh hm.kt t1)
    have m1 : kx ∈ H := (h.dom kx).2 (by rw [hm.kt]; simp)
    have m2 : vx ∈ H := (h.dom vx).2 (by rw [hm.vt]; simp)
    have m3 : x ∈ H := (h.dom x).2 (by rw [hRx]; simp)
    have l1 := List.length_erase_of_mem m1
    have l2 := List.length_erase_of_mem ((List.mem_erase_of_ne (Ne.symm n3)).2 m2)
    have l3 := List.length_erase_of_mem ((List.mem_erase_of_ne n2).2 ((List.mem_erase_of_ne n1).2 m3))
    have p1 := List.length_pos_of_mem m1
    have p2 := List.length_pos_of_mem ((List.mem_erase_of_ne (Ne.symm n3)).2 m2)
    have p3 := List.length_pos_of_mem ((List.mem_erase_of_ne n2).2 ((List.mem_erase_of_ne n1).2 m3))
    have hlen : Hid ((((H.erase kx).erase vx).erase x).length + 3 = H.length) := Lib.hid (by omega)
    clear l1 l2 l3 p1 p2 p3 m1 m2 m3
    have a3H : Hid (updR R kx none vx = some (Tx.wordsL v.data.toList)) := Lib.hid ((updR_other (Ne.symm n3)).trans hm.vt)
    have a1H : Hid (updR (updR R kx none) vx none x = some nd'.ws) := Lib.hid ((updR_other n2).trans ((updR_other n1).trans hRx))
    have hFb : Hid (∀ b, F b → b < w.heap.size) := Lib.hid (fun b hb => h.lt hb)
    have t2H := Lib.hid t2
    have hshH := Lib.hid hsh
    subst hkey hval
    clear h hrd hnx hnd' hRx hm t1 t2 hsh n1 n2 n3 z
    show Calls Tryz.prog 23 #[.pointer (some ⟨s, 0, none⟩), .int .u64 (x : Nat)] w _
    unfold DropPost
    go_enter Tryz.func23, Tryz.ntmps23
    go_wp2_with fail
    refine hG.out.mono ?_
    rintro e w3 ⟨rfl, hb3⟩
    have hb3H := Lib.hid hb3
    have hz3 := hb3.size
    clear hb3
    go_wp2_with fail
    have hb4 : Below w.heap.size w (w3.alloc (Obj.cells #[.int .u64 (nd.key : Nat), .int .u64 (nd.val : Nat), .int .u64 (nd.left : Nat), .int .u64 (nd.right : Nat), .int .u64 (nd.mark : Nat), .int .u64 (nd.size : Nat)] 118)) := hb3H.out.alloc hz3 _
    have q1 : (w3.alloc (Obj.cells #[.int .u64 (nd.key : Nat), .int .u64 (nd.val : Nat), .int .u64 (nd.left : Nat), .int .u64 (nd.right : Nat), .int .u64 (nd.mark : Nat), .int .u64 (nd.size : Nat)] 118)).cell? ⟨w3.heap.size, 1, none⟩ = some (.int .u64 (nd.val : Nat)) := by go_simp
    have hnF : ¬ F w3.heap.size := fun hf => by have := hFb.out _ hf; omega
    refine (hD1.out _ hb4).mono ?_
    rintro e w5 ⟨F5, rfl, hS5, hT5⟩
    have hq5 := hT5.cell q1 hnF
    have hT5H := Lib.hid ((Turn.below (F := F) hb4).trans hT5)
    have hD2 := Lib.hid (bdrop_at hS5 (hshH.out.upd _ _ (fun ws e => by cases e)) a3H.out t2H.out)
    clear hb4 q1 hS5 hT5 hnF hD1 hG
    go_wp2_with fail
    refine hD2.out.mono ?_
    rintro e w6 ⟨F6, rfl, hS6, hT6⟩
    have hT6H := Lib.hid (hT5H.out.trans hT6)
    have hD3 := Lib.hid (ndrop_at hS6 a1H.out rfl)
    clear hS6 hT6 hq5 hD2
    go_wp2_with fail
    refine hD3.out.mono ?_
    rintro e w7 ⟨F7, rfl, hS7, hT7⟩
    have hS7' : StoreIs w7 s F7 (dropR R [x, nd.key, nd.val]) (((H.erase nd.key).erase nd.val).erase x) P q most last G := by
      have e := dropR_three R [] x nd.key nd.val
      rw [dropR_nil] at e
      rw [← show updR (updR (updR R nd.key none) nd.val none) x none = dropR R [x, nd.key, nd.val] from e]
      exact hS7
    have hS7H := Lib.hid hS7'
    have hT7H := Lib.hid (hT6H.out.trans hT7)
    clear hS7 hS7' hT7 hD3
    go_wp2
    go_end0
    exact ⟨F7, _, rfl, hS7H.out, hlen.out, hT7H.out⟩
section
variable {w w' : World} {s N : Nat} {R : Nat → Option (List Nat)} {n : Nat} {t : BT} {l : List Pr}
set_option maxHeartbeats 4000000 in
set_option maxRecDepth 100000 in
theorem paPairs_at (h : TreeR N w s R n t l) : Calls Tryz.prog 72 #[.pointer (some ⟨s, 0, none⟩), .int .u64 (t.root : Nat)] w fun e w' => ∃ v, e = .returned (.tuple #[v, .bool true]) ∧ w'.ownsRow w.heap.size 33 2 v l.length (prsV l) ∧ Below w.heap.size w w' := by
  have hLi := Lib.hid (tlist_at h)
  have hTR := Lib.hid h
  have hle := h.le
  clear h
  go_enter Tryz.func72, Tryz.ntmps72
  go_wp2_with fail
  refine hLi.out.mono ?_
  rintro e w2 ⟨v, rfl, hro, hb2⟩
  obtain ⟨A2, cc, rfl⟩ := ownsRow_form hro
  have hnl := Lib.hid hTR.out.nodes_len
  have hcells : Hid (∀ i (hi : i < l.length) (hi2 : i < t.nodes.length), ∃ g, A2 = some ⟨g, 0, none⟩ ∧ ∀ W, Below w2.heap.size w2 W → W.cell? ⟨g, i, none⟩ = some (.int .u64 (t.nodes[i] : Nat))) := Lib.hid (fun i hi hi2 => by
    obtain ⟨g, cap, hv⟩ := row_pos hro (by omega)
    cases hv
    refine ⟨g, rfl, fun W hb => ?_⟩
    have h1 := hro.cells (g := g) rfl i (.int .u64 (t.nodes[i] : Nat)) (by rw [hsV, List.getElem?_map, List.getElem?_eq_getElem hi2]; rfl)
    rw [show (⟨g, 0, none⟩ : Addr).add i = ⟨g, i, none⟩ by unfold Addr.add; split <;> simp_all] at h1
    exact (hb.cell (p := ⟨g, i, none⟩) (cell_lt h1)).trans h1)
  have hTR2 := Lib.hid (hTR.out.below hb2)
  have hb2H := Lib.hid hb2
  clear hro hb2 hLi hTR
  go_wp2_with fail
  go_loopw [6, 8] (fun ov iv wr => ∃ k : Nat, k ≤ l.length ∧ iv = .int .i64 k ∧ Hid (wr.ownsRow w2.heap.size 33 2 ov (l.take k).length (prsV (l.take k))) ∧ Hid (Below w2.heap.size w2 wr)) (fun _ iv _ => l.length - (intOf iv).toNat)
  case atStart => exact ⟨0, by omega, rfl, Lib.hid (by rw [List.take_zero]; exact own_none w2 _ 2 _), Lib.hid (Below.refl _ _)⟩
  case round =>
    obtain ⟨k, hk, rfl, hown, hb⟩ := hrel
    by_cases hlt : k < l.length
    · have hk2 : k < t.nodes.length := by rw [hnl.out]; exact hlt
      obtain ⟨g, hA2, hgc⟩ := hcells.out k hlt hk2
      have hP := Lib.hid (tpair_at (hTR2.out.below hb.out) hlt hk2)
      have hc0 := hgc wr hb.out
      have hsn : Hid (l.take (k + 1) = l.take k ++ [l[k]]) := Lib.hid (List.take_succ_eq_append_getElem hlt)
      obtain ⟨x, hx⟩ : ∃ x, t.nodes[k] = x := ⟨_, rfl⟩
      obtain ⟨p, hp⟩ : ∃ p, l[k] = p := ⟨_, rfl⟩
      simp only [hx, hp] at hP hc0
      rw [hp] at hsn
      have hlk : (l.take k).length = k := by rw [List.length_take]; omega
      have hlkH := Lib.hid hlk
      obtain ⟨xs, hxs⟩ : ∃ xs, l.take k = xs := ⟨_, rfl⟩
      rw [hxs] at hown hsn hlkH
      have hxl : xs.length ≤ 1000000000 := by rw [← hxs, hlk]; omega
      subst hA2
      clear hgc hx hp hxs hlk
      go_wp2_with fail
      refine hP.out.mono ?_
      rintro e w4 ⟨rfl, hb4⟩
      have hb4H := Lib.hid (hb.out.trans (hb4.mono hb.out.size))
      have hz4 := hb4H.out.size
      have hown4 := Lib.hid (ownN_keep hown.out hb4)
      clear hb4 hc0 hP
      go_wp2_with (at_builtin; go_must (refine app_prs rfl (.tmp 31) (.tmp 33) rfl _ w2.heap.size _ xs rfl ((hown4.out.alloc _).alloc _) (w4.heap.size + 1 + 1) _ 1 1 [p] rfl rfl (by have := prs_one (w4.alloc (Obj.cells #[.string p.1, .string p.2] 33)) p; simpa using this) (fun e => by cases e) (by simp; omega) (by simp; omega) ?_))
      intro v5 w5 hown5 hg5 _
      have hb5H := Lib.hid (own_below ((hb4H.out.alloc hz4 _).alloc (by simp; omega) _) ((hown4.out.alloc _).alloc _) hg5 (by simp; omega))
      have hown5' : w5.ownsRow w2.heap.size 33 2 v5 (l.take (k + 1)).length (prsV (l.take (k + 1))) := by rw [hsn.out, List.length_append]; exact hown5
      have hown5H := Lib.hid hown5'
      clear hown5 hown5' hg5 hown hown4 hsn
      go_wp2
      go_roundw
      case rel => exact ⟨k + 1, by omega, by go_num, hown5H, hb5H⟩
      case measure => simp [intOf]; omega
    · obtain rfl : k = l.length := by omega
      have hfin := hown.out
      rw [List.take_length] at hfin
      have hfinH := Lib.hid (own_lower hfin hb2H.out.size)
      have hbf := Lib.hid (hb2H.out.trans (hb.out.mono hb2H.out.size))
      clear hfin hown
      go_wp2
      go_ret2
      exact ⟨_, rfl, hfinH.out, hbf.out⟩
set_option maxHeartbeats 4000000 in
set_option maxRecDepth 100000 in
theorem paIs_at {F : Nat → Prop} {A : Option Addr} {c : Nat} (h : TreeR N w s R n t l) (rd : Bool) (hk : BT.Kd rd t) (hc : CellsF w F A (prsV l)) : Calls Tryz.prog 24 #[.pointer (some ⟨s, 0, none⟩), .int .i64 (kindZ rd), .int .u64 (t.root : Nat), .slice A l.length c] w fun e w' => e = .returned (.bool true) ∧ Below w.heap.size w w' := by
  have hP := Lib.hid (paPairs_at h)
  have hle := h.le
  have hCk := Lib.hid (fun W (hb : Below w.heap.size w W) => paCheckT_at (h.below hb) rd hk)
  have hcf := Lib.hid hc
  clear h hk hc
  generalize kindZ rd = kz at *
  go_enter Tryz.func24, Tryz.ntmps24
  go_wp2_with fail
  refine hP.out.mono ?_
  rintro e w2 ⟨v, rfl, hown, hb2⟩
  obtain ⟨A2, c2, rfl, -, -, hpr⟩ := own_pairs hown rfl
  have hc2 : CellsF w2 (fun _ => False) A2 (prsV l) := CellsF.of_prs hpr (Nat.le_refl _) (fun b hb => hb.elim)
  have hSm := Lib.hid (refSame_eq (c := c2) (c' := c) hc2 (hcf.out.turn (Turn.below hb2)) (by omega))
  have hb2H := Lib.hid hb2
  clear hown hb2 hpr hc2 hP
  go_wp2_with fail
  refine hSm.out.mono ?_
  rintro e w3 ⟨rfl, hb3⟩
  have hb3H := Lib.hid (hb2H.out.trans (hb3.mono hb2H.out.size))
  clear hb3 hSm
  go_wp2_with fail
  refine (hCk.out _ hb3H.out).mono ?_
  rintro e w4 ⟨rfl, hb4⟩
  have hb4H := Lib.hid (hb3H.out.trans (hb4.mono hb3H.out.size))
  clear hb4 hCk
  go_wp2
  go_ret
  exact ⟨rfl, hb4H.out⟩
end
end Go.Proofs.YtijpmjaeanocpaaGreatDoor

set_option linter.unusedVariables false
set_option linter.unusedSimpArgs false
namespace Go.Proofs.YtijpmjaeanocpaaGreatDoor
open Go.RowKit Go.Shelf
def LeafPost (w : World) (s : Nat) (F : Nat → Prop) (R : Nat → Option (List Nat)) (H : List Nat) (P q most last G m : Nat) (p : Pr) (e : Ending) (w' : World) : Prop :=
  ∃ x kx vx F' R' H', e = .returned (.int .u64 (x : Nat)) ∧ GrowOut R R' (.node x kx vx m p.1 p.2 .nil .nil) ∧ StoreIs w' s F' R' H' (P + 9) q most last (G + 3) ∧ H'.length = H.length + 3 ∧ Turn w F w' F' ∧ x < 18446744073709551616
end Go.Proofs.YtijpmjaeanocpaaGreatDoor

set_option linter.unusedVariables false
set_option linter.unusedSimpArgs false
namespace Go.Proofs.YtijpmjaeanocpaaGreatDoor
open Go.RowKit Go.Shelf
theorem blob_lo {R : Nat → Option (List Nat)} {x : Nat} {k : ByteArray} (h : R x = some (Tx.wordsL k.data.toList)) (hk : k.size ≤ 1000) : blobR R x = some k ∧ blobE R x = 0 := by
  obtain ⟨t1, t2⟩ := Tx.text_words k hk
  unfold blobR blobE
  rw [h]
  simp only [if_pos t1, t2]
  exact ⟨trivial, trivial⟩
section
variable {w w' : World} {s : Nat} {F : Nat → Prop} {R : Nat → Option (List Nat)} {H : List Nat} {P q most last G : Nat} {t : BT}
theorem paInsT_at (h : StoreIs w s F R H P q most last G) (rd : Bool) (h0 : R 0 = none) (hsh : Short R) (ht : t.At R) (hk : BT.Kd rd t) {x kx vx : Nat} {k v : ByteArray} (hm : BT.Lo R x kx vx k v) (hn : (t.hs ++ [x, kx, vx]).Nodup) (sz : t.size ≤ 99) (hr : Rising t.prs) :
    Calls Tryz.prog 17 #[.pointer (some ⟨s, 0, none⟩), .int .i64 (kindZ rd), .int .u64 (t.root : Nat), .int .u64 (x : Nat)] w fun e w' => ∃ (t' : BT) (old : Ln) (R' : Nat → Option (List Nat)), e = .returned (.tuple #[.int .u64 (t'.root : Nat), .int .u64 (old.root : Nat), .int .i64 0]) ∧
      InsOut rd R R' (t.hs ++ [x, kx, vx]) (t.nodes ++ [x]) (putL t.prs (k, v)) t' old ∧ (old.root ≠ 0 ↔ 0 ≤ findL t.prs k) ∧ KeepsN R R' ∧ StoreIs w' s F R' H P q most last G ∧ Turn w F w' F := by
  obtain ⟨n, hrd, _⟩ := h.rd
  obtain ⟨nd', hnd'⟩ := nodeE_zero.1 hm.e
  have hx := (hrd.u64 (nodeR_some hnd')).1
  have hi1 : isR R x = true := by unfold isR; rw [hm.e]; simp
  have hb := blob_lo hm.kt hm.ks
  have hj := paInsertT_at h hsh rd (BT.root_lt ht hrd) hx hm.nz (isR_root ht) hi1 k (by rw [hm.key]; exact hb.1) (by rw [hm.key]; exact hb.2)
  have hkp := insP_keeps rd k R t.root x
  obtain ⟨t', old, R', e1, o, ho⟩ := ins_bt (rd := rd) h0 ht hk hm hn sz hr
  rw [e1] at hj hkp
  exact hj.mono fun e w' ⟨he, hS, hT⟩ => ⟨t', old, R', he, o, ho, hkp, hS, hT⟩
theorem paDelT_at (h : StoreIs w s F R H P q most last G) (rd : Bool) (h0 : R 0 = none) (hsh : Short R) (ht : t.At R) (hk : BT.Kd rd t) (hn : t.hs.Nodup) (sz : t.size ≤ 99) (hr : Rising t.prs) (key : ByteArray) (hky : key.size ≤ 1000) :
    Calls Tryz.prog 20 #[.pointer (some ⟨s, 0, none⟩), .int .i64 (kindZ rd), .int .u64 (t.root : Nat), .string key] w fun e w' => ∃ (t' : BT) (old : Ln) (R' : Nat → Option (List Nat)), e = .returned (.tuple #[.int .u64 (t'.root : Nat), .int .u64 (old.root : Nat), .int .i64 0]) ∧
      InsOut rd R R' t.hs t.nodes (if 0 ≤ findL t.prs key then cutLn t.prs (findL t.prs key).toNat ((findL t.prs key).toNat + 1) else t.prs) t' old ∧ (old.root ≠ 0 ↔ 0 ≤ findL t.prs key) ∧ KeepsN R R' ∧ StoreIs w' s F R' H P q most last G ∧ Turn w F w' F := by
  obtain ⟨n, hrd, _⟩ := h.rd
  have hj := paDeleteT_at h hsh rd (BT.root_lt ht hrd) key hky (isR_root ht)
  have hkp := delP_keeps rd key R t.root
  obtain ⟨t', old, R', e1, o, ho⟩ := del_bt (rd := rd) (key := key) h0 ht hk hn sz hr
  rw [e1] at hj hkp
  exact hj.mono fun e w' ⟨he, hS, hT⟩ => ⟨t', old, R', he, o, ho, hkp, hS, hT⟩
theorem paSplT_at (h : StoreIs w s F R H P q most last G) (rd : Bool) (h0 : R 0 = none) (hsh : Short R) (ht : t.At R) (hk : BT.Kd rd t) (hn : t.hs.Nodup) (sz : t.size ≤ 99) (key : ByteArray) (hky : key.size ≤ 1000) :
    Calls Tryz.prog 59 #[.pointer (some ⟨s, 0, none⟩), .int .i64 (kindZ rd), .int .u64 (t.root : Nat), .string key] w fun e w' => ∃ (l : BT) (m : Ln) (r : BT) (R' : Nat → Option (List Nat)), e = .returned (.tuple #[.int .u64 (l.root : Nat), .int .u64 (m.root : Nat), .int .u64 (r.root : Nat), .int .i64 0]) ∧
      CutOut rd R R' key t l m r ∧ KeepsN R R' ∧ StoreIs w' s F R' H P q most last G ∧ Turn w F w' F := by
  obtain ⟨n, hrd, _⟩ := h.rd
  have hh := BT.hgt_le t
  have hj := paSplitT_at h hsh rd (BT.root_lt ht hrd) key hky (isR_root ht)
  have hkp := cutS_keeps rd key 200 R t.root
  obtain ⟨l, m, r, R', e1, o⟩ := cutS_bt (rd := rd) key 200 t R h0 ht hk hn (by omega) (by omega)
  rw [e1] at hj hkp
  exact hj.mono fun e w' ⟨he, hS, hT⟩ => ⟨l, m, r, R', he, o, hkp, hS, hT⟩
theorem paConT_at {l r : BT} (h : StoreIs w s F R H P q most last G) (rd : Bool) (h0 : R 0 = none) (hsh : Short R) (hl : l.At R) (hr : r.At R) (al : BT.Kd rd l) (ar : BT.Kd rd r) (hn : (l.hs ++ r.hs).Nodup) (sz : l.size + r.size ≤ 100) :
    Calls Tryz.prog 69 #[.pointer (some ⟨s, 0, none⟩), .int .i64 (kindZ rd), .int .u64 (l.root : Nat), .int .u64 (r.root : Nat)] w fun e w' => ∃ (t : BT) (R' : Nat → Option (List Nat)), e = .returned (.tuple #[.int .u64 (t.root : Nat), .int .i64 0]) ∧
      (t.At R' ∧ BT.Kd rd t ∧ t.hs = l.hs ++ r.hs ∧ t.nodes = l.nodes ++ r.nodes ∧ t.prs = l.prs ++ r.prs ∧ ∀ z, z ∉ l.nodes ++ r.nodes → R' z = R z) ∧ KeepsN R R' ∧ StoreIs w' s F R' H P q most last G ∧ Turn w F w' F := by
  obtain ⟨n, hrd, _⟩ := h.rd
  have hj := paConcatT_at h hsh rd (BT.root_lt hl hrd) (BT.root_lt hr hrd) (isR_root hl) (isR_root hr)
  have hkp := cutC_keeps rd R l.root r.root
  obtain ⟨t, R', e1, o⟩ := cutC_bt (rd := rd) h0 hl hr al ar hn sz
  rw [e1] at hj hkp
  exact hj.mono fun e w' ⟨he, hS, hT⟩ => ⟨t, R', he, o, hkp, hS, hT⟩
end
end Go.Proofs.YtijpmjaeanocpaaGreatDoor

set_option linter.unusedVariables false
set_option linter.unusedSimpArgs false
namespace Go.Proofs.YtijpmjaeanocpaaGreatDoor
open Go.RowKit Go.Shelf
set_option maxHeartbeats 2000000 in
set_option maxRecDepth 100000 in
theorem leaf14_at {w : World} {s : Nat} {F : Nat → Prop} {R : Nat → Option (List Nat)} {H : List Nat} {P q most last G : Nat} (h : StoreIs w s F R H P q most last G) (p : Pr) (h1 : p.1.size ≤ 1000) (h2 : p.2.size ≤ 1000)
    (hq : (P + 9) * 64 ≤ q) (hmost : H.length + 3 ≤ most) (hlast : G + 3 ≤ last) :
    Calls Tryz.prog 18 #[.pointer (some ⟨s, 0, none⟩), .agg #[.string p.1, .string p.2]] w (LeafPost w s F R H P q most last G 0 p) := by
  obtain ⟨W0, hW0⟩ : ∃ W, W = w.alloc (Obj.cells #[Value.string p.1, Value.string p.2] 33) := ⟨_, rfl⟩
  have hbx := Box.new w 33 [Value.string p.1, Value.string p.2]
  have hb0 : Below w.heap.size w W0 := by rw [hW0]; exact (Below.refl _ w).alloc (Nat.le_refl _) _
  rw [← hW0] at hbx
  have hF : ¬ F w.heap.size := fun hf => by have := h.lt hf; omega
  have hPut1 := Lib.hid (bput_at (h.below hb0) p.1 h1)
  have hw1 := words_le h1
  have hw2 := words_le h2
  have hg1 := pgsN_le (n := (Tx.wordsL p.1.data.toList).length + 2) (by omega)
  have hg2 := pgsN_le (n := (Tx.wordsL p.2.data.toList).length + 2) (by omega)
  have c0 := hbx.at' (i := 0) rfl
  have hbxH := Lib.hid hbx
  have hb0H := Lib.hid hb0
  have hW0H := Lib.hid hW0
  clear h hb0 hw1 hw2 hW0 hbx
  go_enter Tryz.func18, Tryz.ntmps18
  go_wp2_with fail
  rw [← hW0H.out]
  refine hPut1.out.mono ?_
  rintro e w1 (⟨x1, F1, n1, x10, x164, rfl, hS1, hT1⟩ | ⟨er, F1, rfl, her, hS1, hT1⟩)
  · have hPut2 := Lib.hid (bput_at hS1 p.2 h2)
    have hbx1 := Lib.hid (hbxH.out.turn hT1 hF)
    have c1 := hbx1.out.at' (i := 1) rfl
    have hF1 : ¬ F1 w.heap.size := hT1.not hbxH.out.lt hF
    have n1H := Lib.hid n1
    have hT1H := Lib.hid ((Turn.below (F := F) hb0H.out).trans hT1)
    clear hS1 hT1 n1 hPut1 c0
    go_wp2_with fail
    refine hPut2.out.mono ?_
    rintro e w2 (⟨x2, F2, n2, x20, x264, rfl, hS2, hT2⟩ | ⟨er, F2, rfl, her, hS2, hT2⟩)
    · have hMk := nmake_at hS2 ⟨x1, x2, 0, 0, 0, 1⟩ ⟨x164, x264, by simp, by simp, by simp, by simp⟩
      unfold Nd.v at hMk
      have hMkH := Lib.hid hMk
      have n2H := Lib.hid n2
      have hT2H := Lib.hid (hT1H.out.trans hT2)
      clear hS2 hT2 n2 hPut2 hMk c1
      go_wp2_with fail
      refine hMkH.out.mono ?_
      rintro e w5 (⟨x5, F5, n5, x50, x564, rfl, hS5, hT5⟩ | ⟨er, F5, rfl, her, hS5, hT5⟩)
      · have hfin : Hid (LeafPost w s F R H P q most last G 0 p (.returned (.int .u64 (x5 : Nat))) w5) := Lib.hid (by
          refine ⟨x5, x1, x2, F5, _, _, rfl, ?_, hS5.more ?_ ?_, ?_, hT2H.out.trans hT5, x564⟩
          · exact grow_plain n1H.out x10 n2H.out x20 (GrowOut.nil _) (GrowOut.nil _) n5 x50 h1 h2 0
          · have : pgsN ((Nd.ws ⟨x1, x2, 0, 0, 0, 1⟩).length + 2) = 1 := by simp [Nd.ws, pgsN]
            rw [this]
            omega
          · omega
          · simp only [List.length_cons])
        clear hS5 hT5 n5
        go_wp2
        go_ret
        exact hfin.out
      · have : pgsN ((Nd.ws ⟨x1, x2, 0, 0, 0, 1⟩).length + 2) = 1 := by simp [Nd.ws, pgsN]
        rw [this] at her
        exfalso; simp only [List.length_cons] at her; omega
    · exfalso; simp only [List.length_cons] at her; omega
  · exfalso; omega
end Go.Proofs.YtijpmjaeanocpaaGreatDoor

set_option linter.unusedVariables false
set_option linter.unusedSimpArgs false
namespace Go.Proofs.YtijpmjaeanocpaaGreatDoor
open Go.RowKit Go.Shelf
structure PaIn (w : World) (s : Nat) (F : Nat → Prop) (R : Nat → Option (List Nat)) (H : List Nat) (P q most last G : Nat) (rd : Bool) (t : BT) (old : Ln) (l : List Pr) : Prop where
  st : StoreIs w s F R H P q most last G
  z : R 0 = none
  sh : Short R
  at' : t.At R
  oat : old.At R
  kd : BT.Kd rd t
  nd : (t.hs ++ old.hs).Nodup
  prs : t.prs = l
  ris : Rising l
  len : H.length = 3 * l.length + old.hs.length
section
variable {w w' : World} {s : Nat} {F F' : Nat → Prop} {R R' : Nat → Option (List Nat)} {H H' : List Nat} {P q most last G : Nat} {rd : Bool} {t : BT} {old : Ln} {l : List Pr}
theorem PaIn.size (h : PaIn w s F R H P q most last G rd t old l) : t.size = l.length := by rw [← BT.prs_len, h.prs]
theorem PaIn.tree (h : PaIn w s F R H P q most last G rd t old l) : ∃ n, TreeR w.heap.size w s R n t l ∧ WordsR R H P n := treeIn h.st h.sh h.z h.at' h.prs h.ris (List.nodup_append.1 h.nd).1
theorem PaIn.below (h : PaIn w s F R H P q most last G rd t old l) (hb : Below w.heap.size w w') : PaIn w' s F R H P q most last G rd t old l :=
  ⟨h.st.below hb, h.z, h.sh, h.at', h.oat, h.kd, h.nd, h.prs, h.ris, h.len⟩
theorem PaIn.more (h : PaIn w s F R H P q most last G rd t old l) {P' G' : Nat} (hP : P ≤ P') (hG : G ≤ G') : PaIn w s F R H P' q most last G' rd t old l :=
  ⟨h.st.more hP hG, h.z, h.sh, h.at', h.oat, h.kd, h.nd, h.prs, h.ris, h.len⟩
theorem PaIn.start (h : StoreIs w s F (fun _ => none) [] P q most last G) (rd : Bool) : PaIn w s F (fun _ => none) [] P q most last G rd .nil .none [] :=
  ⟨h, rfl, (fun x ws e => by cases e), trivial, trivial, BT.Kd.nil rd, List.nodup_nil, rfl, List.Pairwise.nil, rfl⟩
theorem PaIn.leaf (h : PaIn w s F R H P q most last G rd t .none l) {x kx vx m : Nat} {k v : ByteArray} (gm : GrowOut R R' (.node x kx vx m k v .nil .nil)) :
    R' 0 = none ∧ Short R' ∧ t.At R' ∧ BT.Lo R' x kx vx k v ∧ (t.hs ++ [x, kx, vx]).Nodup := by
  refine ⟨gm.zero h.z, gm.short h.sh, gm.on h.at', BT.lo gm.at', List.nodup_append.2 ⟨(List.nodup_append.1 h.nd).1, gm.nodup, fun a ha b hb e => ?_⟩⟩
  exact gm.off h.at' a ha (by rw [e]; exact hb)
theorem paLeafIns_at {w2 : World} {F2 : Nat → Prop} {R2 : Nat → Option (List Nat)} {H2 : List Nat} (h : PaIn w s F R H P q most last G rd t .none l) {x kx vx m : Nat} {k v : ByteArray} (gm : GrowOut R R2 (.node x kx vx m k v .nil .nil)) (hS : StoreIs w2 s F2 R2 H2 (P + 9) q most last (G + 3)) (hH : H2.length = H.length + 3) (sz : l.length ≤ 99) :
    Calls Tryz.prog 17 #[.pointer (some ⟨s, 0, none⟩), .int .i64 (kindZ rd), .int .u64 (t.root : Nat), .int .u64 (x : Nat)] w2 fun e w' => ∃ (t' : BT) (old : Ln) (R' : Nat → Option (List Nat)), e = .returned (.tuple #[.int .u64 (t'.root : Nat), .int .u64 (old.root : Nat), .int .i64 0]) ∧
      PaIn w' s F2 R' H2 (P + 9) q most last (G + 3) rd t' old (putL l (k, v)) ∧ (old.root ≠ 0 ↔ 0 ≤ findL l k) ∧ Turn w2 F2 w' F2 := by
  obtain ⟨z2, sh2, at2, lo2, nd2⟩ := h.leaf gm
  have hs := h.size
  refine (paInsT_at hS rd z2 sh2 at2 h.kd lo2 nd2 (by omega) (by rw [h.prs]; exact h.ris)).mono ?_
  rintro e w' ⟨t', old, R', he, o, ho, hk, hS', hT⟩
  rw [h.prs] at o ho
  refine ⟨t', old, R', he, ⟨hS', hk.zero z2, hk.short sh2, o.at', o.oat, o.kd, (o.hs.nodup_iff).2 nd2, o.prs, putL_rising h.ris _, ?_⟩, ho, hT⟩
  have h1 := o.hs.length_eq
  have h2 : t'.size = (putL l (k, v)).length := by rw [← BT.prs_len, o.prs]
  have h3 := h.len
  simp only [List.length_append, List.length_cons, List.length_nil, BT.hs_len] at h1
  rw [h2, hs] at h1
  simp only [Ln.hs, List.length_nil] at h3
  omega
theorem paDelIn_at (h : PaIn w s F R H P q most last G rd t .none l) (sz : l.length ≤ 99) (key : ByteArray) (hky : key.size ≤ 1000) :
    Calls Tryz.prog 20 #[.pointer (some ⟨s, 0, none⟩), .int .i64 (kindZ rd), .int .u64 (t.root : Nat), .string key] w fun e w' => ∃ (t' : BT) (old : Ln) (R' : Nat → Option (List Nat)), e = .returned (.tuple #[.int .u64 (t'.root : Nat), .int .u64 (old.root : Nat), .int .i64 0]) ∧
      PaIn w' s F R' H P q most last G rd t' old (if 0 ≤ findL l key then cutLn l (findL l key).toNat ((findL l key).toNat + 1) else l) ∧ (old.root ≠ 0 ↔ 0 ≤ findL l key) ∧ Turn w F w' F := by
  have hs := h.size
  have hnd := (List.nodup_append.1 h.nd).1
  refine (paDelT_at h.st rd h.z h.sh h.at' h.kd hnd (by omega) (by rw [h.prs]; exact h.ris) key hky).mono ?_
  rintro e w' ⟨t', old, R', he, o, ho, hk, hS', hT⟩
  rw [h.prs] at o ho
  refine ⟨t', old, R', he, ⟨hS', hk.zero h.z, hk.short h.sh, o.at', o.oat, o.kd, (o.hs.nodup_iff).2 hnd, o.prs, ?_, ?_⟩, ho, hT⟩
  · split
    · unfold cutLn
      refine List.Pairwise.sublist ?_ h.ris
      have h1 := List.take_append_drop (findL l key).toNat l
      conv => rhs; rw [← h1]
      refine List.Sublist.append (List.Sublist.refl _) ?_
      rw [← List.drop_drop, Nat.add_comm] at *
      exact List.drop_sublist _ _
    · exact h.ris
  · have h1 := o.hs.length_eq
    have h2 : t'.size = t'.prs.length := (BT.prs_len t').symm
    have h3 := h.len
    simp only [List.length_append, BT.hs_len] at h1
    rw [h2, o.prs, hs] at h1
    simp only [Ln.hs, List.length_nil] at h3
    omega
theorem paDropIn_at (h : PaIn w s F R H P q most last G rd t old l) :
    Calls Tryz.prog 23 #[.pointer (some ⟨s, 0, none⟩), .int .u64 (old.root : Nat)] w fun e w' => ∃ F' R' H', e = .returned (.tuple #[]) ∧ PaIn w' s F' R' H' P q most last G rd t .none l ∧ Turn w F w' F' := by
  obtain ⟨n1, n2, n3⟩ := List.nodup_append.1 h.nd
  refine (paDrop_at h.st h.sh h.z old h.oat n2).mono ?_
  rintro e w' ⟨F', H', he, hS, hl, hT⟩
  refine ⟨F', _, H', he, ⟨hS, dropR_zero h.z, h.sh.drop _, h.at'.congr fun x hx => dropR_out (fun hm => n3 x hx x hm rfl), trivial, h.kd, ?_, h.prs, h.ris, ?_⟩, hT⟩
  · simpa [Ln.hs] using n1
  · have := h.len
    simp only [Ln.hs, List.length_nil]
    omega
end
end Go.Proofs.YtijpmjaeanocpaaGreatDoor

set_option linter.unusedVariables false
set_option linter.unusedSimpArgs false
namespace Go.Proofs.YtijpmjaeanocpaaGreatDoor
open Go.RowKit Go.Shelf
def four : List Pr := [(⟨#[97]⟩, ⟨#[]⟩), (⟨#[98]⟩, ⟨#[]⟩), (⟨#[99]⟩, ⟨#[]⟩), (⟨#[100]⟩, ⟨#[]⟩)]
def prBB : ByteArray := ⟨#[98, 98]⟩
theorem four_put : ∀ k (h : k < 4), putL (four.take k) (four[k]'h) = four.take (k + 1) ∧ ¬ 0 ≤ findL (four.take k) (four[k]'h).1 ∧ (four[k]'h).1.size ≤ 1000 ∧ (four[k]'h).2.size ≤ 1000 := by decide +kernel
theorem four_bb : rankL four prBB = 2 ∧ (four[rankL four prBB]?).map (·.1) ≠ some prBB := by decide +kernel
set_option maxHeartbeats 4000000 in
set_option maxRecDepth 100000 in
theorem awake14_at {w : World} (hT : Tab w) : Calls Tryz.prog 15 #[] w fun e w' => e = .returned (.bool true) ∧ Below w.heap.size w w' := by
  have hN := Lib.hid (snew_at hT 262144 1000 4294967295 (by omega) (by omega) (by omega) (by omega) (by omega))
  clear hT
  go_enter Tryz.func15, Tryz.ntmps15
  go_wp2_with fail
  refine hN.out.mono ?_
  rintro e w1 ⟨s, F, rfl, hS, hs1, hF1, hb1⟩
  have hb1H := Lib.hid hb1
  have hF1H := Lib.hid hF1
  have hSH := Lib.hid hS
  have hz1 := hb1.size
  clear hb1 hF1 hS hN
  go_wp2_with fail
  obtain ⟨W2, hW2⟩ : ∃ W, W = w1.alloc (Obj.cells #[.string ⟨#[97]⟩, .string ⟨#[]⟩, .string ⟨#[98]⟩, .string ⟨#[]⟩, .string ⟨#[99]⟩, .string ⟨#[]⟩, .string ⟨#[100]⟩, .string ⟨#[]⟩] 33) := ⟨_, rfl⟩
  obtain ⟨b2, hb2e⟩ : ∃ b, b = w1.heap.size := ⟨_, rfl⟩
  have hX2 : Box W2 b2 33 [.string ⟨#[97]⟩, .string ⟨#[]⟩, .string ⟨#[98]⟩, .string ⟨#[]⟩, .string ⟨#[99]⟩, .string ⟨#[]⟩, .string ⟨#[100]⟩, .string ⟨#[]⟩] := by rw [hW2, hb2e]; exact Box.new w1 33 [.string ⟨#[97]⟩, .string ⟨#[]⟩, .string ⟨#[98]⟩, .string ⟨#[]⟩, .string ⟨#[99]⟩, .string ⟨#[]⟩, .string ⟨#[100]⟩, .string ⟨#[]⟩]
  have hcf2 : CellsF W2 F (some ⟨b2, 0, none⟩) (prsV four) := .inr ⟨b2, 0, rfl, hX2.lt, fun hf => by have := hSH.out.lt hf; omega, fun j u hu => by
    rw [Nat.zero_add]
    exact hX2.at' hu⟩
  have hb2 : Below w1.heap.size w1 W2 := by rw [hW2]; exact (Below.refl _ _).alloc (Nat.le_refl _) _
  have hSt2 : Hid (PaIn W2 s F (fun _ => none) [] 0 262144 1000 4294967295 0 false .nil .none []) := Lib.hid (PaIn.start (hSH.out.below hb2) false)
  have hcf2H := Lib.hid hcf2
  have hB2H := Lib.hid (hb1H.out.trans (hb2.mono hb1H.out.size))
  rw [← hW2, ← hb2e]
  clear hX2 hcf2 hb2 hW2 hb2e hSH hz1 hb1H
  go_loopw [3, 5] (fun rv iv wr => ∃ (k : Nat) (t : BT) (F' : Nat → Prop) (R' : Nat → Option (List Nat)) (H' : List Nat), k ≤ 4 ∧ iv = .int .i64 k ∧ rv = .int .u64 (t.root : Nat) ∧ Hid (PaIn wr s F' R' H' (9 * k) 262144 1000 4294967295 (3 * k) false t .none (four.take k)) ∧ Hid (Turn W2 F wr F')) (fun _ iv _ => 4 - (intOf iv).toNat)
  case atStart => exact ⟨0, .nil, F, _, [], by omega, rfl, rfl, by simpa using hSt2, Lib.hid (Turn.refl _ _)⟩
  case round =>
    obtain ⟨k, t, F', R', H', hk, rfl, rfl, hst, hT'⟩ := hrel
    by_cases hlt : k < 4
    · obtain ⟨bb, oo, hAs, q1, q2⟩ := (hcf2H.out.turn hT'.out).pairs (k := k) hlt
      obtain ⟨hput, hfnd, z1, z2⟩ := four_put k hlt
      obtain ⟨p, hp⟩ : ∃ p, four[k]'hlt = p := ⟨_, rfl⟩
      rw [hp] at hput hfnd z1 z2
      simp only [hp] at q1 q2
      have hlen := hst.out.len
      have htk : (four.take k).length = k := by rw [List.length_take]; exact Nat.min_eq_left hk
      rw [htk] at hlen
      simp only [Ln.hs, List.length_nil, Nat.add_zero] at hlen
      have hLf := leaf14_at hst.out.st p z1 z2 (by omega) (by omega) (by omega)
      have hLfH := Lib.hid hLf
      have hputH := Lib.hid hput
      have hfndH := Lib.hid hfnd
      have htkH := Lib.hid htk
      cases hAs
      simp only [Nat.zero_add] at q1 q2
      clear hLf hput hfnd hp hlen htk
      go_wp2_with fail
      refine hLfH.out.mono ?_
      rintro e w3 ⟨x, kx, vx, F2, R2, H2, rfl, gm, hS2, hH2, hT2, hx64⟩
      have hI : Calls Tryz.prog 17 #[.pointer (some ⟨s, 0, none⟩), .int .i64 1, .int .u64 (t.root : Nat), .int .u64 (x : Nat)] w3 _ := paLeafIns_at hst.out gm hS2 hH2 (by have := htkH.out; omega)
      have hIH := Lib.hid hI
      have hT2H := Lib.hid (hT'.out.trans hT2)
      clear gm hS2 hH2 hT2 hI q1 q2 hLfH
      go_wp2_with fail
      refine hIH.out.mono ?_
      rintro e w4 ⟨t', old, R4, rfl, hst4, ho, hT4⟩
      have h0 : old.root = 0 := by
        by_cases h : old.root = 0
        · exact h
        · exact absurd (ho.1 h) (by have := hfndH.out; omega)
      have hold : old = .none := by
        cases old with
        | none => rfl
        | one y _ _ _ _ => exact absurd h0 hst4.oat.nz
      subst hold
      have hst4' : PaIn w4 s F2 R4 H2 (9 * (k + 1)) 262144 1000 4294967295 (3 * (k + 1)) false t' .none (four.take (k + 1)) := by
        have := hst4.more (P' := 9 * (k + 1)) (G' := 3 * (k + 1)) (by omega) (by omega)
        rw [hputH.out] at this
        exact this
      have hst4H := Lib.hid hst4'
      have hT4H := Lib.hid (hT2H.out.trans hT4)
      clear hst4 hst4' ho hT4 hIH h0
      go_wp2
      go_roundw
      case rel => exact ⟨k + 1, t', F2, R4, H2, by omega, by go_num, rfl, hst4H, hT4H⟩
      case measure => simp [intOf]; omega
    · obtain rfl : k = 4 := by omega
      have hst' : PaIn wr s F' R' H' 36 262144 1000 4294967295 12 false t .none four := hst.out
      have hSp : Calls Tryz.prog 59 #[.pointer (some ⟨s, 0, none⟩), .int .i64 1, .int .u64 (t.root : Nat), .string prBB] wr _ := paSplT_at hst'.st false hst'.z hst'.sh hst'.at' hst'.kd (List.nodup_append.1 hst'.nd).1 (by have := hst'.size; rw [this]; decide) prBB (by decide)
      unfold prBB at hSp
      have hSpH := Lib.hid hSp
      have hstH := Lib.hid hst'
      clear hst hst' hSp
      go_wp2_with fail
      refine hSpH.out.mono ?_
      rintro e w5 ⟨l, m, r, R5, rfl, o, hk5, hS5, hT5⟩
      have hpt := o.parted (by rw [hstH.out.prs]; exact hstH.out.ris)
      rw [hstH.out.prs] at hpt
      have e1 := hpt.rank
      have e2 := mt hpt.has.2 four_bb.2
      have e3 : m.root = 0 := by
        by_cases h : m.root = 0
        · exact h
        · exact absurd ((Ln.root_ne o.ma).1 h) e2
      have e4 : m.prs = [] := List.eq_nil_of_length_eq_zero (by have := m.prs_len; omega)
      have e5 : l.prs.length = 2 := by rw [← e1]; exact four_bb.1
      have e6 : l.prs = four.take 2 ∧ r.prs = four.drop 2 := by
        rw [← hpt.app, e4, ← e5, List.nil_append]
        exact ⟨(List.take_left ..).symm, (List.drop_left ..).symm⟩
      rw [e3]
      have z5 : R5 0 = none := hk5.zero hstH.out.z
      have sh5 : Short R5 := hk5.short hstH.out.sh
      have nd5 : (l.hs ++ (m.hs ++ r.hs)).Nodup := by rw [o.hs]; exact (List.nodup_append.1 hstH.out.nd).1
      have rr : Rising (l.prs ++ (m.prs ++ r.prs)) := by rw [o.prs, hstH.out.prs]; exact hstH.out.ris
      obtain ⟨nl, hTl, -⟩ := treeIn hS5 sh5 z5 o.la e6.1 (by rw [← e6.1]; exact rising_left rr) (List.nodup_append.1 nd5).1
      obtain ⟨nr, hTr, -⟩ := treeIn hS5 sh5 z5 o.ra e6.2 (by rw [← e6.2]; exact rising_right (rising_right rr)) (List.nodup_append.1 (List.nodup_append.1 nd5).2.1).2.1
      have hcf5 := hcf2H.out.turn (hT'.out.trans hT5)
      obtain ⟨A5, sl1, sl2, hdr, -⟩ := slice_fromF (some ⟨b2, 0, none⟩) 4 2 4 (by omega) (by omega)
      have hc2 := hdr w5 F' four rfl hcf5
      have hI1 : Calls Tryz.prog 24 #[.pointer (some ⟨s, 0, none⟩), .int .i64 1, .int .u64 (l.root : Nat), .slice (some ⟨b2, 0, none⟩) 2 4] w5 _ := paIs_at (c := 4) hTl false o.lk (hcf5.take' 2)
      have hI2 : ∀ W, Below w5.heap.size w5 W → Calls Tryz.prog 24 #[.pointer (some ⟨s, 0, none⟩), .int .i64 1, .int .u64 (r.root : Nat), .slice A5 2 2] W _ := fun W hb => paIs_at (c := 2) (hTr.below hb) false o.rk (hc2.turn (Turn.below hb))
      have hI1H := Lib.hid hI1
      have hI2H := Lib.hid hI2
      have hbw := Lib.hid (hB2H.out.trans ((hT'.out.trans hT5).to_below hB2H.out.size hF1H.out))
      clear hpt e1 e2 e3 e4 e5 e6 z5 sh5 nd5 rr hTl hTr hcf5 hdr hc2 hI1 hI2 o hk5 hS5 hT5 hSpH
      push_cast at sl1 sl2
      go_wp2_with fail
      refine hI1H.out.mono ?_
      rintro e w6 ⟨rfl, hb6⟩
      have hb6H := Lib.hid hb6
      clear hb6
      go_wp2_with fail
      refine (hI2H.out _ hb6H.out).mono ?_
      rintro e w7 ⟨rfl, hb7⟩
      have hb7H := Lib.hid (hbw.out.trans ((hb6H.out.trans (hb7.mono hb6H.out.size)).mono hbw.out.size))
      clear hb7
      go_wp2
      go_ret
      exact ⟨rfl, hb7H.out⟩
end Go.Proofs.YtijpmjaeanocpaaGreatDoor

set_option linter.unusedVariables false
set_option linter.unusedSimpArgs false
namespace Go.Proofs.YtijpmjaeanocpaaGreatDoor
open Go.RowKit Go.Shelf
theorem CellsF.own {w : World} {F : Nat → Prop} {base c : Nat} {A : Option Addr} {l : List Pr} (h : w.ownsRow base 33 2 (.slice A l.length c) l.length (prsV l)) (hp : Prs w w.heap.size A l) (hF : ∀ b, F b → b < base) : CellsF w F A (prsV l) := by
  rcases hp with h1 | ⟨b, o, h1, h2, h3⟩
  · rw [h1]; exact .inl rfl
  · refine .inr ⟨b, o, h1, h2, fun hf => ?_, h3⟩
    have h4 := hF b hf
    have h5 := (own2_lt h (k := b) (by rw [h1]; rfl)).1
    omega
theorem kind_of {k : Int} (h1 : ¬ k < 1) (h2 : ¬ 2 < k) : ∃ rd, k = kindZ rd := by
  have : k = 1 ∨ k = 2 := by omega
  rcases this with rfl | rfl
  · exact ⟨false, rfl⟩
  · exact ⟨true, rfl⟩
theorem kindZ_ok (rd : Bool) : decide (kindZ rd < 1) = false ∧ decide (2 < kindZ rd) = false := by cases rd <;> exact ⟨rfl, rfl⟩
theorem Ln.none_of {R : Nat → Option (List Nat)} {m : Ln} (h : m.At R) (h0 : m.root = 0) : m = .none := by
  cases m with
  | none => rfl
  | one y _ _ _ _ => exact absurd h0 h.nz
end Go.Proofs.YtijpmjaeanocpaaGreatDoor

set_option linter.unusedVariables false
namespace Go.Proofs.YtijpmjaeanocpaaGreatDoor
end Go.Proofs.YtijpmjaeanocpaaGreatDoor
