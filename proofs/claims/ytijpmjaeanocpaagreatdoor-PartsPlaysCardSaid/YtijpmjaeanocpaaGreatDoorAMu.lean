/-
  The seat's own texts, part u: AllS, Two, WrongP, Nil, Nil2, Base.
-/
import Derived.Test.YtijpmjaeanocpaaGreatDoorAMt
import Derived.Deep.Onto
import Derived.Maps.AppendAt

set_option linter.unusedVariables false
set_option linter.unusedSimpArgs false
namespace Go.Proofs.YtijpmjaeanocpaaGreatDoor
open Go.RowKit Go.Shelf
theorem Tryz.under_handles : Tryz.prog.underlying 47 = some (.slice 30) := by kernel_rfl
theorem Tryz.info_handle : (Tryz.prog.info? 30).map (fun i => (i.zero, i.size, i.bytes)) = some (some (.int .u64 0), 1, 8) := by kernel_rfl
theorem below_append {N : Nat} {w1 wr w' : World} {tmp : Obj} {v : Value} (hb : Below N w1 wr) (hN : N ≤ wr.heap.size) (hg : (wr.alloc tmp).grownBy w' v.ownBlock) (hv : ∀ r, v.ownBlock = some r → N ≤ r) : Below N w1 w' :=
  ⟨hg.os.trans hb.os, hg.tape.trans hb.tape, hg.output.trans hb.output, Nat.le_trans hb.size (Nat.le_trans (by simp) hg.size), fun k hk => by
    have h1 : k < wr.heap.size := by omega
    refine (hg.block k (by simp; omega) (fun e => ?_)).trans ((Below.heap_alloc wr tmp k h1).trans (hb.block k hk))
    have := hv k e.symm
    omega⟩
theorem ownBlock_low {W : World} {N : Nat} {e : TypeId} {v : Value} {n : Nat} {xs : List Value} (h : W.ownsRow N e 1 v n xs) (r : Nat) (hr : v.ownBlock = some r) : N ≤ r := by
  rcases h.2 with ⟨rfl, _⟩ | ⟨g, cap, cur, rfl, hb, _⟩
  · simp [Value.ownBlock] at hr
  · have : g = r := by simpa [Value.ownBlock] using hr
    omega
section
variable {w w' : World} {s : Nat} {F : Nat → Prop} {R : Nat → Option (List Nat)} {H : List Nat} {P q most last G : Nat}
set_option maxRecDepth 100000 in
set_option maxHeartbeats 2000000 in
theorem sall_at (h : StoreIs w s F R H P q most last G) :
    Calls Tryz.prog 25 #[.pointer (some ⟨s, 0, none⟩)] w fun e w' => ∃ (v : Value) (Hs : List Nat), e = .returned v ∧ Hs.Perm H ∧ w'.ownsRow w.heap.size 30 1 v Hs.length (Hs.map fun x : Nat => Value.int .u64 (x : Int)) ∧ Below w.heap.size w w' := by
  obtain ⟨a, ha, t, v, L, mem, sl, Fh, h⟩ := h
  obtain ⟨i0, hi, hz0, hz1, hz2⟩ := info_parts Tryz.info_handle
  have hN := Lib.hid (snone_at h)
  have hch := h.ch
  have hS := Lib.hid h
  have hLv := Lib.hid (live_is h.heap)
  have hperm := Lib.hid h.perm
  have hlenL : Hid ((blocks L).length ≤ 31 * 4096) := Lib.hid (by
    obtain ⟨⟨mb, D, k1, rfl⟩, k3, k4⟩ := h.heap
    have h1 := k1.sl.room; have h2 := k1.sl.quota; rw [k1.sl.count] at h1
    have h3 := heads_len (L := L); have h4 := blocks_len L; omega)
  clear h
  go_enter Tryz.func25, Tryz.ntmps25
  go_wp2_with fail
  refine hN.out.mono ?_
  rintro e w' ⟨rfl, rfl⟩
  go_wp2_with fail
  refine hLv.out.mono ?_
  rintro e w1 ⟨lv, rfl, hrow, hb⟩
  obtain ⟨A, c, rfl⟩ := ownsRow_form hrow
  have hrowH := Lib.hid hrow
  have hbH := Lib.hid hb
  have hS1 := Lib.hid (hS.out.below hb)
  have hca := hS1.out.ca
  have hn := hlenL.out
  clear hrow hb
  generalize hbl : blocks L = bl at *
  have hblH := Lib.hid hbl
  clear hbl
  go_wp2
  go_loopw [16, 3] (fun kv vv wr => ∃ k : Nat, k ≤ bl.length ∧ kv = .int .i64 k ∧ Hid (wr.ownsRow w1.heap.size 30 1 vv k ((bl.take k).map fun b => Value.int .u64 (mem b.1 : Int))) ∧ Hid (Below w1.heap.size w1 wr)) (fun kv _ _ => bl.length - (intOf kv).toNat)
  case atStart => exact ⟨0, by omega, rfl, Lib.hid (by simpa using World.ownsRow_nil _ _ _ _), Lib.hid (Below.refl _ _)⟩
  case round =>
    obtain ⟨k, hkk, rfl, hrowk, hbk⟩ := hrel
    by_cases hlt : k < bl.length
    · obtain ⟨g, c', hsl, hg1, hg2, hcell⟩ := ownsRow_cell hrowH.out (i := k) (u := .int .i64 ((bl[k].1 : Nat) : Int)) (by simp [rowsOf, hlt])
      obtain ⟨rfl, rfl⟩ : A = some ⟨g, 0, none⟩ ∧ c = c' := by simpa using hsl
      have hcr : wr.cell? ⟨g, k, none⟩ = some (.int .i64 ((bl[k].1 : Nat) : Int)) := (hbk.out.cell (p := ⟨g, k, none⟩) hg2).trans hcell
      have hSr := Lib.hid (hS1.out.below hbk.out)
      have hcar := hSr.out.ca
      have hmem : bl[k] ∈ blocks L := by rw [hblH.out]; exact List.getElem_mem hlt
      have hRd := Lib.hid (read_is hSr.out.heap hmem bl[k].1 (Nat.le_refl _) (by have := block_within_two hSr.out.heap.lay hmem; omega))
      have hsz := hbk.out.size
      have hnext : Hid (((bl.take k).map fun b => Value.int .u64 (mem b.1 : Int)) ++ [Value.int .u64 (mem bl[k].1 : Int)] = (bl.take (k + 1)).map fun b => Value.int .u64 (mem b.1 : Int)) := Lib.hid (by rw [List.take_succ_eq_append_getElem hlt, List.map_append]; rfl)
      clear hcell hsl hmem
      generalize hbk1 : bl[k].1 = x at *
      clear hbk1
      go_wp2_with fail
      refine hRd.out.mono ?_
      rintro e w2 ⟨rfl, rfl⟩
      have hlen : k ≤ 31 * 4096 := by omega
      go_wp2_with (at_builtin; refine wpList_append_own_at _ rfl _ _ 47 rfl w1.heap.size 30 i0 (.int .u64 0) 1 8 Tryz.under_handles hi hz0 hz1 hz2 rfl (by decide) _ _ _ rfl (hrowk.out.alloc _) ⟨wr.heap.size, 0, none⟩ 1 1 [.int .u64 (mem x : Int)] rfl rfl (cell_one_new _ _ _) (by simp [Value.oneCell']) (by unfold maxLen; omega) (by omega) (by simp; omega) ?_; intro v' w3 hown' hgrow _ hblk; rw [hnext.out] at hown'; have hb3 := below_append hbk.out hsz hgrow (fun r hr => ownBlock_low hrowk.out r hr))
      go_roundw
      case rel => exact ⟨k + 1, by omega, by go_num, Lib.hid hown', Lib.hid hb3⟩
      case measure => simp [intOf]; omega
    · obtain rfl : k = bl.length := by omega
      go_wp2
      go_ret
      rw [List.take_length] at hrowk
      refine ⟨_, bl.map fun b => mem b.1, rfl, hperm.out.symm, ?_, hbH.out.trans (hbk.out.mono hbH.out.size)⟩
      rw [List.length_map, List.map_map]
      exact hrowk.out.mono hbH.out.size
end
end Go.Proofs.YtijpmjaeanocpaaGreatDoor

set_option linter.unusedVariables false
set_option linter.unusedSimpArgs false
namespace Go.Proofs.YtijpmjaeanocpaaGreatDoor
open Go.RowKit Go.Shelf
section
variable {w w' : World} {s N : Nat} {F : Nat → Prop} {R R' : Nat → Option (List Nat)} {H : List Nat} {P q most last G n : Nat}
theorem treeIn (h : StoreIs w s F R H P q most last G) (sh : Short R) (z : R 0 = none) {t : BT} (ht : t.At R) {l : List Pr} (hp : t.prs = l) (hr : Rising l) (hn : t.hs.Nodup) : ∃ n, TreeR w.heap.size w s R n t l ∧ WordsR R H P n := by
  obtain ⟨n, hrd, hwd⟩ := h.rd
  exact ⟨n, ⟨hrd, sh, z, ht, hp, hr, hn, BT.size_words ht hn h.dom hwd⟩, hwd⟩
theorem GrowOut.other {t t' : BT} (g : GrowOut R R' t) (h : t'.At R) : t'.At R' := h.congr fun x hx => g.keep (BT.hs_in t' h x hx)
theorem GrowOut.apart {t t' : BT} (g : GrowOut R R' t) (h : t'.At R) : ∀ x ∈ t'.hs, x ∉ t.hs := fun x hx hm => BT.hs_in t' h x hx (g.fresh x hm)
theorem dropR_zero {l : List Nat} (h : R 0 = none) : dropR R l 0 = none := by
  unfold dropR
  split
  · rfl
  · exact h
theorem StoreIs.kb {Cs : Nat → Prop} (h : StoreIs w s F R H P q most last G) (hk : KB Cs w w') (hF : ∀ k, Cs k → ¬ F k) (hs : ¬ Cs s) (hp : ∀ k, Cs k → ∀ p, w.cell? ⟨k, 0, none⟩ ≠ some (.pointer p)) (ht : ¬ Cs 1) : StoreIs w' s F R H P q most last G := by
  obtain ⟨a, ha, t, v, L, mem, sl, Fh, h⟩ := h
  have hFe := h.F_eq
  have hha : ¬ Cs ha := fun hc => by
    obtain ⟨⟨mb, D, k1, rfl⟩, _, _⟩ := h.heap
    exact hp ha hc _ k1.hs
  exact ⟨a, ha, t, v, L, mem, sl, Fh, { h with
    ca := hk.cell h.ca hs
    ch := hk.cell h.ch hs
    ct := hk.cell h.ct hs
    heap := h.heap.kb hk (fun k hf hc => hF k hc (by rw [hFe]; exact .inl hf)) hha ht
    tab := h.tab.kb hk (fun b hf hc => hF b hc (by rw [hFe]; exact .inr hf)) }⟩
end
end Go.Proofs.YtijpmjaeanocpaaGreatDoor

set_option linter.unusedVariables false
set_option linter.unusedSimpArgs false
namespace Go.Proofs.YtijpmjaeanocpaaGreatDoor
open Go.RowKit Go.Shelf
theorem checkR_val (R : Nat → Option (List Nat)) (n x : Nat) : checkR R n x = 0 ∨ checkR R n x = 8 := by
  unfold checkR
  split
  · exact .inl rfl
  · split
    · exact .inr rfl
    · split
      · exact .inr rfl
      · split
        · exact .inr rfl
        · split
          · exact .inr rfl
          · exact .inl rfl
end Go.Proofs.YtijpmjaeanocpaaGreatDoor

set_option linter.unusedVariables false
set_option linter.unusedSimpArgs false
namespace Go.Proofs.YtijpmjaeanocpaaGreatDoor
open Go.RowKit Go.Shelf
end Go.Proofs.YtijpmjaeanocpaaGreatDoor

set_option linter.unusedVariables false
set_option linter.unusedSimpArgs false
namespace Go.Proofs.YtijpmjaeanocpaaGreatDoor
open Go.RowKit Go.Shelf
attribute [local go_sem] Oper.semAt_some wide_fn
end Go.Proofs.YtijpmjaeanocpaaGreatDoor

set_option linter.unusedVariables false
namespace Go.Proofs.YtijpmjaeanocpaaGreatDoor
end Go.Proofs.YtijpmjaeanocpaaGreatDoor
