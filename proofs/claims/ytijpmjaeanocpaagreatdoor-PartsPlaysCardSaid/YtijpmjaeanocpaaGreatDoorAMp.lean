/-
  The seat's own texts, part p: In2, List, Seen, Chk1, Chk2, Chk3.
-/
import Derived.Test.YtijpmjaeanocpaaGreatDoorAMo
import Derived.Maps.OwnIn
import Derived.Deep.DeepMust

set_option linter.unusedVariables false
set_option linter.unusedSimpArgs false
namespace Go.Proofs.YtijpmjaeanocpaaGreatDoor
open Go.RowKit Go.Shelf
attribute [local go_sem] Oper.semAt_some wide_fn
theorem Tryz.under_hs : Tryz.prog.underlying 47 = some (.slice 30) := by kernel_rfl
theorem Tryz.info_h : (Tryz.prog.info? 30).map (fun i => (i.zero, i.size, i.bytes)) = some (some (.int .u64 0), 1, 8) := by kernel_rfl
theorem goO_zero (R : Nat → Option (List Nat)) (st : List Nat) (root : Nat) : goO R st.length 0 st root = st := by
  cases st with
  | nil => rfl
  | cons x t => show goO R (t.length + 1) 0 (x :: t) root = _; rw [goO, if_pos rfl]
theorem row_cap {w : World} {base : Nat} {e : TypeId} {g n c : Nat} {xs : List Value} (h : w.ownsRow base e 1 (.slice (some ⟨g, 0, none⟩) n c) n xs) : n ≤ c := by
  rcases h.2 with ⟨h1, _⟩ | ⟨g', cap', cur, h1, h2, h3, h4, _⟩
  · cases h1
  · cases h1; exact h4
def sliceLen : Value → Nat
  | .slice _ n _ => n
  | _ => 0
set_option maxRecDepth 100000 in
theorem in_calls (s x : Nat) (w : World) : Calls Tryz.prog 177 #[.pointer (some ⟨s, 0, none⟩), .int .u64 (x : Nat)] w fun e w' => e = .returned (.func (.func 219) #[] #[.pointer (some ⟨w.heap.size, 0, none⟩), .pointer (some ⟨w.heap.size + 1, 0, none⟩)]) ∧ w' = (w.alloc (.cells #[.pointer (some ⟨s, 0, none⟩)] 23)).alloc (.cells #[.int .u64 (x : Nat)] 30) := by
  go_enter Tryz.func177, Tryz.ntmps177
  go_wp2
  go_ret
  exact ⟨rfl, rfl⟩
set_option maxHeartbeats 4000000 in
set_option maxRecDepth 100000 in
theorem in_stops {w : World} {s N n B1 B2 root : Nat} {R : Nat → Option (List Nat)} {L : List Nat} (h : Rd N w s R n) (hL : L = inR R n root) (hB1 : w.cell? ⟨B1, 0, none⟩ = some (.pointer (some ⟨s, 0, none⟩))) (hB2 : Boxed w B2 30 (.int .u64 (root : Nat)))
    (cN : N ≤ B2) (c12 : B1 ≠ B2) (hroot : root < 18446744073709551616) (E : World → Nat → Prop) (hE : EReq N w.heap.size E) (c0 : ∀ k, E w k → N ≤ k ∧ k ≠ B1 ∧ k ≠ B2 ∧ k < w.heap.size) :
    SeqMv Fence.wide 8 Tryz.prog 219 #[.pointer (some ⟨B1, 0, none⟩), .pointer (some ⟨B2, 0, none⟩)] (fun x : {y : Nat // y ∈ L} => #[.int .u64 (x.1 : Nat), (nodeG R x.1).v]) (KM E) (Mv N E) (fun xs => xs.map (·.1) = L) (fun pre => ∃ t, L = pre.map (·.1) ++ t) L.length w := fun l J Jx W hBW hJ hJx hY h0 => by
  obtain ⟨i0, hi, hz0, hz1, hz2⟩ := info_parts Tryz.info_h
  have hn := h.le
  have hb1 := (hBW.cell (p := ⟨B1, 0, none⟩) (cell_lt hB1)).trans hB1
  have hb2 : Boxed W B2 30 (.int .u64 (root : Nat)) := (hBW.block _ hB2.lt).trans hB2
  have hszW := hBW.size
  have hB1lt : B1 < W.heap.size := cell_lt (a := ⟨B1, 0, none⟩) hb1
  have hB2lt : B2 < W.heap.size := hb2.lt
  have hN0 : N ≤ w.heap.size := by have := hB2.lt; omega
  have HW : Hid (InW E N w.heap.size s n B1 B2 W.heap.size R root (.slice none 0 0) [] W) := Lib.hid ⟨h.below hBW, hb1, hb2, World.ownsRow_nil _ _ _ _, hN0, Nat.le_refl _, hszW,
    fun k hk => by
      obtain ⟨q1, q2, q3, q4⟩ := c0 k (hE.mv w W (Nat.le_refl _) (Mv.below hBW) k hk)
      exact ⟨q1, q2, q3, by simp [Value.ownBlock]⟩,
    fun k hk => Nat.lt_of_lt_of_le (c0 k (hE.mv w W (Nat.le_refl _) (Mv.below hBW) k hk)).2.2.2 hszW⟩
  have hLi := limit_at HW.out.rd
  obtain ⟨m, hm⟩ : ∃ m, m = n / 8 + 1 := ⟨_, rfl⟩
  rw [← hm] at hLi
  have hm1 : m ≤ 32769 := by omega
  have hLiH := Lib.hid ((callsIn_wide (n := 7)).2 hLi)
  have hL0 : Hid (L = ([] : List {y : Nat // y ∈ L}).map (·.1) ++ goO R ((m - 0) + ([] : List Nat).length) (m - 0) [] root) := Lib.hid (by rw [hL, inR, ← hm]; rfl)
  have hEH := Lib.hid hE
  have hJH := Lib.hid hJ
  have hYH := Lib.hid hY
  have J0 := Lib.hid h0
  have hNb : N ≤ W.heap.size := by omega
  clear hLi hm hL hE hJ hY h0 c0 hBW h hB1 hB2 hb1 hb2 hn
  generalize hn0 : w.heap.size = n0 at *
  clear hn0
  refine callsIn_of_wp Tryz.func219 rfl trivial ?_ rfl
  simp only [Tryz.ntmps219, List.size_toArray, List.length_cons, List.length_nil, Nat.reduceAdd, Nat.reduceSub, Array.replicate_succ, Array.replicate_zero, List.push_toArray, List.append_toArray, List.nil_append, List.cons_append]
  have x1 := HW.out.b1
  gi_wp2_with fail
  refine hLiH.out.mono ?_
  rintro e w1 ⟨rfl, hb⟩
  have H1 := Lib.hid (HW.out.below hEH.out hb)
  have J1 := Lib.hid (hJH.out _ _ _ J0.out (Mv.below hb))
  clear hb hLiH x1 HW J0
  generalize W.heap.size = base at *
  gi_wp2_with fail
  gi_loopw [4, 6] (fun sv kv wr => ∃ (pre : List {y : Nat // y ∈ L}) (st : List Nat) (r k : Nat), k ≤ m ∧ (m - k) + st.length ≤ m ∧ kv = .int .i64 k ∧ (∃ A c, sv = .slice A st.length c) ∧ r < 18446744073709551616 ∧ Hid (InW E N n0 s n B1 B2 base R r sv st wr) ∧ Hid (J pre wr) ∧ Hid (L = pre.map (·.1) ++ goO R ((m - k) + st.length) (m - k) st r) ∧ Hid (∀ y ∈ st, y < 18446744073709551616)) (fun sv kv _ => (m - (intOf kv).toNat) + sliceLen sv)
  case atStart => exact ⟨[], [], root, 0, by omega, by simp, rfl, ⟨_, _, rfl⟩, hroot, H1, J1, hL0, Lib.hid (by simp)⟩
  case round =>
    obtain ⟨pre, st, r, k, hk, hks, rfl, ⟨A, c, rfl⟩, hr, H, hj, hgo, hst⟩ := hrel
    by_cases hlt : k < m
    · have dk : decide ((k : Int) < (m : Int)) = true := by simp; omega
      gi_wp2_with fail
      gi_loopw [4, 6] (fun sv kv wi => ∃ (st' : List Nat) (r' k' : Nat), k ≤ k' ∧ k' ≤ m ∧ kv = .int .i64 k' ∧ (∃ A c, sv = .slice A st'.length c) ∧ r' < 18446744073709551616 ∧ Hid (InW E N n0 s n B1 B2 base R r' sv st' wi) ∧ Hid (J pre wi) ∧ Hid (dive R (m - k) st r = dive R (m - k') st' r') ∧ Hid (∀ y ∈ st', y < 18446744073709551616) ∧ (m - k') + st'.length = (m - k) + st.length) (fun sv kv _ => m - (intOf kv).toNat)
      case atStart => exact ⟨st, r, k, by omega, hk, rfl, ⟨_, _, rfl⟩, hr, H, hj, Lib.hid rfl, hst, rfl⟩
      case round =>
        obtain ⟨st', r', k', hkk, hk', rfl, ⟨A', c', rfl⟩, hr', H', hj', hdv, hst', hsum⟩ := hrel
        have xb1 := H'.out.b1
        have xb2 := H'.out.b2.cell
        have hlen3 : st'.length ≤ 32769 := by omega
        by_cases hgo2 : r' ≠ 0 ∧ k' < m
        · obtain ⟨hr0, hk2⟩ := hgo2
          have dr : ((r' : Int) != 0) = true := by simp; omega
          have dk2 : decide ((k' : Int) < (m : Int)) = true := by simp; omega
          obtain ⟨f, hf⟩ : ∃ f, m - k' = f + 1 := ⟨m - k' - 1, by omega⟩
          obtain ⟨nd, hnd⟩ : ∃ nd, nodeG R r' = nd := ⟨_, rfl⟩
          obtain ⟨z, hz⟩ : ∃ z, nodeE R r' = z := ⟨_, rfl⟩
          have hz10 : z < 10 := hz ▸ nodeE_lt R r'
          have hok := H'.out.rd.nodeG r'
          rw [hnd] at hok
          have hG := Lib.hid ((callsIn_wide (n := 7)).2 (nget_lit H'.out.rd r' hr' nd hnd z hz))
          have hdv2 : dive R (m - k) st r = if z ≠ 0 then none else dive R f (r' :: st') nd.left := by
            rw [hdv.out, hf, dive, if_neg hr0, hz, hnd]
          have hdv2H := Lib.hid hdv2
          have hl := hok.left
          clear hnd hz hok hdv2
          by_cases hz0 : z = 0
          · subst hz0
            gi_wp2_with fail
            refine hG.out.mono ?_
            rintro e w2 ⟨rfl, hb2⟩
            have hzz := hb2.size
            have hb3 : Below wr.heap.size wr (w2.alloc (Obj.cells #[Value.int IntKind.u64 (nd.key : Nat), Value.int IntKind.u64 (nd.val : Nat), Value.int IntKind.u64 (nd.left : Nat), Value.int IntKind.u64 (nd.right : Nat), Value.int IntKind.u64 (nd.mark : Nat), Value.int IntKind.u64 (nd.size : Nat)] 118)) := hb2.alloc hzz _
            have n2 : (w2.alloc (Obj.cells #[Value.int IntKind.u64 (nd.key : Nat), Value.int IntKind.u64 (nd.val : Nat), Value.int IntKind.u64 (nd.left : Nat), Value.int IntKind.u64 (nd.right : Nat), Value.int IntKind.u64 (nd.mark : Nat), Value.int IntKind.u64 (nd.size : Nat)] 118)).cell? ⟨w2.heap.size, 2, none⟩ = some (.int .u64 (nd.left : Nat)) := by go_simp
            have H3 := Lib.hid (H'.out.below hEH.out hb3)
            have J3 := Lib.hid (hJH.out _ _ _ hj'.out (Mv.below hb3))
            have y2 := H3.out.b2.cell
            have hown0 := fun k (hk : (Value.slice A' st'.length c').ownBlock = some k) => own_lt H'.out.row hk
            have hbz : base ≤ (w2.alloc (Obj.cells #[Value.int IntKind.u64 (nd.key : Nat), Value.int IntKind.u64 (nd.val : Nat), Value.int IntKind.u64 (nd.left : Nat), Value.int IntKind.u64 (nd.right : Nat), Value.int IntKind.u64 (nd.mark : Nat), Value.int IntKind.u64 (nd.size : Nat)] 118)).heap.size := H3.out.bas
            have hrowH := Lib.hid H3.out.row
            have hnb : Hid (some w2.heap.size ≠ (Value.slice A' st'.length c').ownBlock) := Lib.hid (fun e => by have := (hown0 _ e.symm).2; omega)
            have hszA : (w2.alloc (Obj.cells #[Value.int IntKind.u64 (nd.key : Nat), Value.int IntKind.u64 (nd.val : Nat), Value.int IntKind.u64 (nd.left : Nat), Value.int IntKind.u64 (nd.right : Nat), Value.int IntKind.u64 (nd.mark : Nat), Value.int IntKind.u64 (nd.size : Nat)] 118)).heap.size = w2.heap.size + 1 := by simp
            clear hb2 hG hb3 xb1 xb2 hown0
            gi_wp2_with (gi_at_builtin; go_must (generalize (w2.alloc (Obj.cells #[Value.int IntKind.u64 (nd.key : Nat), Value.int IntKind.u64 (nd.val : Nat), Value.int IntKind.u64 (nd.left : Nat), Value.int IntKind.u64 (nd.right : Nat), Value.int IntKind.u64 (nd.mark : Nat), Value.int IntKind.u64 (nd.size : Nat)] 118)) = W3 at *; rw [← hszA]; refine wpListIn_append_own_at _ rfl _ _ 47 rfl base 30 i0 (.int .u64 0) 1 8 Tryz.under_hs hi hz0 hz1 hz2 rfl (by decide) _ _ _ rfl (hrowH.out.alloc _) ⟨W3.heap.size, 0, none⟩ 1 1 [.int .u64 (r' : Nat)] rfl rfl (cell_one_new _ _ _) (by simp [Value.oneCell']) (by unfold maxLen; omega) (by omega) (by simp; omega) ?_; intro v' w5 hown' hgrow _ hblk; obtain ⟨g', cap', rfl⟩ := ownsRow_succ hown'; have H5 := H3.out.push hEH.out hNb hB2lt hB1lt hown' hgrow hblk; have hm5 := H3.out.pushMv hNb hgrow; have y5 := H5.b2.cell; have f5 := H5.b2.frozen; have n5 : w5.cell? ⟨w2.heap.size, 2, none⟩ = some (.int .u64 (nd.left : Nat)) := (World.cell?_of_block ((hgrow.block w2.heap.size (by simp; omega) hnb.out).trans (Below.heap_alloc _ _ _ (by omega)))).trans n2))
            have H6 := Lib.hid (H5.setRoot hEH.out cN c12 hB2lt nd.left)
            have J6 := Lib.hid (hJH.out _ _ _ (hJH.out _ _ _ J3.out hm5) (H5.setMv cN (.int .u64 (nd.left : Nat))))
            clear H5 hm5 y5 f5 n5 n2 hown' hgrow hblk y2
            go_roundw
            case rel => exact ⟨r' :: st', nd.left, k' + 1, by omega, by omega, by go_num, ⟨_, _, rfl⟩, hl, H6, J6, Lib.hid (by rw [hdv2H.out, if_neg (by simp), show m - (k' + 1) = f by omega]), Lib.hid (by intro y hy; rcases List.mem_cons.1 hy with rfl | hy; exact hr'; exact hst'.out y hy), by simp only [List.length_cons]; omega⟩
            case measure => simp [intOf]; omega
          · have d : ((z : Int) != 0) = true := by simp; omega
            gi_wp2_with fail
            refine hG.out.mono ?_
            rintro e w2 ⟨rfl, hb2⟩
            have hzz := hb2.size
            have hb3 : Below wr.heap.size wr (w2.alloc (Obj.cells #[Value.int IntKind.u64 (nd.key : Nat), Value.int IntKind.u64 (nd.val : Nat), Value.int IntKind.u64 (nd.left : Nat), Value.int IntKind.u64 (nd.right : Nat), Value.int IntKind.u64 (nd.mark : Nat), Value.int IntKind.u64 (nd.size : Nat)] 118)) := hb2.alloc hzz _
            have J3 := Lib.hid (hJH.out _ _ _ hj'.out (Mv.below hb3))
            have hfin : Hid (pre.map (·.1) = L) := Lib.hid (by
              obtain ⟨g, hg⟩ : ∃ g, (m - k) + st.length = g + 1 := ⟨m - k + st.length - 1, by omega⟩
              have h9 := hgo.out
              rw [hg, goO, if_neg (by omega), hdv2H.out, if_pos hz0] at h9
              simpa using h9.symm)
            clear hb2 hG hb3
            gi_wp2
            refine bodyPost_ret (results_none rfl _ _ _) rfl ?_
            exact ⟨⟨_, rfl⟩, .inl ⟨pre, hfin.out, J3.out⟩⟩
        · have hdv3 : ∃ z, dive R (m - k) st r = some (st', m - k', z) := by
            rw [hdv.out]
            by_cases e : k' = m
            · subst e; rw [Nat.sub_self]; exact ⟨r', rfl⟩
            · obtain ⟨f, hf⟩ : ∃ f, m - k' = f + 1 := ⟨m - k' - 1, by omega⟩
              have hr0 : r' = 0 := by
                by_cases h9 : r' = 0
                · exact h9
                · exact absurd ⟨h9, by omega⟩ hgo2
              rw [hf, dive, if_pos hr0]
              exact ⟨0, rfl⟩
          obtain ⟨g, hg⟩ : ∃ g, (m - k) + st.length = g + 1 := ⟨m - k + st.length - 1, by omega⟩
          have hgo3 := hgo.out
          rw [hg, goO, if_neg (by omega)] at hgo3
          obtain ⟨zz, hzz⟩ := hdv3
          rw [hzz] at hgo3
          have hex : r' = 0 ∨ (r' ≠ 0 ∧ k' = m) := by
            by_cases h9 : r' = 0
            · exact .inl h9
            · exact .inr ⟨h9, by by_cases h8 : k' = m; exact h8; exact absurd ⟨h9, by omega⟩ hgo2⟩
          clear hzz hgo2 hdv hgo
          cases st' with
          | nil =>
            have hfin : Hid (pre.map (·.1) = L) := Lib.hid (by simpa using hgo3.symm)
            clear hgo3
            rcases hex with hr0 | ⟨hr0, hkm⟩
            · subst hr0
              gi_wp2
              refine bodyPost_ret (results_none rfl _ _ _) rfl ?_
              exact ⟨⟨_, rfl⟩, .inl ⟨pre, hfin.out, hj'.out⟩⟩
            · have dr : ((r' : Int) != 0) = true := by simp; omega
              subst hkm
              gi_wp2
              refine bodyPost_ret (results_none rfl _ _ _) rfl ?_
              exact ⟨⟨_, rfl⟩, .inl ⟨pre, hfin.out, hj'.out⟩⟩
          | cons x t =>
            simp only at hgo3
            obtain ⟨g', cap', hv⟩ := ownsRow_succ H'.out.row
            simp only [Value.slice.injEq] at hv
            obtain ⟨rfl, _, rfl⟩ := hv
            obtain ⟨H4, hcx⟩ := H'.out.pop
            have hcap := row_cap H'.out.row
            simp only [List.length_cons] at hcap
            have H4H := Lib.hid H4
            have hx64 := hst'.out x (by simp)
            have hstt : Hid (∀ y ∈ t, y < 18446744073709551616) := Lib.hid (fun y hy => hst'.out y (by simp [hy]))
            have hxL : x ∈ L := by rw [hgo3]; simp
            have hpl : pre.length < L.length := by have h9 := congrArg List.length hgo3; simp only [List.length_append, List.length_map, List.length_cons] at h9; omega
            have hmapH : Hid ((pre ++ [(⟨x, hxL⟩ : {y : Nat // y ∈ L})]).map (fun y => y.1) = pre.map (fun y => y.1) ++ [x]) := Lib.hid (by rw [List.map_append]; rfl)
            have hgo4 : Hid (L = (pre ++ [(⟨x, hxL⟩ : {y : Nat // y ∈ L})]).map (fun y => y.1) ++ goO R g (m - k') t (nodeG R x).right) := Lib.hid (by rw [hmapH.out, List.append_assoc]; exact hgo3)
            have hgt : g = (m - k') + t.length := by simp only [List.length_cons] at hsum; omega
            obtain ⟨nd, hnd⟩ : ∃ nd, nodeG R x = nd := ⟨_, rfl⟩
            obtain ⟨z, hz⟩ : ∃ z, nodeE R x = z := ⟨_, rfl⟩
            have hok := H4.rd.nodeG x
            rw [hnd] at hok
            have hrt := hok.right
            have hG := Lib.hid ((callsIn_wide (n := 7)).2 (nget_lit H4.rd x hx64 nd hnd z hz))
            have hYx := Lib.hid (fun W hw => hYH.out pre ⟨x, hxL⟩ W hw hpl)
            simp only [hnd] at hgo4 hYx
            unfold Nd.v at hYx
            have hlx : ((t.length : Int) + 1 == 0) = false := by simp; omega
            clear hgo3 hnd hz hok H4 H' H1 hpl
            rcases hex with hr0 | ⟨hr0, hkm⟩
            · have dr : ((r' : Int) != 0) = false := by simp; omega
              gi_wp2_with fail
              refine hG.out.mono ?_
              rintro e w2 ⟨rfl, hb2⟩
              have hzz := hb2.size
              have hb3 : Below wr.heap.size wr (w2.alloc (Obj.cells #[Value.int IntKind.u64 (nd.key : Nat), Value.int IntKind.u64 (nd.val : Nat), Value.int IntKind.u64 (nd.left : Nat), Value.int IntKind.u64 (nd.right : Nat), Value.int IntKind.u64 (nd.mark : Nat), Value.int IntKind.u64 (nd.size : Nat)] 118)) := hb2.alloc hzz _
              have H5 := Lib.hid (H4H.out.below hEH.out hb3)
              have J5 := Lib.hid (hJH.out _ _ _ hj'.out (Mv.below hb3))
              obtain ⟨fn, tmps, assign, body, hy, hRr⟩ := hYx.out _ J5.out
              have n3 : (w2.alloc (Obj.cells #[Value.int IntKind.u64 (nd.key : Nat), Value.int IntKind.u64 (nd.val : Nat), Value.int IntKind.u64 (nd.left : Nat), Value.int IntKind.u64 (nd.right : Nat), Value.int IntKind.u64 (nd.mark : Nat), Value.int IntKind.u64 (nd.size : Nat)] 118)).cell? ⟨w2.heap.size, 3, none⟩ = some (.int .u64 (nd.right : Nat)) := by go_simp
              have hE2 : Hid (¬ E (w2.alloc (Obj.cells #[Value.int IntKind.u64 (nd.key : Nat), Value.int IntKind.u64 (nd.val : Nat), Value.int IntKind.u64 (nd.left : Nat), Value.int IntKind.u64 (nd.right : Nat), Value.int IntKind.u64 (nd.mark : Nat), Value.int IntKind.u64 (nd.size : Nat)] 118)) w2.heap.size) := Lib.hid (fun e => by
                have h8 := H4H.out.lt _ (hEH.out.mv _ _ H4H.out.big (Mv.below hb3) _ e)
                omega)
              have hRH2 := Lib.hid hRr
              clear hRr hb2 hb3 hG hYx xb1 xb2
              gi_wp2_with fail
              generalize (w2.alloc (Obj.cells #[Value.int IntKind.u64 (nd.key : Nat), Value.int IntKind.u64 (nd.val : Nat), Value.int IntKind.u64 (nd.left : Nat), Value.int IntKind.u64 (nd.right : Nat), Value.int IntKind.u64 (nd.mark : Nat), Value.int IntKind.u64 (nd.size : Nat)] 118)) = W3 at *
              refine (hRH2.out).mono ?_
              rintro e W2 (⟨rfl, hJ2, hK2⟩ | ⟨rfl, hJx2⟩)
              · have H6 := H5.out.step hK2
                have c3 := hK2.kb.cell n3 hE2.out
                have y6 := H6.b2.cell
                have f6 := H6.b2.frozen
                have H7 := Lib.hid (H6.setRoot hEH.out cN c12 hB2lt nd.right)
                have J7 := Lib.hid (hJH.out _ _ _ hJ2 (H6.setMv cN (.int .u64 (nd.right : Nat))))
                clear H6 hJ2 hK2 n3 hE2 hRH2 hy
                gi_wp2
                go_roundw
                case rel => exact ⟨pre ++ [⟨x, hxL⟩], t, nd.right, k', hk', by simp only [List.length_cons] at hsum; omega, by first | rfl | rw [hkm], ⟨_, _, rfl⟩, hrt, H7, J7, Lib.hid (by rw [← hgt]; exact hgo4.out), hstt⟩
                case measure => simp [intOf, sliceLen]; simp only [List.length_cons] at hsum; omega
              · have hJx4 := Lib.hid hJx2
                clear hJx2
                gi_wp2
                refine bodyPost_ret (results_none rfl _ _ _) rfl ?_
                exact ⟨⟨_, rfl⟩, .inr ⟨_, ⟨goO R g (m - k') t nd.right, hgo4.out⟩, hJx4.out⟩⟩
            · have dr : ((r' : Int) != 0) = true := by simp; omega
              have dk2 : decide ((k' : Int) < (m : Int)) = false := by simp; omega
              gi_wp2_with fail
              refine hG.out.mono ?_
              rintro e w2 ⟨rfl, hb2⟩
              have hzz := hb2.size
              have hb3 : Below wr.heap.size wr (w2.alloc (Obj.cells #[Value.int IntKind.u64 (nd.key : Nat), Value.int IntKind.u64 (nd.val : Nat), Value.int IntKind.u64 (nd.left : Nat), Value.int IntKind.u64 (nd.right : Nat), Value.int IntKind.u64 (nd.mark : Nat), Value.int IntKind.u64 (nd.size : Nat)] 118)) := hb2.alloc hzz _
              have H5 := Lib.hid (H4H.out.below hEH.out hb3)
              have J5 := Lib.hid (hJH.out _ _ _ hj'.out (Mv.below hb3))
              obtain ⟨fn, tmps, assign, body, hy, hRr⟩ := hYx.out _ J5.out
              have n3 : (w2.alloc (Obj.cells #[Value.int IntKind.u64 (nd.key : Nat), Value.int IntKind.u64 (nd.val : Nat), Value.int IntKind.u64 (nd.left : Nat), Value.int IntKind.u64 (nd.right : Nat), Value.int IntKind.u64 (nd.mark : Nat), Value.int IntKind.u64 (nd.size : Nat)] 118)).cell? ⟨w2.heap.size, 3, none⟩ = some (.int .u64 (nd.right : Nat)) := by go_simp
              have hE2 : Hid (¬ E (w2.alloc (Obj.cells #[Value.int IntKind.u64 (nd.key : Nat), Value.int IntKind.u64 (nd.val : Nat), Value.int IntKind.u64 (nd.left : Nat), Value.int IntKind.u64 (nd.right : Nat), Value.int IntKind.u64 (nd.mark : Nat), Value.int IntKind.u64 (nd.size : Nat)] 118)) w2.heap.size) := Lib.hid (fun e => by
                have h8 := H4H.out.lt _ (hEH.out.mv _ _ H4H.out.big (Mv.below hb3) _ e)
                omega)
              have hRH2 := Lib.hid hRr
              clear hRr hb2 hb3 hG hYx xb1 xb2
              gi_wp2_with fail
              generalize (w2.alloc (Obj.cells #[Value.int IntKind.u64 (nd.key : Nat), Value.int IntKind.u64 (nd.val : Nat), Value.int IntKind.u64 (nd.left : Nat), Value.int IntKind.u64 (nd.right : Nat), Value.int IntKind.u64 (nd.mark : Nat), Value.int IntKind.u64 (nd.size : Nat)] 118)) = W3 at *
              refine (hRH2.out).mono ?_
              rintro e W2 (⟨rfl, hJ2, hK2⟩ | ⟨rfl, hJx2⟩)
              · have H6 := H5.out.step hK2
                have c3 := hK2.kb.cell n3 hE2.out
                have y6 := H6.b2.cell
                have f6 := H6.b2.frozen
                have H7 := Lib.hid (H6.setRoot hEH.out cN c12 hB2lt nd.right)
                have J7 := Lib.hid (hJH.out _ _ _ hJ2 (H6.setMv cN (.int .u64 (nd.right : Nat))))
                clear H6 hJ2 hK2 n3 hE2 hRH2 hy
                gi_wp2
                go_roundw
                case rel => exact ⟨pre ++ [⟨x, hxL⟩], t, nd.right, k', hk', by simp only [List.length_cons] at hsum; omega, by first | rfl | rw [hkm], ⟨_, _, rfl⟩, hrt, H7, J7, Lib.hid (by rw [← hgt]; exact hgo4.out), hstt⟩
                case measure => simp [intOf, sliceLen]; simp only [List.length_cons] at hsum; omega
              · have hJx4 := Lib.hid hJx2
                clear hJx2
                gi_wp2
                refine bodyPost_ret (results_none rfl _ _ _) rfl ?_
                exact ⟨⟨_, rfl⟩, .inr ⟨_, ⟨goO R g (m - k') t nd.right, hgo4.out⟩, hJx4.out⟩⟩
    · obtain rfl : m = k := by omega
      have dk : decide ((m : Int) < (m : Int)) = false := by simp
      have hgo2 : Hid (L = pre.map (·.1) ++ st) := Lib.hid (by
        have h9 := hgo.out
        rw [Nat.sub_self, Nat.zero_add, goO_zero] at h9
        exact h9)
      clear hgo H1
      gi_wp2_with fail
      gi_loopw [4] (fun sv wr => ∃ (pre : List {y : Nat // y ∈ L}) (st : List Nat) (r : Nat), st.length ≤ m ∧ (∃ A c, sv = .slice A st.length c) ∧ Hid (InW E N n0 s n B1 B2 base R r sv st wr) ∧ Hid (J pre wr) ∧ Hid (L = pre.map (·.1) ++ st) ∧ Hid (∀ y ∈ st, y < 18446744073709551616)) (fun sv _ => sliceLen sv)
      case atStart => exact ⟨pre, st, r, by omega, ⟨_, _, rfl⟩, H, hj, hgo2, hst⟩
      case round =>
        clear H hj hgo2 hst
        obtain ⟨pre, st, r, hsl, ⟨A, c, rfl⟩, H', hj', hgo3, hst'⟩ := hrel
        have xb1 := H'.out.b1
        cases st with
        | nil =>
          have hfin : Hid (pre.map (·.1) = L) := Lib.hid (by simpa using hgo3.out.symm)
          gi_wp2
          go_end0
          exact ⟨⟨_, rfl⟩, .inl ⟨pre, hfin.out, hj'.out⟩⟩
        | cons x t =>
          obtain ⟨g', cap', hv⟩ := ownsRow_succ H'.out.row
          simp only [Value.slice.injEq] at hv
          obtain ⟨rfl, _, rfl⟩ := hv
          obtain ⟨H4, hcx⟩ := H'.out.pop
          have hcap := row_cap H'.out.row
          simp only [List.length_cons] at hcap hsl
          have H4H := Lib.hid H4
          have hx64 := hst'.out x (by simp)
          have hstt : Hid (∀ y ∈ t, y < 18446744073709551616) := Lib.hid (fun y hy => hst'.out y (by simp [hy]))
          have hxL : x ∈ L := by rw [hgo3.out]; simp
          have hpl : pre.length < L.length := by have h9 := congrArg List.length hgo3.out; simp only [List.length_append, List.length_map, List.length_cons] at h9; omega
          have hmapH : Hid ((pre ++ [(⟨x, hxL⟩ : {y : Nat // y ∈ L})]).map (fun y => y.1) = pre.map (fun y => y.1) ++ [x]) := Lib.hid (by rw [List.map_append]; rfl)
          have hgo4 : Hid (L = (pre ++ [(⟨x, hxL⟩ : {y : Nat // y ∈ L})]).map (fun y => y.1) ++ t) := Lib.hid (by rw [hmapH.out, List.append_assoc]; exact hgo3.out)
          obtain ⟨nd, hnd⟩ : ∃ nd, nodeG R x = nd := ⟨_, rfl⟩
          obtain ⟨z, hz⟩ : ∃ z, nodeE R x = z := ⟨_, rfl⟩
          have hG := Lib.hid ((callsIn_wide (n := 7)).2 (nget_lit H4.rd x hx64 nd hnd z hz))
          have hYx := Lib.hid (fun W hw => hYH.out pre ⟨x, hxL⟩ W hw hpl)
          simp only [hnd] at hYx
          unfold Nd.v at hYx
          have hlx : decide ((0 : Int) < (t.length : Int) + 1) = true := by simp
          clear hnd hz H4 H' hpl hgo3
          gi_wp2_with fail
          refine hG.out.mono ?_
          rintro e w2 ⟨rfl, hb2⟩
          have hzz := hb2.size
          have hb3 : Below wr.heap.size wr (w2.alloc (Obj.cells #[Value.int IntKind.u64 (nd.key : Nat), Value.int IntKind.u64 (nd.val : Nat), Value.int IntKind.u64 (nd.left : Nat), Value.int IntKind.u64 (nd.right : Nat), Value.int IntKind.u64 (nd.mark : Nat), Value.int IntKind.u64 (nd.size : Nat)] 118)) := hb2.alloc hzz _
          have H5 := Lib.hid (H4H.out.below hEH.out hb3)
          have J5 := Lib.hid (hJH.out _ _ _ hj'.out (Mv.below hb3))
          obtain ⟨fn, tmps, assign, body, hy, hRr⟩ := hYx.out _ J5.out
          have hRH2 := Lib.hid hRr
          clear hRr hb2 hb3 hG hYx xb1
          gi_wp2_with fail
          generalize (w2.alloc (Obj.cells #[Value.int IntKind.u64 (nd.key : Nat), Value.int IntKind.u64 (nd.val : Nat), Value.int IntKind.u64 (nd.left : Nat), Value.int IntKind.u64 (nd.right : Nat), Value.int IntKind.u64 (nd.mark : Nat), Value.int IntKind.u64 (nd.size : Nat)] 118)) = W3 at *
          refine (hRH2.out).mono ?_
          rintro e W2 (⟨rfl, hJ2, hK2⟩ | ⟨rfl, hJx2⟩)
          · have H6 := Lib.hid (H5.out.step hK2)
            have J7 := Lib.hid hJ2
            clear hJ2 hK2 hRH2 hy
            gi_wp2
            go_roundw
            case rel => exact ⟨pre ++ [⟨x, hxL⟩], t, r, by omega, ⟨_, _, rfl⟩, H6, J7, hgo4, hstt⟩
            case measure => simp [sliceLen]
          · have hJx4 := Lib.hid hJx2
            clear hJx2
            gi_wp2
            refine bodyPost_ret (results_none rfl _ _ _) rfl ?_
            exact ⟨⟨_, rfl⟩, .inr ⟨_, ⟨t, hgo4.out⟩, hJx4.out⟩⟩
end Go.Proofs.YtijpmjaeanocpaaGreatDoor

set_option linter.unusedVariables false
set_option linter.unusedSimpArgs false
namespace Go.Proofs.YtijpmjaeanocpaaGreatDoor
open Go.RowKit Go.Shelf
attribute [local go_sem] Oper.semAt_some wide_fn
def OutB (B : Nat) (W : World) (k : Nat) : Prop := k = B ∨ ∃ m c, W.cell? ⟨B, 0, none⟩ = some (.slice (some ⟨k, 0, none⟩) m c)
theorem outB_cell {B : Nat} {X Y : World} (h : Y.cell? ⟨B, 0, none⟩ = X.cell? ⟨B, 0, none⟩) (k : Nat) (hk : OutB B Y k) : OutB B X k := by
  rcases hk with h1 | ⟨m, c, h1⟩
  · exact .inl h1
  · exact .inr ⟨m, c, h.symm.trans h1⟩
theorem outB_req {N n0 B : Nat} (hB : B < n0) : EReq N n0 (OutB B) := ⟨fun X Y hX hm k hk => by
  obtain ⟨o, ho⟩ : ∃ o, X.heap[B]? = some o := ⟨_, Array.getElem?_eq_getElem (by omega)⟩
  exact outB_cell (World.cell?_of_block (a := ⟨B, 0, none⟩) ((hm.keep B o ho (.inr (.inl (.inl rfl)))).trans ho.symm)) k hk⟩
theorem rowI_mv {w A B : World} {bt et : TypeId} {l : List Value} (h : RowI w bt et l A) (hm : Mv w.heap.size (OutB w.heap.size) A B) : RowI w bt et l B := by
  obtain ⟨v, h1, h2, h3⟩ := h
  refine ⟨v, hm.keep _ _ h1 (.inr (.inl (.inl rfl))), ⟨h2.1, ?_⟩, h3.trans (hm.to_below (Nat.le_refl _) h3.size)⟩
  rcases h2.2 with h4 | ⟨g, cap, cur, h4, h5, h6, h7⟩
  · exact .inl h4
  · exact .inr ⟨g, cap, cur, h4, h5, hm.keep g _ h6 (.inr (.inl (.inr ⟨l.length, cap, by rw [h1.cell, h4]⟩))), h7⟩
theorem rowB_append {w W w1 : World} {bt et : TypeId} {l l' : List Value} {v v' : Value} {tmp : Obj} (hbe : bt ≠ et) (hv : Boxed W w.heap.size bt v) (hrow : W.ownsRow w.heap.size et 1 v l.length l) (hb : Below w.heap.size w W)
    (hown' : w1.ownsRow w.heap.size et 1 v' l'.length l') (hgrow : (W.alloc tmp).grownBy w1 v.ownBlock) (hblk : v'.ownBlock = v.ownBlock ∨ v'.ownBlock = some (W.alloc tmp).heap.size) :
    Boxed w1 w.heap.size bt v ∧ RowI w bt et l' (w1.setCell ⟨w.heap.size, 0, none⟩ v') ∧ KM (OutB w.heap.size) W (w1.setCell ⟨w.heap.size, 0, none⟩ v') ∧ KeepsOthers W (w1.setCell ⟨w.heap.size, 0, none⟩ v') := by
  obtain ⟨a1, a2, a3, a4, a5⟩ := hv.appended hbe hrow hb.size (Nat.le_refl _) hown' hgrow
  refine ⟨a1, ⟨v', a2, a3, hb.trans a5⟩, ⟨⟨a4.size, fun k o hk ho hn => ?_⟩, fun k hk => ?_⟩, a4⟩
  · have hkw : k < W.heap.size := (Array.getElem?_eq_some_iff.1 hk).1
    have h1 : k ≠ w.heap.size := fun e => hn (.inl e)
    have h2 : some k ≠ v.ownBlock := fun e => by
      refine hn (.inr ?_)
      rcases hrow.2 with ⟨rfl, _⟩ | ⟨g, cap, cur, rfl, _, _, _⟩
      · simp [Value.ownBlock] at e
      · have : k = g := by simpa [Value.ownBlock] using e
        subst this
        exact ⟨_, _, hv.cell⟩
    rw [Below.heap_setCell _ _ _ k h1]
    exact (hgrow.block k (by simp; omega) h2).trans ((Below.heap_alloc W tmp k hkw).trans hk)
  · rcases hk with rfl | ⟨m, c, hc⟩
    · exact .inl (.inl rfl)
    · rw [a2.cell] at hc
      simp only [Option.some.injEq] at hc
      subst hc
      have hob : (Value.slice (some ⟨k, 0, none⟩) m c).ownBlock = some k := by simp [Value.ownBlock]
      have hkl := (own_lt a3 hob).2
      rw [hob] at hblk
      rcases hblk with h1 | h1
      · rcases hrow.2 with ⟨rfl, _⟩ | ⟨g, cap, cur, rfl, _, _, _⟩
        · simp [Value.ownBlock] at h1
        · have : k = g := by simpa [Value.ownBlock] using h1
          subst this
          exact .inl (.inr ⟨_, _, hv.cell⟩)
      · have : k = (W.alloc tmp).heap.size := by simpa using h1
        exact .inr ⟨by rw [this]; simp, hkl⟩
theorem inR_len (R : Nat → Option (List Nat)) (n x : Nat) : (inR R n x).length ≤ n / 8 + 1 := goO_len R _ _ _ _ (by simp)
section
variable {w w' : World} {s N : Nat} {R : Nat → Option (List Nat)} {n : Nat}
set_option maxHeartbeats 4000000 in
set_option maxRecDepth 100000 in
theorem list_at (h : Rd N w s R n) (x : Nat) (hx : x < 18446744073709551616) :
    Calls Tryz.prog 124 #[.pointer (some ⟨s, 0, none⟩), .int .u64 (x : Nat)] w fun e w' => ∃ v, e = .returned v ∧ w'.ownsRow w.heap.size 30 1 v (inR R n x).length (hsV (inR R n x)) ∧ Below w.heap.size w w' := by
  obtain ⟨i0, hi, hz0, hz1, hz2⟩ := info_parts Tryz.info_h
  refine (callsIn_wide (n := 9)).1 ?_
  have hIn := Lib.hid (fun w => (callsIn_wide (n := 8)).2 (in_calls s x w))
  have HH := Lib.hid h.here
  have hLl := inR_len R n x
  have hn := h.le
  obtain ⟨L, hL⟩ : ∃ L, L = inR R n x := ⟨_, rfl⟩
  rw [← hL] at hLl ⊢
  have hLH := Lib.hid hL
  have hLl2 : L.length ≤ 40000 := by omega
  clear h hL hLl hn
  refine callsIn_of_wp_marks Tryz.func124 rfl trivial ?_ rfl
  simp only [Tryz.ntmps124, List.size_toArray, List.length_cons, List.length_nil, Nat.reduceAdd, Nat.reduceSub, Array.replicate_succ, Array.replicate_zero, List.push_toArray, List.append_toArray, List.nil_append, List.cons_append]
  gi_wp2_with fail
  refine (hIn.out _).mono ?_
  rintro e w2 ⟨rfl, hW2⟩
  have hsz1 : (w.alloc (Obj.cells #[Value.slice none 0 0] 47)).heap.size = w.heap.size + 1 := by simp
  rw [hsz1]
  have hbx : Boxed w2 w.heap.size 47 (.slice none 0 0) := by rw [hW2]; exact ((Boxed.new w _ _).alloc _).alloc _
  have hx1 : w2.cell? ⟨w.heap.size + 1, 0, none⟩ = some (.pointer (some ⟨s, 0, none⟩)) := by rw [hW2]; go_simp
  have hx2 : Boxed w2 (w.heap.size + 1 + 1) 30 (.int .u64 (x : Nat)) := by
    rw [hW2]
    have := Boxed.new ((w.alloc (Obj.cells #[Value.slice none 0 0] 47)).alloc (Obj.cells #[Value.pointer (some ⟨s, 0, none⟩)] 23)) 30 (.int .u64 (x : Nat))
    rw [show ((w.alloc (Obj.cells #[Value.slice none 0 0] 47)).alloc (Obj.cells #[Value.pointer (some ⟨s, 0, none⟩)] 23)).heap.size = w.heap.size + 1 + 1 by simp] at this
    exact this
  have hb2w : Below w.heap.size w w2 := by rw [hW2]; exact (((Below.refl _ w).alloc (Nat.le_refl _) _).alloc (by simp) _).alloc (by simp; omega) _
  have hz2' : w.heap.size + 3 ≤ w2.heap.size := by rw [hW2]; simp
  clear hW2 hsz1 hIn
  gi_wp2_with fail
  have HH2 := Lib.hid (HH.out.below hb2w)
  have hofn : ∀ k, OutB w.heap.size w2 k → k = w.heap.size := fun k hk => by
    rcases hk with h | ⟨m, c, h⟩
    · exact h
    · rw [hbx.cell] at h; cases h
  refine wpIn_rangeFunc_mv (α := {y : Nat // y ∈ L}) rfl (by omega) (gf := 219) (lb := #[.pointer (some ⟨w.heap.size + 1, 0, none⟩), .pointer (some ⟨w.heap.size + 1 + 1, 0, none⟩)]) rfl trivial (enters_of Tryz.func219 (by kernel_rfl) rfl)
    (in_stops HH2.out hLH.out hx1 hx2 (by omega) (by omega) hx (OutB w.heap.size) (outB_req (by omega)) (fun k hk => by have := hofn k hk; omega))
    (fun A B hm k o hk ho => hm.keep k o hk (.inr (.inr ho)))
    (fun h k => h.trans k) (fun W l o o' hl' hl h1 h2 => ⟨KB.putObj o' hl h1 h2, fun k hk => .inl (outB_cell (World.cell?_of_block (a := ⟨w.heap.size, 0, none⟩) (World.putObj_heap_other (by simp; omega))) k hk)⟩) (Below.refl _ _) (fun _ => rfl)
    (fun pre W => RowI w 47 30 (hsV (pre.map (fun (z : {y : Nat // y ∈ L}) => z.1))) W)
    (fun cd pre W => False)
    (rowI_own w _ _ (fun pre : List {y : Nat // y ∈ L} => hsV (pre.map (fun (z : {y : Nat // y ∈ L}) => z.1))) _ (by omega))
    (fun _ _ _ _ _ hs _ _ => hs)
    (fun s A B hs hm => rowI_mv hs hm)
    (fun c s A B hs hm => hs)
    ⟨_, hbx, World.ownsRow_nil _ _ _ _, hb2w⟩
    (fun z a' W => a' = { tmps := #[Value.pointer (some { block := s, off := 0 }), Value.int IntKind.u64 (x : Nat), undef, undef, Value.slice none 0 0, Value.pointer (some { block := w.heap.size, off := 0 }), Value.int IntKind.u64 (z.1 : Nat), Value.pointer (some { block := s, off := 0 }), Value.int IntKind.u64 (x : Nat), Value.func (Fn.func 219) #[] #[Value.pointer (some { block := w.heap.size + 1, off := 0 }), Value.pointer (some { block := w.heap.size + 1 + 1, off := 0 })], Value.int IntKind.u64 (z.1 : Nat), (nodeG R z.1).v, undef, undef, undef, undef, undef], defers := [] })
    (fun _ _ _ _ _ _ hs _ _ => hs)
    ?assign ?body ?done ?stop
  case assign =>
    rintro l pre ⟨y, hy⟩ W K hi hK
    dsimp only at hK ⊢
    gi_wp2
    exact hK _ W (KeepsOthers.refl _ |>.from _) ⟨KB.refl _ _, fun k hk => .inl hk⟩ hi rfl
  case body =>
    rintro l pre ⟨z, hz⟩ a' W hl ⟨r, hr⟩ hi rfl hlen
    dsimp only
    obtain ⟨v, hv, hrow, hb⟩ := hi
    have hnext : Hid (hsV ((pre ++ [(⟨z, hz⟩ : {y : Nat // y ∈ L})]).map (fun (z : {y : Nat // y ∈ L}) => z.1)) = hsV (pre.map (fun (z : {y : Nat // y ∈ L}) => z.1)) ++ [Value.int .u64 (z : Nat)]) := Lib.hid (by rw [List.map_append, hsV, List.map_append]; rfl)
    have hpl : (hsV (pre.map (fun (z : {y : Nat // y ∈ L}) => z.1))).length ≤ 40000 := by simp [hsV]; omega
    generalize hsV (pre.map (fun (z : {y : Nat // y ∈ L}) => z.1)) = told at *
    generalize nodeG R z = nd at *
    have hc := hv.cell
    have hbH := Lib.hid hb
    have hrowH := Lib.hid hrow
    have hvH := Lib.hid hv
    clear hb hrow hv
    have hz : w.heap.size ≤ W.heap.size := hbH.out.size
    unfold Nd.v
    gi_wp2_with (gi_at_builtin; refine wpListIn_append_own_at _ rfl _ _ 47 rfl w.heap.size 30 i0 (.int .u64 0) 1 8 Tryz.under_hs hi hz0 hz1 hz2 rfl (by decide) _ _ _ rfl (hrowH.out.alloc _) ⟨W.heap.size, 0, none⟩ 1 1 [.int .u64 (z : Nat)] rfl rfl (cell_one_new _ _ _) (by simp [Value.oneCell']) (by unfold maxLen; omega) (by omega) (by simp; omega) ?_; intro v' w1 hown' hgrow _ hblk; obtain ⟨g', cap', rfl⟩ := ownsRow_succ hown'; obtain ⟨b1, b2, b4, b5⟩ := rowB_append (l' := told ++ [Value.int .u64 (z : Nat)]) (by decide) hvH.out hrowH.out hbH.out (by simpa using hown') hgrow hblk; have hc1 := b1.cell; have hf1 := b1.frozen)
    exact ⟨b5.from _, b4, by show RowI w _ _ _ _; rw [hnext.out]; exact b2⟩
  case done =>
    rintro D' xs W hD hxs hi hK
    rw [hxs] at hi
    have hwl : (hsV L).length = L.length := by simp [hsV]
    obtain ⟨v, hv, hrow, hb⟩ := hi
    rw [hwl] at hrow
    have hc := hv.cell
    have hbH := Lib.hid hb
    have hrowH := Lib.hid hrow
    clear hb hrow hv hxs
    gi_wp2
    refine ⟨by simp, .inl ⟨_, _, rfl, run_takeDeferred hK, ?_⟩⟩
    refine ⟨v, by simp [results, Tryz.f124], v, rfl, ownsRow_kb (Cs := fun _ => False) hrowH.out (KB.putObj _ hK rfl rfl) (fun _ h => h.elim), ?_⟩
    exact hbH.out.trans (belowK_b (w := w) (Nat.le_refl _) _ D' _ _ (by omega) hK rfl rfl)
  case stop =>
    rintro D' cd pre W hD hSp hf
    exact hf.elim
end
end Go.Proofs.YtijpmjaeanocpaaGreatDoor

set_option linter.unusedVariables false
set_option linter.unusedSimpArgs false
namespace Go.Proofs.YtijpmjaeanocpaaGreatDoor
open Go.RowKit Go.Shelf
def chk3 (S : List Nat) : List Nat → Option (List Nat)
  | [] => some S
  | x :: t => if x ∈ S then none else chk3 (S ++ [x]) t
structure Cst where
  S : List Nat
  last : ByteArray
  first : Bool
  sides : List Nat
def Cst.bad (R : Nat → Option (List Nat)) (c : Cst) (h : Nat) : Bool :=
  pairE R h != 0 || ((!c.first && decide (0 ≤ Tx.cmp c.last (pairP R h).1)) || !fitsR R (nodeG R h))
def Cst.step (R : Nat → Option (List Nat)) (c : Cst) (h : Nat) : Option Cst :=
  if c.bad R h = true then none
  else (chk3 c.S [h, (nodeG R h).key, (nodeG R h).val]).map fun S' => ⟨S', (pairP R h).1, false, c.sides ++ [(nodeG R h).left, (nodeG R h).right]⟩
def chkL (R : Nat → Option (List Nat)) (root : Nat) (l : List Nat) : Option Cst := l.foldl (fun c h => c.bind fun c => c.step R h) (some ⟨[], ⟨#[]⟩, true, [root]⟩)
theorem chkL_snoc (R : Nat → Option (List Nat)) (root : Nat) (l : List Nat) (h : Nat) : chkL R root (l ++ [h]) = (chkL R root l).bind fun c => c.step R h := by
  unfold chkL; rw [List.foldl_append]; rfl
theorem fold_none (R : Nat → Option (List Nat)) : ∀ l : List Nat, l.foldl (fun (c : Option Cst) h => c.bind fun c => c.step R h) none = none
  | [] => rfl
  | _ :: t => fold_none R t
theorem chkL_none (R : Nat → Option (List Nat)) (root : Nat) (l t : List Nat) (h : chkL R root l = none) : chkL R root (l ++ t) = none := by
  unfold chkL at *
  rw [List.foldl_append, h]
  exact fold_none R t
def checkR (R : Nat → Option (List Nat)) (n root : Nat) : Nat :=
  if root = 0 then 0
  else if nodeE R root ≠ 0 then 8
  else match chkL R root (inR R n root) with
    | none => 8
    | some c => if c.sides.any (fun x => x != 0 && !c.S.contains x) then 8 else if (3 * (nodeG R root).size) % 18446744073709551616 ≠ c.S.length then 8 else 0
theorem chk3_len : ∀ (S l S' : List Nat), chk3 S l = some S' → S'.length = S.length + l.length
  | S, [], S', h => by unfold chk3 at h; cases h; simp
  | S, x :: t, S', h => by
    unfold chk3 at h
    by_cases hx : x ∈ S
    · rw [if_pos hx] at h; cases h
    · rw [if_neg hx] at h
      have := chk3_len _ _ _ h
      simp at this ⊢; omega
structure SeenIs (D : DW) (S : List Nat) : Prop where
  tidy : Maps.Tidy D
  at' : ∀ x : Nat, D.atKey (.int .u64 (x : Nat)) (.lit (.int .i64 0)) = .lit (.int .i64 (if x ∈ S then 1 else 0))
  has : ∀ x : Nat, Maps.has D (.int .u64 (x : Nat)) = decide (x ∈ S)
  size : Maps.size D = S.length
theorem key_u64 (x : Nat) : WideAt.IsKeyLit (.int .u64 (x : Nat)) := by simp [WideAt.IsKeyLit]
theorem SeenIs.empty : SeenIs (.map []) [] := ⟨Maps.tidy_empty, fun x => by rfl, fun x => by rfl, rfl⟩
theorem SeenIs.put {D : DW} {S : List Nat} (h : SeenIs D S) {x : Nat} (hx : x ∉ S) : SeenIs (D.put (.int .u64 (x : Nat)) (.lit (.int .i64 1))) (S ++ [x]) := by
  refine ⟨h.tidy.put (key_u64 x) _, fun y => ?_, fun y => ?_, ?_⟩
  · by_cases e : y = x
    · subst e
      rw [Maps.atKey_put_same h.tidy.isMap (key_u64 _), if_pos (by simp)]
    · rw [Maps.atKey_put_other (by simp; omega), h.at' y]
      simp [e]
  · by_cases e : y = x
    · subst e
      rw [Maps.has_put_same h.tidy.isMap (key_u64 _)]
      simp
    · rw [Maps.has_put_other (by simp; omega), h.has y]
      simp [e]
  · rw [Maps.size_put h.tidy, h.has x, if_neg (by simpa using hx), h.size]
    simp
abbrev SeenMap (w : World) (b m : Nat) (D : DW) : Prop := w.ownsMap Tryz.prog 30 (plainElem Tryz.prog 3) b m D
theorem keyedH : Maps.Keyed Tryz.prog 30 := Maps.int_keyed Tryz.underlying30
theorem keyH {x : Nat} (h : x < 18446744073709551616) : keyOf Tryz.prog 30 (.int .u64 (x : Nat)) = some (.int .u64 (x : Nat)) :=
  Maps.keyOf_int_mk Tryz.underlying30 (by simp [Lit.wf, IntKind.min, IntKind.max, IntKind.signed, IntKind.bits]; omega)
theorem zeroInt (w : World) : (zeroValue 3).run Tryz.prog w = .ok (.int .i64 0) w := by kernel_rfl
theorem seen_look {w : World} {b m : Nat} {D : DW} (h : SeenMap w b m D) {x : Nat} (hx : x < 18446744073709551616) {c : Int} (hc : D.atKey (.int .u64 (x : Nat)) (.lit (.int .i64 0)) = .lit (.int .i64 c)) :
    (Instr.lookup 317 (.map (some b)) (.int .u64 (x : Nat)) false).run Tryz.prog w = .ok (.int .i64 c) w := by
  obtain ⟨c', hrun, hat, _⟩ := h.lookup_int keyedH Tryz.underlying317 Tryz.underlying3 (zeroInt w) (keyH hx)
  rw [hat] at hc
  cases hc
  exact hrun
theorem seen_put_at {D : DW} (h : Maps.IsMap D) (x : Nat) (c : Int) : (D.put (.int .u64 (x : Nat)) (.lit (.int .i64 c))).atKey (.int .u64 (x : Nat)) (.lit (.int .i64 0)) = .lit (.int .i64 c) := Maps.atKey_put_same h (key_u64 x) _ _
theorem plain_int {c : Int} (h1 : -9223372036854775808 ≤ c) (h2 : c ≤ 9223372036854775807) : plainElem (H := Unit) Tryz.prog 3 (.int .i64 c) = some (.lit (.int .i64 c), []) := plainElem_int Tryz.underlying3 (WalkArith.wf_i64 ⟨h1, h2⟩)
end Go.Proofs.YtijpmjaeanocpaaGreatDoor

set_option linter.unusedVariables false
set_option linter.unusedSimpArgs false
namespace Go.Proofs.YtijpmjaeanocpaaGreatDoor
open Go.RowKit Go.Shelf
def NdBox (W : World) (nb : Nat) (nd : Nd) : Prop := W.heap[nb]? = some (.cells #[.int .u64 (nd.key : Nat), .int .u64 (nd.val : Nat), .int .u64 (nd.left : Nat), .int .u64 (nd.right : Nat), .int .u64 (nd.mark : Nat), .int .u64 (nd.size : Nat)] 118 (0, 0))
theorem ndBox_new (W : World) (nd : Nd) : NdBox (W.alloc (Obj.cells #[Value.int IntKind.u64 (nd.key : Nat), Value.int IntKind.u64 (nd.val : Nat), Value.int IntKind.u64 (nd.left : Nat), Value.int IntKind.u64 (nd.right : Nat), Value.int IntKind.u64 (nd.mark : Nat), Value.int IntKind.u64 (nd.size : Nat)] 118)) W.heap.size nd := World.alloc_heap_new W _
theorem NdBox.kept {A B : World} {nb m : Nat} {nd : Nd} {row : Option Nat} (h : NdBox A nb nd) (hg : A.grownBy B row) (hr : ∀ r, row = some r → m ≤ r ∧ ∃ o : Obj, A.heap[r]? = some o ∧ o.isCells = false) : NdBox B nb nd :=
  (hg.block nb (Array.getElem?_eq_some_iff.1 h).1 (fun e => by
    obtain ⟨_, o, ho, hc⟩ := hr nb e.symm
    rw [show A.heap[nb]? = _ from h] at ho
    cases ho
    cases hc)).trans h
theorem NdBox.below {A B : World} {nb : Nat} {nd : Nd} (h : NdBox A nb nd) (hb : Below A.heap.size A B) : NdBox B nb nd := (hb.block nb (Array.getElem?_eq_some_iff.1 h).1).trans h
theorem NdBox.cells {A : World} {nb : Nat} {nd : Nd} (h : NdBox A nb nd) : A.cell? ⟨nb, 0, none⟩ = some (.int .u64 (nd.key : Nat)) ∧ A.cell? ⟨nb, 1, none⟩ = some (.int .u64 (nd.val : Nat)) ∧ A.cell? ⟨nb, 2, none⟩ = some (.int .u64 (nd.left : Nat)) ∧
    A.cell? ⟨nb, 3, none⟩ = some (.int .u64 (nd.right : Nat)) ∧ A.cell? ⟨nb, 4, none⟩ = some (.int .u64 (nd.mark : Nat)) ∧ A.cell? ⟨nb, 5, none⟩ = some (.int .u64 (nd.size : Nat)) := by
  have h' : A.heap[nb]? = _ := h
  refine ⟨?_, ?_, ?_, ?_, ?_, ?_⟩ <;> simp [World.cell?, h']
structure ChkW (w : World) (s B : Nat) (c : Cst) (W : World) : Prop where
  b2 : Boxed W w.heap.size 23 (.pointer (some ⟨s, 0, none⟩))
  b4 : Boxed W (w.heap.size + 1) 24 (.int .i64 0)
  b9 : Boxed W (B + 3) 317 (.map (some (B + 1)))
  b11 : Boxed W (B + 5) 9 (.string c.last)
  b12 : Boxed W (B + 6) 4 (.bool c.first)
  seen : ∃ D, SeenMap W (B + 1) c.S.length D ∧ SeenIs D c.S
  sides : ∃ v, Boxed W (B + 4) 47 v ∧ W.ownsRow (B + 2) 30 1 v c.sides.length (hsV c.sides)
  below : Below w.heap.size w W
  big : w.heap.size + 2 ≤ B
def ChkE (b B : Nat) (W : World) (k : Nat) : Prop := k = b ∨ k = b + 1 ∨ k = B + 1 ∨ k = B + 3 ∨ k = B + 5 ∨ k = B + 6 ∨ OutB (B + 4) W k
theorem seenMap_same {w w' : World} {b m : Nat} {D : DW} (h : SeenMap w b m D) (hk : w'.heap[b]? = w.heap[b]?) : SeenMap w' b m D := by
  obtain ⟨es, clock, hb, F, rest⟩ := h
  exact ⟨es, clock, hk.trans hb, F, rest⟩
theorem seenMap_obj {w : World} {b m : Nat} {D : DW} (h : SeenMap w b m D) : ∃ o, w.heap[b]? = some o ∧ o.isCells = false ∧ o.isWalk = true := by
  obtain ⟨es, clock, hb, F, rest⟩ := h
  exact ⟨_, hb, rfl, rfl⟩
section
variable {w W W' : World} {s B : Nat} {c : Cst}
theorem ChkW.keep (h : ChkW w s B c W) (hk : ∀ (k : Nat) (o : Obj), W.heap[k]? = some o → ChkE w.heap.size B W k → W'.heap[k]? = some o) (hb : Below w.heap.size w W') : ChkW w s B c W' := by
  obtain ⟨D, hm, hs⟩ := h.seen
  obtain ⟨v, hv, hrow⟩ := h.sides
  obtain ⟨o, ho, _⟩ := seenMap_obj hm
  refine ⟨hk _ _ h.b2 (.inl rfl), hk _ _ h.b4 (.inr (.inl rfl)), hk _ _ h.b9 (.inr (.inr (.inr (.inl rfl)))), hk _ _ h.b11 (.inr (.inr (.inr (.inr (.inl rfl))))), hk _ _ h.b12 (.inr (.inr (.inr (.inr (.inr (.inl rfl)))))), ?_, ?_, hb, h.big⟩
  · exact ⟨D, seenMap_same hm ((hk _ o ho (.inr (.inr (.inl rfl)))).trans ho.symm), hs⟩
  · refine ⟨v, hk _ _ hv (.inr (.inr (.inr (.inr (.inr (.inr (.inl rfl))))))), hrow.1, ?_⟩
    rcases hrow.2 with h4 | ⟨g, cap, cur, h4, h5, h6, h7⟩
    · exact .inl h4
    · exact .inr ⟨g, cap, cur, h4, h5, hk g _ h6 (.inr (.inr (.inr (.inr (.inr (.inr (.inr ⟨c.sides.length, cap, by rw [hv.cell, h4]⟩))))))), h7⟩
theorem ChkW.below' (h : ChkW w s B c W) (hb : Below W.heap.size W W') : ChkW w s B c W' :=
  h.keep (fun k o hk _ => (hb.block k (Array.getElem?_eq_some_iff.1 hk).1).trans hk) (h.below.trans (hb.mono h.below.size))
theorem ChkW.mv (h : ChkW w s B c W) (hm : Mv w.heap.size (ChkE w.heap.size B) W W') : ChkW w s B c W' :=
  h.keep (fun k o hk hc => hm.keep k o hk (.inr (.inl hc))) (h.below.trans (hm.to_below (Nat.le_refl _) h.below.size))
theorem chkE_cell {b : Nat} {X Y : World} (h : Y.cell? ⟨B + 4, 0, none⟩ = X.cell? ⟨B + 4, 0, none⟩) (k : Nat) (hk : ChkE b B Y k) : ChkE b B X k := by
  rcases hk with h1 | h1 | h1 | h1 | h1 | h1 | h1
  · exact .inl h1
  · exact .inr (.inl h1)
  · exact .inr (.inr (.inl h1))
  · exact .inr (.inr (.inr (.inl h1)))
  · exact .inr (.inr (.inr (.inr (.inl h1))))
  · exact .inr (.inr (.inr (.inr (.inr (.inl h1)))))
  · exact .inr (.inr (.inr (.inr (.inr (.inr (outB_cell h k h1))))))
theorem chkE_req {N n0 b : Nat} (hB : B + 4 < n0) : EReq N n0 (ChkE b B) := ⟨fun X Y hX hm k hk => by
  obtain ⟨o, ho⟩ : ∃ o, X.heap[B + 4]? = some o := ⟨_, Array.getElem?_eq_getElem (by omega)⟩
  exact chkE_cell (World.cell?_of_block (a := ⟨B + 4, 0, none⟩) ((hm.keep _ o ho (.inr (.inl (.inr (.inr (.inr (.inr (.inr (.inr (.inl rfl))))))))) ).trans ho.symm)) k hk⟩
theorem chk_own {β : Type} (w : World) (s B n : Nat) (f : β → Option Cst) (hn : B + 7 ≤ n) (hw : w.heap.size + 2 ≤ B) : OwnFrom n (fun a W => ∃ c, f a = some c ∧ ChkW w s B c W) := fun a X Y row hs hg hr => by
  obtain ⟨c, hc, h⟩ := hs
  have hnot : ∀ (k : Nat) (o : Obj), X.heap[k]? = some o → ChkE w.heap.size B X k → some k ≠ row := fun k o hk hE e => by
    obtain ⟨h1, o', h2, h3⟩ := hr k e.symm
    rcases hE with h4 | h4 | h4 | h4 | h4 | h4 | h4 | ⟨m, cc, h4⟩
    all_goals try (omega)
    obtain ⟨v, hv, hrow⟩ := h.sides
    rw [hv.cell] at h4
    simp only [Option.some.injEq] at h4
    rcases hrow.2 with h5 | ⟨g, cap, cur, h5, h6, h7, _⟩
    · rw [h5.1] at h4; cases h4
    · rw [h5] at h4
      cases h4
      rw [h7] at h2
      cases h2
      cases h3
  refine ⟨c, hc, h.keep (fun k o hk hE => (hg.block k (Array.getElem?_eq_some_iff.1 hk).1 (hnot k o hk hE)).trans hk) ?_⟩
  exact ownFrom_below (β := β) (Nat.le_refl _) (show w.heap.size ≤ n by omega) a X Y row h.below hg hr
theorem km_turn {E : World → Nat → Prop} {k : Nat} (hg : W.grownBy W' (some k)) (hk : E W k) (hE : ∀ j, E W' j → E W j) : KM E W W' :=
  ⟨⟨hg.size, fun i o hi _ hn => (hg.block i (Array.getElem?_eq_some_iff.1 hi).1 (fun e => hn (by cases e; exact hk))).trans hi⟩, fun j hj => .inl (hE j hj)⟩
theorem km_below {E : World → Nat → Prop} (hb : Below W.heap.size W W') (hE : ∀ j, E W' j → E W j) : KM E W W' := ⟨KB.below hb, fun j hj => .inl (hE j hj)⟩
theorem ChkW.km_below (h : ChkW w s B c W) (hb : Below W.heap.size W W') : KM (ChkE w.heap.size B) W W' :=
  Go.Proofs.YtijpmjaeanocpaaGreatDoor.km_below hb (fun j hj => chkE_cell (hb.cell (p := ⟨B + 4, 0, none⟩) (by obtain ⟨v, hv, _⟩ := h.sides; exact hv.lt)) j hj)
theorem ChkW.not_nd (h : ChkW w s B c W) {nb : Nat} {nd : Nd} (hn : NdBox W nb nd) : ¬ ChkE w.heap.size B W nb := by
  have hbox : ∀ (b : Nat) (t : TypeId) (v : Value), t ≠ 118 → Boxed W b t v → nb ≠ b := by
    rintro b t v ht hb rfl
    have h9 := (show W.heap[nb]? = _ from hb).symm.trans (show W.heap[nb]? = _ from hn)
    simp at h9
  obtain ⟨D, hm, _⟩ := h.seen
  obtain ⟨v, hv, hrow⟩ := h.sides
  rintro (h1 | h1 | h1 | h1 | h1 | h1 | h1 | ⟨m, cc, h1⟩)
  · exact hbox _ _ _ (by decide) h.b2 h1
  · exact hbox _ _ _ (by decide) h.b4 h1
  · obtain ⟨o, ho, hc, _⟩ := seenMap_obj hm
    rw [← h1, show W.heap[nb]? = _ from hn] at ho
    cases ho
    cases hc
  · exact hbox _ _ _ (by decide) h.b9 h1
  · exact hbox _ _ _ (by decide) h.b11 h1
  · exact hbox _ _ _ (by decide) h.b12 h1
  · exact hbox _ _ _ (by decide) hv h1
  · rw [hv.cell] at h1
    simp only [Option.some.injEq] at h1
    rcases hrow.2 with h5 | ⟨g, cap, cur, h5, h6, h7, _⟩
    · rw [h5.1] at h1; cases h1
    · rw [h5] at h1
      cases h1
      have h9 := h7.symm.trans (show W.heap[nb]? = _ from hn)
      simp at h9
theorem chk_bad (h : ChkW w s B c W) {m : Nat} {V : World} (hk : KeepsFrom m V W) :
    KeepsFrom m V (W.setCell ⟨w.heap.size + 1, 0, none⟩ (.int .i64 8)) ∧ Boxed (W.setCell ⟨w.heap.size + 1, 0, none⟩ (.int .i64 8)) (w.heap.size + 1) 24 (.int .i64 8) ∧ Below w.heap.size w (W.setCell ⟨w.heap.size + 1, 0, none⟩ (.int .i64 8)) :=
  ⟨hk.trans ((KeepsOthers.setCell W _ _).from m), h.b4.set _, h.below.setCell (p := ⟨w.heap.size + 1, 0, none⟩) (by simp) _⟩
theorem three_index (a b d : Nat) (k : Nat) (hk : k < 3) (W : World) : (Instr.index 319 (.agg #[.int .u64 (a : Nat), .int .u64 (b : Nat), .int .u64 (d : Nat)]) (.int .i64 (k : Nat))).run Tryz.prog W = .ok (.int .u64 (([a, b, d][k]?).getD 0 : Nat)) W := by
  match k, hk with
  | 0, _ => simp [Instr.index, run_underlying Tryz.underlying319, asIntOf, go_sem]
  | 1, _ => simp [Instr.index, run_underlying Tryz.underlying319, asIntOf, go_sem]
  | 2, _ => simp [Instr.index, run_underlying Tryz.underlying319, asIntOf, go_sem]
  | k + 3, h => omega
theorem three_lt {a b d : Nat} (ha : a < 18446744073709551616) (hb : b < 18446744073709551616) (hd : d < 18446744073709551616) (k : Nat) : ([a, b, d][k]?).getD 0 < 18446744073709551616 := by
  rcases k with _ | _ | _ | k <;> simp [*]
theorem _root_.Go.KeepsFrom.mono {A B : Nat} {X Y : World} (h : KeepsFrom A X Y) (hAB : A ≤ B) : KeepsFrom B X Y := ⟨h.size, fun k o hk => h.same k o (Nat.le_trans hAB hk)⟩
theorem chk3_snoc : ∀ (l S : List Nat) (x : Nat), chk3 S (l ++ [x]) = (chk3 S l).bind fun S' => if x ∈ S' then none else some (S' ++ [x])
  | [], S, x => by simp [chk3]
  | a :: t, S, x => by
    rw [List.cons_append, chk3, chk3]
    by_cases h : a ∈ S
    · rw [if_pos h, if_pos h]; rfl
    · rw [if_neg h, if_neg h]; exact chk3_snoc t _ x
theorem chk3_none : ∀ (l t S : List Nat), chk3 S l = none → chk3 S (l ++ t) = none
  | [], t, S, h => by cases h
  | a :: l, t, S, h => by
    rw [List.cons_append, chk3]
    rw [chk3] at h
    by_cases ha : a ∈ S
    · rw [if_pos ha]
    · rw [if_neg ha] at h ⊢; exact chk3_none l t _ h
theorem ChkW.seeTurn (h : ChkW w s B c W) (hg : W.grownBy W' (some (B + 1))) : KM (ChkE w.heap.size B) W W' ∧ KeepsFrom (B + 7) W W' ∧ Below w.heap.size w W' ∧ W'.heap[B + 4]? = W.heap[B + 4]? ∧ Boxed W' (w.heap.size + 1) 24 (.int .i64 0) := by
  have hbg := h.big
  obtain ⟨v, hv, hrow⟩ := h.sides
  have h4 : W'.heap[B + 4]? = W.heap[B + 4]? := hg.block _ hv.lt (fun e => by simp only [Option.some.injEq] at e; omega)
  refine ⟨km_turn hg (.inr (.inr (.inl rfl))) (fun j hj => chkE_cell (World.cell?_of_block (a := ⟨B + 4, 0, none⟩) h4) j hj), KeepsFrom.of_grownBy hg (fun j e => by cases e; omega), ?_, h4, h.b4.kept hg (fun e => by simp only [Option.some.injEq] at e; omega)⟩
  exact h.below.trans ⟨hg.os, hg.tape, hg.output, hg.size, fun k hk => hg.block k (Nat.lt_of_lt_of_le hk h.below.size) (fun e => by simp only [Option.some.injEq] at e; omega)⟩
theorem ChkW.see (h : ChkW w s B c W) (hg : W.grownBy W' (some (B + 1))) {D : DW} {x : Nat} (hs : SeenIs D c.S) (hx : x ∉ c.S) (hm : SeenMap W' (B + 1) (c.S.length + 1) (D.put (.int .u64 (x : Nat)) (.lit (.int .i64 1)))) :
    ChkW w s B { c with S := c.S ++ [x] } W' := by
  obtain ⟨_, _, hb, h4, h1⟩ := h.seeTurn hg
  have hbg := h.big
  obtain ⟨v, hv, hrow⟩ := h.sides
  refine ⟨h.b2.kept hg (fun e => by simp only [Option.some.injEq] at e; omega), h1, h.b9.kept hg (fun e => by simp only [Option.some.injEq] at e; omega), h.b11.kept hg (fun e => by simp only [Option.some.injEq] at e; omega), h.b12.kept hg (fun e => by simp only [Option.some.injEq] at e; omega), ⟨_, ?_, hs.put hx⟩, ⟨v, h4.trans hv, hrow.1, ?_⟩, hb, hbg⟩
  · simpa using hm
  · rcases hrow.2 with h5 | ⟨g, cap, cur, h5, h6, h7, h8⟩
    · exact .inl h5
    · exact .inr ⟨g, cap, cur, h5, h6, (hg.block g (Array.getElem?_eq_some_iff.1 h7).1 (fun e => by simp only [Option.some.injEq] at e; omega)).trans h7, h8⟩
theorem chk_start {w w1 : World} {s x : Nat} (nx : Nd) (hb : Below w.heap.size w w1) (h2 : Boxed w1 w.heap.size 23 (.pointer (some ⟨s, 0, none⟩))) (h4 : Boxed w1 (w.heap.size + 1) 24 (.int .i64 0)) :
    ChkW w s w1.heap.size ⟨[], ⟨#[]⟩, true, [x]⟩ (((((((w1.alloc (Obj.cells #[Value.int IntKind.u64 (nx.key : Nat), Value.int IntKind.u64 (nx.val : Nat), Value.int IntKind.u64 (nx.left : Nat), Value.int IntKind.u64 (nx.right : Nat), Value.int IntKind.u64 (nx.mark : Nat), Value.int IntKind.u64 (nx.size : Nat)] 118)).alloc (Obj.map #[] 0)).alloc (Obj.cells #[Value.int IntKind.u64 (x : Nat)] 30)).alloc (Obj.cells #[Value.map (some (w1.heap.size + 1))] 317)).alloc (Obj.cells #[Value.slice (some { block := w1.heap.size + 1 + 1, off := 0 }) 1 1] 47)).alloc (Obj.cells #[Value.string ⟨#[]⟩] 9)).alloc (Obj.cells #[Value.bool true] 4)) ∧
    Boxed (((((((w1.alloc (Obj.cells #[Value.int IntKind.u64 (nx.key : Nat), Value.int IntKind.u64 (nx.val : Nat), Value.int IntKind.u64 (nx.left : Nat), Value.int IntKind.u64 (nx.right : Nat), Value.int IntKind.u64 (nx.mark : Nat), Value.int IntKind.u64 (nx.size : Nat)] 118)).alloc (Obj.map #[] 0)).alloc (Obj.cells #[Value.int IntKind.u64 (x : Nat)] 30)).alloc (Obj.cells #[Value.map (some (w1.heap.size + 1))] 317)).alloc (Obj.cells #[Value.slice (some { block := w1.heap.size + 1 + 1, off := 0 }) 1 1] 47)).alloc (Obj.cells #[Value.string ⟨#[]⟩] 9)).alloc (Obj.cells #[Value.bool true] 4)) (w1.heap.size + 4) 47 (Value.slice (some { block := w1.heap.size + 1 + 1, off := 0 }) 1 1) := by
  have hl4 := h4.lt
  obtain ⟨B, hB⟩ : ∃ B, B = w1.heap.size := ⟨_, rfl⟩
  rw [← hB]
  have g2 := h2.alloc (Obj.cells #[Value.int IntKind.u64 (nx.key : Nat), Value.int IntKind.u64 (nx.val : Nat), Value.int IntKind.u64 (nx.left : Nat), Value.int IntKind.u64 (nx.right : Nat), Value.int IntKind.u64 (nx.mark : Nat), Value.int IntKind.u64 (nx.size : Nat)] 118)
  have g4 := h4.alloc (Obj.cells #[Value.int IntKind.u64 (nx.key : Nat), Value.int IntKind.u64 (nx.val : Nat), Value.int IntKind.u64 (nx.left : Nat), Value.int IntKind.u64 (nx.right : Nat), Value.int IntKind.u64 (nx.mark : Nat), Value.int IntKind.u64 (nx.size : Nat)] 118)
  have gb := hb.alloc hb.size (Obj.cells #[Value.int IntKind.u64 (nx.key : Nat), Value.int IntKind.u64 (nx.val : Nat), Value.int IntKind.u64 (nx.left : Nat), Value.int IntKind.u64 (nx.right : Nat), Value.int IntKind.u64 (nx.mark : Nat), Value.int IntKind.u64 (nx.size : Nat)] 118)
  obtain ⟨A1, hA1⟩ : ∃ A, A = w1.alloc (Obj.cells #[Value.int IntKind.u64 (nx.key : Nat), Value.int IntKind.u64 (nx.val : Nat), Value.int IntKind.u64 (nx.left : Nat), Value.int IntKind.u64 (nx.right : Nat), Value.int IntKind.u64 (nx.mark : Nat), Value.int IntKind.u64 (nx.size : Nat)] 118) := ⟨_, rfl⟩
  have z1 : A1.heap.size = B + 1 := by rw [hA1, hB]; simp
  rw [← hA1] at g2 g4 gb ⊢
  clear hA1 h2 h4 hb
  have m1 : SeenMap (A1.alloc (Obj.map #[] 0)) (B + 1) 0 (.map []) := by rw [← z1]; exact World.ownsMap_made A1 _ _ _
  have g2 := g2.alloc (Obj.map #[] 0)
  have g4 := g4.alloc (Obj.map #[] 0)
  have gb := gb.alloc (by omega) (Obj.map #[] 0)
  obtain ⟨A2, hA2⟩ : ∃ A, A = A1.alloc (Obj.map #[] 0) := ⟨_, rfl⟩
  have z2 : A2.heap.size = B + 2 := by rw [hA2]; simp [z1]
  rw [← hA2] at g2 g4 gb m1 ⊢
  clear hA2
  have r3 : (A2.alloc (Obj.cells #[Value.int IntKind.u64 (x : Nat)] 30)).heap[B + 2]? = some (.cells #[Value.int IntKind.u64 (x : Nat)] 30 (0, 0)) := by rw [← z2]; exact World.alloc_heap_new A2 _
  have m1 := m1.alloc (Obj.cells #[Value.int IntKind.u64 (x : Nat)] 30)
  have g2 := g2.alloc (Obj.cells #[Value.int IntKind.u64 (x : Nat)] 30)
  have g4 := g4.alloc (Obj.cells #[Value.int IntKind.u64 (x : Nat)] 30)
  have gb := gb.alloc (by omega) (Obj.cells #[Value.int IntKind.u64 (x : Nat)] 30)
  obtain ⟨A3, hA3⟩ : ∃ A, A = A2.alloc (Obj.cells #[Value.int IntKind.u64 (x : Nat)] 30) := ⟨_, rfl⟩
  have z3 : A3.heap.size = B + 3 := by rw [hA3]; simp [z2]
  rw [← hA3] at g2 g4 gb m1 r3 ⊢
  clear hA3
  have row : A3.ownsRow (B + 2) 30 1 (Value.slice (some { block := B + 1 + 1, off := 0 }) 1 1) 1 (hsV [x]) := ⟨rfl, .inr ⟨B + 2, 1, _, rfl, Nat.le_refl _, r3, Nat.le_refl _, by unfold maxLen; omega, rfl, rfl⟩⟩
  have t9 : Boxed (A3.alloc (Obj.cells #[Value.map (some (B + 1))] 317)) (B + 3) 317 (.map (some (B + 1))) := by rw [← z3]; exact Boxed.new A3 _ _
  have row := ownsRow_kb (Cs := fun _ => False) row (KB.below ((Below.refl _ A3).alloc (Nat.le_refl _) (Obj.cells #[Value.map (some (B + 1))] 317))) (fun _ h => h.elim)
  have m1 := m1.alloc (Obj.cells #[Value.map (some (B + 1))] 317)
  have g2 := g2.alloc (Obj.cells #[Value.map (some (B + 1))] 317)
  have g4 := g4.alloc (Obj.cells #[Value.map (some (B + 1))] 317)
  have gb := gb.alloc (by omega) (Obj.cells #[Value.map (some (B + 1))] 317)
  obtain ⟨A4, hA4⟩ : ∃ A, A = A3.alloc (Obj.cells #[Value.map (some (B + 1))] 317) := ⟨_, rfl⟩
  have z4 : A4.heap.size = B + 4 := by rw [hA4]; simp [z3]
  rw [← hA4] at g2 g4 gb m1 row t9 ⊢
  clear hA4 r3
  have t10 : Boxed (A4.alloc (Obj.cells #[Value.slice (some { block := B + 1 + 1, off := 0 }) 1 1] 47)) (B + 4) 47 (Value.slice (some { block := B + 1 + 1, off := 0 }) 1 1) := by rw [← z4]; exact Boxed.new A4 _ _
  have row := ownsRow_kb (Cs := fun _ => False) row (KB.below ((Below.refl _ A4).alloc (Nat.le_refl _) (Obj.cells #[Value.slice (some { block := B + 1 + 1, off := 0 }) 1 1] 47))) (fun _ h => h.elim)
  have m1 := m1.alloc (Obj.cells #[Value.slice (some { block := B + 1 + 1, off := 0 }) 1 1] 47)
  have g2 := g2.alloc (Obj.cells #[Value.slice (some { block := B + 1 + 1, off := 0 }) 1 1] 47)
  have g4 := g4.alloc (Obj.cells #[Value.slice (some { block := B + 1 + 1, off := 0 }) 1 1] 47)
  have t9 := t9.alloc (Obj.cells #[Value.slice (some { block := B + 1 + 1, off := 0 }) 1 1] 47)
  have gb := gb.alloc (by omega) (Obj.cells #[Value.slice (some { block := B + 1 + 1, off := 0 }) 1 1] 47)
  obtain ⟨A5, hA5⟩ : ∃ A, A = A4.alloc (Obj.cells #[Value.slice (some { block := B + 1 + 1, off := 0 }) 1 1] 47) := ⟨_, rfl⟩
  have z5 : A5.heap.size = B + 5 := by rw [hA5]; simp [z4]
  rw [← hA5] at g2 g4 gb m1 row t9 t10 ⊢
  clear hA5
  have t11 : Boxed (A5.alloc (Obj.cells #[Value.string ⟨#[]⟩] 9)) (B + 5) 9 (.string ⟨#[]⟩) := by rw [← z5]; exact Boxed.new A5 _ _
  have row := ownsRow_kb (Cs := fun _ => False) row (KB.below ((Below.refl _ A5).alloc (Nat.le_refl _) (Obj.cells #[Value.string ⟨#[]⟩] 9))) (fun _ h => h.elim)
  have m1 := m1.alloc (Obj.cells #[Value.string ⟨#[]⟩] 9)
  have g2 := g2.alloc (Obj.cells #[Value.string ⟨#[]⟩] 9)
  have g4 := g4.alloc (Obj.cells #[Value.string ⟨#[]⟩] 9)
  have t9 := t9.alloc (Obj.cells #[Value.string ⟨#[]⟩] 9)
  have t10 := t10.alloc (Obj.cells #[Value.string ⟨#[]⟩] 9)
  have gb := gb.alloc (by omega) (Obj.cells #[Value.string ⟨#[]⟩] 9)
  obtain ⟨A6, hA6⟩ : ∃ A, A = A5.alloc (Obj.cells #[Value.string ⟨#[]⟩] 9) := ⟨_, rfl⟩
  have z6 : A6.heap.size = B + 6 := by rw [hA6]; simp [z5]
  rw [← hA6] at g2 g4 gb m1 row t9 t10 t11 ⊢
  clear hA6
  have t12 : Boxed (A6.alloc (Obj.cells #[Value.bool true] 4)) (B + 6) 4 (.bool true) := by rw [← z6]; exact Boxed.new A6 _ _
  have row := ownsRow_kb (Cs := fun _ => False) row (KB.below ((Below.refl _ A6).alloc (Nat.le_refl _) (Obj.cells #[Value.bool true] 4))) (fun _ h => h.elim)
  exact ⟨⟨g2.alloc _, g4.alloc _, t9.alloc _, t11.alloc _, t12, ⟨_, m1.alloc _, SeenIs.empty⟩, ⟨_, t10.alloc _, row⟩, gb.alloc (by omega) _, by omega⟩, t10.alloc _⟩
end
end Go.Proofs.YtijpmjaeanocpaaGreatDoor

set_option linter.unusedVariables false
set_option linter.unusedSimpArgs false
namespace Go.Proofs.YtijpmjaeanocpaaGreatDoor
open Go.RowKit Go.Shelf
theorem pairE_lt (R : Nat → Option (List Nat)) (x : Nat) : pairE R x < 10 := by
  unfold pairE
  have h1 := nodeE_lt R x
  have h2 := blobE_lt R (nodeG R x).key
  have h3 := blobE_lt R (nodeG R x).val
  split
  · exact h1
  · split
    · exact h2
    · exact h3
theorem dive_lt {R : Nat → Option (List Nat)} (hN : ∀ x, (nodeG R x).Ok) : ∀ (f : Nat) (st : List Nat) (root : Nat) (st' : List Nat) (f' r' : Nat), (∀ y ∈ st, y < 18446744073709551616) → root < 18446744073709551616 →
    dive R f st root = some (st', f', r') → ∀ y ∈ st', y < 18446744073709551616
  | 0, st, root, st', f', r', hst, hr, h => by
    unfold dive at h
    simp only [Option.some.injEq, Prod.mk.injEq] at h
    obtain ⟨rfl, _, _⟩ := h
    exact hst
  | f + 1, st, root, st', f', r', hst, hr, h => by
    unfold dive at h
    by_cases h0 : root = 0
    · rw [if_pos h0] at h
      simp only [Option.some.injEq, Prod.mk.injEq] at h
      obtain ⟨rfl, _, _⟩ := h
      exact hst
    · rw [if_neg h0] at h
      by_cases h1 : nodeE R root ≠ 0
      · rw [if_pos h1] at h; cases h
      · rw [if_neg h1] at h
        refine dive_lt hN f _ _ _ _ _ (fun y hy => ?_) (hN root).left h
        rcases List.mem_cons.1 hy with rfl | hy
        · exact hr
        · exact hst y hy
theorem goO_lt {R : Nat → Option (List Nat)} (hN : ∀ x, (nodeG R x).Ok) : ∀ (g f : Nat) (st : List Nat) (root : Nat), (∀ y ∈ st, y < 18446744073709551616) → root < 18446744073709551616 → ∀ y ∈ goO R g f st root, y < 18446744073709551616
  | 0, f, st, root, hst, hr, y, hy => by unfold goO at hy; simp at hy
  | g + 1, f, st, root, hst, hr, y, hy => by
    unfold goO at hy
    by_cases h0 : f = 0
    · rw [if_pos h0] at hy; exact hst y hy
    · rw [if_neg h0] at hy
      cases hd : dive R f st root with
      | none => rw [hd] at hy; simp at hy
      | some p =>
        obtain ⟨st', f', r'⟩ := p
        rw [hd] at hy
        have hs := dive_lt hN f st root st' f' r' hst hr hd
        cases st' with
        | nil => simp at hy
        | cons x t =>
          simp only [List.mem_cons] at hy
          rcases hy with rfl | hy
          · exact hs _ (by simp)
          · exact goO_lt hN g f' t (nodeG R x).right (fun z hz => hs z (by simp [hz])) (hN x).right y hy
theorem inR_lt {R : Nat → Option (List Nat)} (hN : ∀ x, (nodeG R x).Ok) {n root : Nat} (hr : root < 18446744073709551616) : ∀ y ∈ inR R n root, y < 18446744073709551616 :=
  goO_lt hN _ _ _ _ (by simp) hr
theorem step_len {R : Nat → Option (List Nat)} {c c' : Cst} {h : Nat} (hs : c.step R h = some c') : c'.S.length = c.S.length + 3 ∧ c'.sides.length = c.sides.length + 2 := by
  unfold Cst.step at hs
  by_cases hb : c.bad R h = true
  · rw [if_pos hb] at hs; cases hs
  · rw [if_neg hb] at hs
    cases h3 : chk3 c.S [h, (nodeG R h).key, (nodeG R h).val] with
    | none => rw [h3] at hs; cases hs
    | some S' =>
      rw [h3] at hs
      simp only [Option.map_some, Option.some.injEq] at hs
      subst hs
      have := chk3_len _ _ _ h3
      simp at this ⊢
      omega
theorem chkL_len {R : Nat → Option (List Nat)} {root : Nat} {l : List Nat} {c : Cst} (h : chkL R root l = some c) : c.S.length = 3 * l.length ∧ c.sides.length = 2 * l.length + 1 := by
  obtain ⟨m, hm⟩ : ∃ m, l.length = m := ⟨_, rfl⟩
  induction m generalizing l c with
  | zero =>
    have : l = [] := List.eq_nil_of_length_eq_zero hm
    subst this
    unfold chkL at h
    simp only [List.foldl_nil, Option.some.injEq] at h
    subst h
    simp
  | succ m ih =>
    obtain ⟨l', x, rfl⟩ : ∃ l' x, l = l' ++ [x] := ⟨l.dropLast, l.getLast (by intro e; subst e; simp at hm), (List.dropLast_concat_getLast _).symm⟩
    rw [chkL_snoc] at h
    cases hc : chkL R root l' with
    | none => rw [hc] at h; cases h
    | some c' =>
      rw [hc] at h
      have h1 := ih hc (by simpa using hm)
      have h2 := step_len (show c'.step R x = some c from h)
      simp only [List.length_append, List.length_cons, List.length_nil]
      omega
theorem chkL_sides {R : Nat → Option (List Nat)} (hN : ∀ x, (nodeG R x).Ok) {root : Nat} (hr : root < 18446744073709551616) {l : List Nat} {c : Cst} (h : chkL R root l = some c) : ∀ y ∈ c.sides, y < 18446744073709551616 := by
  obtain ⟨m, hm⟩ : ∃ m, l.length = m := ⟨_, rfl⟩
  induction m generalizing l c with
  | zero =>
    have : l = [] := List.eq_nil_of_length_eq_zero hm
    subst this
    unfold chkL at h
    simp only [List.foldl_nil, Option.some.injEq] at h
    subst h
    simpa using hr
  | succ m ih =>
    obtain ⟨l', x, rfl⟩ : ∃ l' x, l = l' ++ [x] := ⟨l.dropLast, l.getLast (by intro e; subst e; simp at hm), (List.dropLast_concat_getLast _).symm⟩
    rw [chkL_snoc] at h
    cases hc : chkL R root l' with
    | none => rw [hc] at h; cases h
    | some c' =>
      rw [hc] at h
      have h1 := ih hc (by simpa using hm)
      have hs : c'.step R x = some c := h
      unfold Cst.step at hs
      by_cases hb : c'.bad R x = true
      · rw [if_pos hb] at hs; cases hs
      · rw [if_neg hb] at hs
        cases h3 : chk3 c'.S [x, (nodeG R x).key, (nodeG R x).val] with
        | none => rw [h3] at hs; cases hs
        | some S' =>
          rw [h3] at hs
          simp only [Option.map_some, Option.some.injEq] at hs
          subst hs
          intro y hy
          simp only [List.mem_append, List.mem_cons, List.not_mem_nil, or_false] at hy
          rcases hy with hy | rfl | rfl
          · exact h1 y hy
          · exact (hN x).left
          · exact (hN x).right
end Go.Proofs.YtijpmjaeanocpaaGreatDoor

set_option linter.unusedVariables false
set_option linter.unusedSimpArgs false
namespace Go.Proofs.YtijpmjaeanocpaaGreatDoor
open Go.RowKit Go.Shelf
theorem wrap_three (n : Nat) : IntKind.u64.wrap (3 * (n : Int)) = (((3 * n) % 18446744073709551616 : Nat) : Int) := by
  unfold IntKind.wrap
  simp [IntKind.signed, IntKind.bits]
theorem row_pos {W : World} {base : Nat} {e : TypeId} {v : Value} {k : Nat} {xs : List Value} (h : W.ownsRow base e 1 v k xs) (hk : 0 < k) : ∃ g cap, v = .slice (some ⟨g, 0, none⟩) k cap := by
  rcases h.2 with ⟨_, h0⟩ | ⟨g, cap, _, rfl, _⟩
  · omega
  · exact ⟨g, cap, rfl⟩
theorem two_new (W : World) (t : TypeId) (a b : Value) (j : Nat) (u : Value) (h : [a, b][j]? = some u) : (W.alloc (.cells #[a, b] t)).cell? ((⟨W.heap.size, 0, none⟩ : Addr).add j) = some u := by
  have hn : (W.alloc (.cells #[a, b] t)).heap[W.heap.size]? = some (.cells #[a, b] t (0, 0)) := World.alloc_heap_new W _
  generalize W.alloc (.cells #[a, b] t) = V at *
  rcases j with _ | _ | j
  · simp at h; subst h; simp [World.cell?, Addr.add, hn]
  · simp at h; subst h; simp [World.cell?, Addr.add, hn]
  · simp at h
section
variable {w W W' : World} {s B : Nat} {c : Cst}
theorem ChkW.setLast (h : ChkW w s B c W) (k : ByteArray) :
    ChkW w s B { c with last := k, first := false } ((W.setCell ⟨B + 5, 0, none⟩ (.string k)).setCell ⟨B + 6, 0, none⟩ (.bool false)) ∧ KM (ChkE w.heap.size B) W ((W.setCell ⟨B + 5, 0, none⟩ (.string k)).setCell ⟨B + 6, 0, none⟩ (.bool false)) := by
  have hbg := h.big
  obtain ⟨D, hm, hs⟩ := h.seen
  obtain ⟨v, hv, hrow⟩ := h.sides
  obtain ⟨om, hom, hoc, _⟩ := seenMap_obj hm
  have hkeep : ∀ j, j ≠ B + 5 → j ≠ B + 6 → ((W.setCell ⟨B + 5, 0, none⟩ (.string k)).setCell ⟨B + 6, 0, none⟩ (.bool false)).heap[j]? = W.heap[j]? := fun j h1 h2 =>
    (Below.heap_setCell _ _ _ j h2).trans (Below.heap_setCell _ _ _ j h1)
  have hsz : ((W.setCell ⟨B + 5, 0, none⟩ (.string k)).setCell ⟨B + 6, 0, none⟩ (.bool false)).heap.size = W.heap.size := by simp
  have h11 : Boxed ((W.setCell ⟨B + 5, 0, none⟩ (.string k)).setCell ⟨B + 6, 0, none⟩ (.bool false)) (B + 5) 9 (.string k) := (Below.heap_setCell _ _ _ _ (by simp)).trans (h.b11.set (.string k))
  have h12 : Boxed ((W.setCell ⟨B + 5, 0, none⟩ (.string k)).setCell ⟨B + 6, 0, none⟩ (.bool false)) (B + 6) 4 (.bool false) := Boxed.set (.bool false) (show Boxed (W.setCell ⟨B + 5, 0, none⟩ (.string k)) (B + 6) 4 (.bool c.first) from (Below.heap_setCell _ _ _ _ (by simp)).trans h.b12)
  refine ⟨⟨(hkeep _ (by omega) (by omega)).trans h.b2, (hkeep _ (by omega) (by omega)).trans h.b4, (hkeep _ (by omega) (by omega)).trans h.b9, h11, h12, ⟨D, seenMap_same hm (hkeep _ (by omega) (by omega)), hs⟩, ⟨v, (hkeep _ (by omega) (by omega)).trans hv, hrow.1, ?_⟩, ?_, hbg⟩, ?_⟩
  · rcases hrow.2 with h5 | ⟨g, cap, cur, h5, h6, h7, h8⟩
    · exact .inl h5
    · have hne : ∀ (j : Nat) (t : TypeId) (u : Value), t ≠ 30 → Boxed W j t u → g ≠ j := by
        rintro j t u ht hb rfl
        have h9 := (show W.heap[g]? = _ from hb).symm.trans h7
        simp only [Option.some.injEq, Obj.cells.injEq] at h9
        exact ht h9.2.1
      exact .inr ⟨g, cap, cur, h5, h6, (hkeep g (hne _ _ _ (by decide) h.b11) (hne _ _ _ (by decide) h.b12)).trans h7, h8⟩
  · exact (h.below.setCell (p := ⟨B + 5, 0, none⟩) (by simp; omega) _).setCell (p := ⟨B + 6, 0, none⟩) (by simp; omega) _
  · refine ⟨⟨Nat.le_of_eq hsz.symm, fun j o hj _ hn => (hkeep j (fun e => hn (.inr (.inr (.inr (.inr (.inl e)))))) (fun e => hn (.inr (.inr (.inr (.inr (.inr (.inl e)))))))).trans hj⟩, fun j hj => .inl (chkE_cell (World.cell?_of_block (a := ⟨B + 4, 0, none⟩) (hkeep (B + 4) (by omega) (by omega))) j hj)⟩
theorem ChkW.sidesPut (h : ChkW w s B c W) {v v' : Value} {tmp : Obj} {w1 : World} {l r : Nat} (hv : Boxed W (B + 4) 47 v) (hrow : W.ownsRow (B + 2) 30 1 v c.sides.length (hsV c.sides))
    (hown' : w1.ownsRow (B + 2) 30 1 v' (c.sides.length + 2) (hsV c.sides ++ [.int .u64 (l : Nat), .int .u64 (r : Nat)])) (hgrow : (W.alloc tmp).grownBy w1 v.ownBlock) (hblk : v'.ownBlock = v.ownBlock ∨ v'.ownBlock = some (W.alloc tmp).heap.size) :
    Boxed w1 (B + 4) 47 v ∧ ChkW w s B { c with sides := c.sides ++ [l, r] } (w1.setCell ⟨B + 4, 0, none⟩ v') ∧ KM (ChkE w.heap.size B) W (w1.setCell ⟨B + 4, 0, none⟩ v') ∧ KeepsOthers W (w1.setCell ⟨B + 4, 0, none⟩ v') := by
  have hbg := h.big
  have hB2 : B + 2 ≤ W.heap.size := by have := hv.lt; omega
  obtain ⟨a1, a2, a3, a4, a5⟩ := hv.appended (by decide) hrow hB2 (by omega) hown' hgrow
  obtain ⟨D, hm, hs⟩ := h.seen
  obtain ⟨om, hom, hoc, _⟩ := seenMap_obj hm
  have hkeep : ∀ j, j < W.heap.size → j ≠ B + 4 → some j ≠ v.ownBlock → (w1.setCell ⟨B + 4, 0, none⟩ v').heap[j]? = W.heap[j]? := fun j h1 h2 h3 =>
    (Below.heap_setCell _ _ _ j h2).trans ((hgrow.block j (by simp; omega) h3).trans (Below.heap_alloc W tmp j h1))
  have hne : ∀ (j : Nat) (t : TypeId) (u : Value), t ≠ 30 → Boxed W j t u → some j ≠ v.ownBlock := fun j t u ht hb => hb.not_row ht hrow
  have hmp : some (B + 1) ≠ v.ownBlock := fun e => by have := (own_lt hrow e.symm).1; omega
  refine ⟨a1, ⟨(hkeep _ h.b2.lt (by omega) (hne _ _ _ (by decide) h.b2)).trans h.b2, (hkeep _ h.b4.lt (by omega) (hne _ _ _ (by decide) h.b4)).trans h.b4, (hkeep _ h.b9.lt (by omega) (hne _ _ _ (by decide) h.b9)).trans h.b9,
    (hkeep _ h.b11.lt (by omega) (hne _ _ _ (by decide) h.b11)).trans h.b11, (hkeep _ h.b12.lt (by omega) (hne _ _ _ (by decide) h.b12)).trans h.b12,
    ⟨D, seenMap_same hm (hkeep _ (Array.getElem?_eq_some_iff.1 hom).1 (by omega) hmp), hs⟩, ⟨v', a2, ?_⟩, h.below.trans (a5.mono (by omega)), hbg⟩, ⟨⟨a4.size, fun j o hj _ hn => ?_⟩, fun j hj => ?_⟩, a4⟩
  · have e1 : (c.sides ++ [l, r]).length = c.sides.length + 2 := by simp
    have e2 : hsV (c.sides ++ [l, r]) = hsV c.sides ++ [.int .u64 (l : Nat), .int .u64 (r : Nat)] := by simp [hsV]
    simp only [e1, e2]
    exact a3
  · refine (hkeep j (Array.getElem?_eq_some_iff.1 hj).1 (fun e => hn (.inr (.inr (.inr (.inr (.inr (.inr (.inl e)))))))) (fun e => ?_)).trans hj
    refine hn (.inr (.inr (.inr (.inr (.inr (.inr (.inr ?_)))))))
    rcases hrow.2 with ⟨rfl, _⟩ | ⟨g, cap, cur, rfl, _, _, _⟩
    · simp [Value.ownBlock] at e
    · have : j = g := by simpa [Value.ownBlock] using e
      subst this
      exact ⟨_, _, hv.cell⟩
  · rcases hj with h1 | h1 | h1 | h1 | h1 | h1 | h1 | ⟨m, cc, hc⟩
    · exact .inl (.inl h1)
    · exact .inl (.inr (.inl h1))
    · exact .inl (.inr (.inr (.inl h1)))
    · exact .inl (.inr (.inr (.inr (.inl h1))))
    · exact .inl (.inr (.inr (.inr (.inr (.inl h1)))))
    · exact .inl (.inr (.inr (.inr (.inr (.inr (.inl h1))))))
    · exact .inl (.inr (.inr (.inr (.inr (.inr (.inr (.inl h1)))))))
    · rw [a2.cell] at hc
      simp only [Option.some.injEq] at hc
      subst hc
      have hob : (Value.slice (some ⟨j, 0, none⟩) m cc).ownBlock = some j := by simp [Value.ownBlock]
      have hkl := (own_lt a3 hob).2
      rw [hob] at hblk
      rcases hblk with h1 | h1
      · rcases hrow.2 with ⟨rfl, _⟩ | ⟨g, cap, cur, rfl, _, _, _⟩
        · simp [Value.ownBlock] at h1
        · have : j = g := by simpa [Value.ownBlock] using h1
          subst this
          exact .inl (.inr (.inr (.inr (.inr (.inr (.inr (.inr ⟨_, _, hv.cell⟩)))))))
      · have : j = (W.alloc tmp).heap.size := by simpa using h1
        exact .inr ⟨by rw [this]; simp, hkl⟩
end
end Go.Proofs.YtijpmjaeanocpaaGreatDoor
