/-
  The seat's own texts, part q: Check, Tree, Tree2, Free.
-/
import Derived.Test.YtijpmjaeanocpaaGreatDoorAMp

set_option linter.unusedVariables false
set_option linter.unusedSimpArgs false
namespace Go.Proofs.YtijpmjaeanocpaaGreatDoor
open Go.RowKit Go.Shelf
attribute [local go_sem] Oper.semAt_some wide_fn
section
variable {w w' : World} {s N : Nat} {R : Nat → Option (List Nat)} {n : Nat}
set_option maxHeartbeats 4000000 in
set_option maxRecDepth 100000 in
theorem check_at (h : Rd N w s R n) (hsh : Short R) (x : Nat) (hx : x < 18446744073709551616) :
    Calls Tryz.prog 211 #[.pointer (some ⟨s, 0, none⟩), .int .u64 (x : Nat)] w fun e w' => e = .returned (.int .i64 (checkR R n x : Nat)) ∧ Below w.heap.size w w' := by
  obtain ⟨i0, hi, hz0, hz1, hz2⟩ := info_parts Tryz.info_h
  refine (callsIn_wide (n := 9)).1 ?_
  have hIn := Lib.hid (fun w => (callsIn_wide (n := 8)).2 (in_calls s x w))
  have HH := Lib.hid h.here
  have hLl := inR_len R n x
  have hn := h.le
  obtain ⟨L, hL⟩ : ∃ L, L = inR R n x := ⟨_, rfl⟩
  obtain ⟨C, hC⟩ : ∃ C, C = checkR R n x := ⟨_, rfl⟩
  have hC2 := hC
  unfold checkR at hC2
  rw [← hL] at hLl hC2
  rw [← hC]
  have hLH := Lib.hid hL
  have hLl2 : L.length ≤ 40000 := by omega
  have hLen := Lib.hid (fun w' (hb : Below w.heap.size w w') => (callsIn_wide (n := 8)).2 (rlen_at (h.below hb) 0 (by decide)))
  obtain ⟨la, lb, hlr, hl1⟩ := lenR_form R 0
  rw [hlr] at hLen
  have dl : ((lb : Int) == 1) = false := by simp; omega
  obtain ⟨nx, hnx⟩ : ∃ nx, nodeG R x = nx := ⟨_, rfl⟩
  obtain ⟨zx, hzx⟩ : ∃ zx, nodeE R x = zx := ⟨_, rfl⟩
  have hzx1 : zx < 10 := hzx ▸ nodeE_lt R x
  have hGx := Lib.hid (fun w' (hb : Below w.heap.size w w') => (callsIn_wide (n := 8)).2 (nget_lit (h.below hb) x hx nx hnx zx hzx))
  rw [hzx, hnx] at hC2
  have hC2H := Lib.hid hC2
  have hshH := Lib.hid hsh
  have hb0 : Below w.heap.size w ((w.alloc (Obj.cells #[Value.pointer (some ⟨s, 0, none⟩)] 23)).alloc (Obj.cells #[Value.int IntKind.i64 0] 24)) := ((Below.refl _ w).alloc (Nat.le_refl _) _).alloc (by simp) _
  have hq1 : Boxed ((w.alloc (Obj.cells #[Value.pointer (some ⟨s, 0, none⟩)] 23)).alloc (Obj.cells #[Value.int IntKind.i64 0] 24)) w.heap.size 23 (.pointer (some ⟨s, 0, none⟩)) := (Boxed.new w _ _).alloc _
  have hq2 : Boxed ((w.alloc (Obj.cells #[Value.pointer (some ⟨s, 0, none⟩)] 23)).alloc (Obj.cells #[Value.int IntKind.i64 0] 24)) (w.heap.size + 1) 24 (.int .i64 0) := by
    have := Boxed.new (w.alloc (Obj.cells #[Value.pointer (some ⟨s, 0, none⟩)] 23)) 24 (.int .i64 0)
    rwa [show (w.alloc (Obj.cells #[Value.pointer (some ⟨s, 0, none⟩)] 23)).heap.size = w.heap.size + 1 by simp] at this
  clear h hL hLl hC hC2 hn hlr hl1 hnx hzx hsh
  refine callsIn_of_wp_marks Tryz.func211 rfl trivial ?_ rfl
  simp only [Tryz.ntmps211, List.size_toArray, List.length_cons, List.length_nil, Nat.reduceAdd, Nat.reduceSub, Array.replicate_succ, Array.replicate_zero, List.push_toArray, List.append_toArray, List.nil_append, List.cons_append]
  gi_wp2_with fail
  refine (hLen.out _ hb0).mono ?_
  generalize ((w.alloc (Obj.cells #[Value.pointer (some ⟨s, 0, none⟩)] 23)).alloc (Obj.cells #[Value.int IntKind.i64 0] 24)) = W0 at *
  rintro e w' ⟨rfl, rfl⟩
  have hr1 := hq1.cell
  have hr2 := hq2.cell
  have hf2 := hq2.frozen
  by_cases hx0 : x = 0
  · subst hx0
    rw [if_pos rfl] at hC2H
    gi_wp2
    have hq3 := (hq2.set (.int .i64 0)).cell
    refine ⟨.int .i64 0, ?_, by rw [hC2H.out]; rfl, hb0.setCell (p := ⟨w.heap.size + 1, 0, none⟩) (by simp) _⟩
    simp [results, Tryz.f211, go_sem, hq3]
  · have dx : ((x : Int) == 0) = false := by simp; omega
    rw [if_neg hx0] at hC2H
    gi_wp2_with fail
    refine (hGx.out _ hb0).mono ?_
    rintro e w1 ⟨rfl, hb1⟩
    have hbw1 := hb0.trans (hb1.mono hb0.size)
    have hzz := hbw1.size
    have hu1 : Boxed w1 w.heap.size 23 (.pointer (some ⟨s, 0, none⟩)) := (hb1.block _ hq1.lt).trans hq1
    have hu2 : Boxed w1 (w.heap.size + 1) 24 (.int .i64 0) := (hb1.block _ hq2.lt).trans hq2
    have hu1' := hu1.cell
    have hu2' := hu2.cell
    have hu2f := hu2.frozen
    have hlt1 : w.heap.size + 1 < w1.heap.size := hu2.lt
    have hltA : w.heap.size < w1.heap.size := by omega
    have hltA1 : w.heap.size < w1.heap.size + 1 := by omega
    have hltA2 : w.heap.size < w1.heap.size + 1 + 1 := by omega
    have hltA3 : w.heap.size < w1.heap.size + 1 + 1 + 1 := by omega
    have hltA4 : w.heap.size < w1.heap.size + 1 + 1 + 1 + 1 := by omega
    have hltA5 : w.heap.size < w1.heap.size + 1 + 1 + 1 + 1 + 1 := by omega
    have hltA6 : w.heap.size < w1.heap.size + 1 + 1 + 1 + 1 + 1 + 1 := by omega
    by_cases hz0 : zx = 0
    · subst hz0
      rw [if_neg (by simp)] at hC2H
      have hmk := fun w => run_makeMap (P := Tryz.prog) 317 w
      gi_wp2_with fail
      obtain ⟨hck, hck4⟩ := chk_start (x := x) nx hbw1 hu1 hu2
      have hsz5 : (((((((w1.alloc (Obj.cells #[Value.int IntKind.u64 (nx.key : Nat), Value.int IntKind.u64 (nx.val : Nat), Value.int IntKind.u64 (nx.left : Nat), Value.int IntKind.u64 (nx.right : Nat), Value.int IntKind.u64 (nx.mark : Nat), Value.int IntKind.u64 (nx.size : Nat)] 118)).alloc (Obj.map #[] 0)).alloc (Obj.cells #[Value.int IntKind.u64 (x : Nat)] 30)).alloc (Obj.cells #[Value.map (some (w1.heap.size + 1))] 317)).alloc (Obj.cells #[Value.slice (some { block := w1.heap.size + 1 + 1, off := 0 }) 1 1] 47)).alloc (Obj.cells #[Value.string ⟨#[]⟩] 9)).alloc (Obj.cells #[Value.bool true] 4)).heap.size = w1.heap.size + 7 := by simp
      generalize (((((((w1.alloc (Obj.cells #[Value.int IntKind.u64 (nx.key : Nat), Value.int IntKind.u64 (nx.val : Nat), Value.int IntKind.u64 (nx.left : Nat), Value.int IntKind.u64 (nx.right : Nat), Value.int IntKind.u64 (nx.mark : Nat), Value.int IntKind.u64 (nx.size : Nat)] 118)).alloc (Obj.map #[] 0)).alloc (Obj.cells #[Value.int IntKind.u64 (x : Nat)] 30)).alloc (Obj.cells #[Value.map (some (w1.heap.size + 1))] 317)).alloc (Obj.cells #[Value.slice (some { block := w1.heap.size + 1 + 1, off := 0 }) 1 1] 47)).alloc (Obj.cells #[Value.string ⟨#[]⟩] 9)).alloc (Obj.cells #[Value.bool true] 4)) = W5 at *
      refine (hIn.out _).mono ?_
      rintro e w2 ⟨rfl, hW2⟩
      generalize hB : w1.heap.size = B at *
      rw [hsz5]
      have hx1 : w2.cell? ⟨B + 7, 0, none⟩ = some (.pointer (some ⟨s, 0, none⟩)) := by
        rw [hW2, ← hsz5]
        exact ((Boxed.new W5 23 (.pointer (some ⟨s, 0, none⟩))).alloc _).cell
      have hx2 : Boxed w2 (B + 7 + 1) 30 (.int .u64 (x : Nat)) := by
        have := Boxed.new (W5.alloc (Obj.cells #[Value.pointer (some ⟨s, 0, none⟩)] 23)) 30 (.int .u64 (x : Nat))
        rw [show (W5.alloc (Obj.cells #[Value.pointer (some ⟨s, 0, none⟩)] 23)).heap.size = B + 7 + 1 by simp [hsz5]] at this
        rw [hW2]; exact this
      have hbe : Below W5.heap.size W5 w2 := by rw [hW2]; exact ((Below.refl _ W5).alloc (Nat.le_refl _) _).alloc (by simp) _
      have hc2 := hck.below' hbe
      have hc4 := (hbe.block _ hck4.lt).trans hck4
      have hz2' : B + 9 ≤ w2.heap.size := by rw [hW2]; simp [hsz5]
      have HH2 := Lib.hid (HH.out.below hc2.below)
      clear hW2 hIn hbe hck hck4 hsz5 hmk hu1' hu2' hu2f hu1 hu2 hb1 hr1 hr2 hf2 hq1 hq2 hb0 hbw1 hzz hlt1 hltA hltA1 hltA2 hltA3 hltA4 hltA5 hltA6 hLen
      gi_wp2_with fail
      refine wpIn_rangeFunc_mv (α := {y : Nat // y ∈ L}) rfl (by omega) (gf := 219) (lb := #[.pointer (some ⟨B + 7, 0, none⟩), .pointer (some ⟨B + 7 + 1, 0, none⟩)]) rfl trivial (enters_of Tryz.func219 (by kernel_rfl) rfl)
        (in_stops HH2.out hLH.out hx1 hx2 (by have := hc2.big; omega) (by omega) hx (ChkE w.heap.size B) (chkE_req (by omega)) (fun k hk => by
          have hbg := hc2.big
          rcases hk with h | h | h | h | h | h | h | ⟨m, cc, h⟩
          all_goals try omega
          rw [Boxed.cell hc4] at h
          simp only [Option.some.injEq, Value.slice.injEq, Addr.mk.injEq] at h
          omega))
        (fun A B hm k o hk ho => hm.keep k o hk (.inr (.inr ho)))
        (fun h k => h.trans k) (fun W l o o' hl' hl h1 h2 => ⟨KB.putObj o' hl h1 h2, fun k hk => .inl (chkE_cell (World.cell?_of_block (a := ⟨B + 4, 0, none⟩) (World.putObj_heap_other (by simp; omega))) k hk)⟩) (Below.refl _ _) (fun _ => rfl)
        (fun pre W => ∃ c, chkL R x (pre.map (fun (z : {y : Nat // y ∈ L}) => z.1)) = some c ∧ ChkW w s B c W)
        (fun cd pre W => cd = .ret ∧ chkL R x (pre.map (fun (z : {y : Nat // y ∈ L}) => z.1)) = none ∧ Boxed W (w.heap.size + 1) 24 (.int .i64 8) ∧ Below w.heap.size w W)
        (chk_own w s B _ (fun pre : List {y : Nat // y ∈ L} => chkL R x (pre.map (fun (z : {y : Nat // y ∈ L}) => z.1))) (by omega) hc2.big)
        (fun cd a X Y row hs hg hr => by
          obtain ⟨h1, h2, h3, h4⟩ := hs
          have := hc2.big
          exact ⟨h1, h2, h3.kept hg (fun e => by obtain ⟨q, _⟩ := hr _ e.symm; omega), ownFrom_below (β := List {y : Nat // y ∈ L}) (Nat.le_refl _) (by omega) a X Y row h4 hg hr⟩)
        (fun a X Y hs hm => by
          obtain ⟨c, h1, h2⟩ := hs
          exact ⟨c, h1, h2.mv hm⟩)
        (fun cd a X Y hs hm => by
          obtain ⟨h1, h2, h3, h4⟩ := hs
          exact ⟨h1, h2, hm.keep _ _ h3 (.inr (.inl (.inr (.inl rfl)))), h4.trans (hm.to_below (Nat.le_refl _) h4.size)⟩)
        ⟨_, rfl, hc2⟩
        (fun z a' W => ∃ nb nd, nodeG R z.1 = nd ∧ NdBox W nb nd ∧ a' = { tmps := #[Value.pointer (some { block := s, off := 0 }), Value.int IntKind.u64 ↑x, Value.pointer (some { block := w.heap.size, off := 0 }), undef, Value.pointer (some { block := w.heap.size + 1, off := 0 }), Value.int IntKind.i64 ↑la, Value.int IntKind.i64 ↑lb, Value.pointer (some { block := B, off := 0 }), Value.int IntKind.i64 0, Value.pointer (some { block := B + 1 + 1 + 1, off := 0 }), Value.pointer (some { block := B + 1 + 1 + 1 + 1, off := 0 }), Value.pointer (some { block := B + 1 + 1 + 1 + 1 + 1, off := 0 }), Value.pointer (some { block := B + 1 + 1 + 1 + 1 + 1 + 1, off := 0 }), Value.int IntKind.u64 ↑z.1, Value.pointer (some { block := nb, off := 0 }), undef, undef, undef, undef, undef, undef, undef, undef, Value.tuple #[Value.int IntKind.i64 ↑la, Value.int IntKind.i64 ↑lb], Value.pointer (some { block := s, off := 0 }), Value.tuple #[Value.int IntKind.i64 ↑la, Value.int IntKind.i64 ↑lb], Value.int IntKind.i64 ↑la, Value.int IntKind.i64 ↑lb, Value.int IntKind.i64 ↑lb, Value.bool false, Value.int IntKind.u64 ↑x, Value.bool false, Value.tuple #[Value.agg #[Value.int IntKind.u64 ↑nx.key, Value.int IntKind.u64 ↑nx.val, Value.int IntKind.u64 ↑nx.left, Value.int IntKind.u64 ↑nx.right, Value.int IntKind.u64 ↑nx.mark, Value.int IntKind.u64 ↑nx.size], Value.int IntKind.i64 0], Value.pointer (some { block := s, off := 0 }), Value.int IntKind.u64 ↑x, Value.tuple #[Value.agg #[Value.int IntKind.u64 ↑nx.key, Value.int IntKind.u64 ↑nx.val, Value.int IntKind.u64 ↑nx.left, Value.int IntKind.u64 ↑nx.right, Value.int IntKind.u64 ↑nx.mark, Value.int IntKind.u64 ↑nx.size], Value.int IntKind.i64 0], Value.agg #[Value.int IntKind.u64 ↑nx.key, Value.int IntKind.u64 ↑nx.val, Value.int IntKind.u64 ↑nx.left, Value.int IntKind.u64 ↑nx.right, Value.int IntKind.u64 ↑nx.mark, Value.int IntKind.u64 ↑nx.size], Value.int IntKind.i64 0, Value.int IntKind.i64 0, Value.bool false, Value.map (some (B + 1)), Value.int IntKind.u64 ↑x, Value.slice (some { block := B + 1 + 1, off := 0 }) 1 1, Value.pointer (some { block := s, off := 0 }), Value.int IntKind.u64 ↑x, Value.func (Fn.func 219) #[] #[Value.pointer (some { block := B + 7, off := 0 }), Value.pointer (some { block := B + 7 + 1, off := 0 })], Value.int IntKind.u64 ↑z.1, Value.agg #[Value.int IntKind.u64 ↑nd.key, Value.int IntKind.u64 ↑nd.val, Value.int IntKind.u64 ↑nd.left, Value.int IntKind.u64 ↑nd.right, Value.int IntKind.u64 ↑nd.mark, Value.int IntKind.u64 ↑nd.size], undef, undef, undef, undef, undef, undef, undef, undef, undef, undef, undef, undef, undef, undef, undef, undef, undef, undef, undef, undef, undef, undef, undef, undef, undef, undef, undef, undef, undef, undef, undef, undef, undef, undef, undef, undef, undef, undef, undef, undef, undef, undef, undef, undef, undef, undef, undef, undef, undef, undef, undef, undef, undef, undef, undef, undef, undef, undef, undef, undef, undef, undef, undef, undef, undef, undef, undef, undef, undef, undef, undef, undef, undef, undef, undef, undef, undef, undef, undef, undef], defers := [] })
        (fun z a' s A B row hs hg hr => by
          obtain ⟨nb, nd, h1, h2, h3⟩ := hs
          exact ⟨nb, nd, h1, h2.kept hg hr, h3⟩)
        ?assign ?body ?done ?stop
      case assign =>
        rintro l pre ⟨y, hy⟩ W K hi hK
        dsimp only at hK ⊢
        obtain ⟨nd, hnd⟩ : ∃ nd, nodeG R y = nd := ⟨_, rfl⟩
        rw [hnd]
        obtain ⟨c, hc, hcw⟩ := hi
        have hb : Below W.heap.size W (W.alloc (Obj.cells #[Value.int IntKind.u64 (nd.key : Nat), Value.int IntKind.u64 (nd.val : Nat), Value.int IntKind.u64 (nd.left : Nat), Value.int IntKind.u64 (nd.right : Nat), Value.int IntKind.u64 (nd.mark : Nat), Value.int IntKind.u64 (nd.size : Nat)] 118)) := (Below.refl _ W).alloc (Nat.le_refl _) _
        have hK2 := Lib.hid (hK _ (W.alloc (Obj.cells #[Value.int IntKind.u64 (nd.key : Nat), Value.int IntKind.u64 (nd.val : Nat), Value.int IntKind.u64 (nd.left : Nat), Value.int IntKind.u64 (nd.right : Nat), Value.int IntKind.u64 (nd.mark : Nat), Value.int IntKind.u64 (nd.size : Nat)] 118)) ((keepsOthers_below hb).from _) (hcw.km_below hb) ⟨c, hc, hcw.below' hb⟩ ⟨W.heap.size, nd, hnd, ndBox_new W nd, rfl⟩)
        clear hK hc hcw hb
        unfold Nd.v
        gi_wp2
        exact hK2.out
      case body =>
        rintro l pre ⟨y, hy⟩ a' W hl ⟨r, hr⟩ hi ⟨nb, nd, hnd, hbx, rfl⟩ hlen
        dsimp only at hnd ⊢
        obtain ⟨c, hc, hcw⟩ := hi
        obtain ⟨pe, hpe⟩ : ∃ pe, pairE R y = pe := ⟨_, rfl⟩
        obtain ⟨pk, hpk⟩ : ∃ pk, (pairP R y).1 = pk := ⟨_, rfl⟩
        obtain ⟨pv, hpv⟩ : ∃ pv, (pairP R y).2 = pv := ⟨_, rfl⟩
        obtain ⟨fb, hfb⟩ : ∃ fb, fitsR R nd = fb := ⟨_, rfl⟩
        have hy64 : y < 18446744073709551616 := inR_lt (fun z => HH.out.nodeG z) hx y (hLH.out ▸ hy)
        have hpe10 : pe < 10 := hpe ▸ pairE_lt R y
        have hWs : B + 9 ≤ W.heap.size := by have := (Array.getElem?_eq_some_iff.1 hr).1; omega
        have hSc : c.S.length ≤ 120000 := by have := (chkL_len hc).1; rw [List.length_map] at this; omega
        have hSd : c.sides.length ≤ 100000 := by have := (chkL_len hc).2; rw [List.length_map] at this; omega
        have hok : Hid nd.Ok := Lib.hid (hnd ▸ (HH.out.below hcw.below).nodeG y)
        have hP := Lib.hid (fun W' (hb : Below w.heap.size w W') => CallsIn.inRound l ((callsIn_wide (n := 6)).2 (pair_at (HH.out.below hb) hshH.out y hy64)))
        unfold prV at hP
        rw [hpe, hpk, hpv] at hP
        have hF := Lib.hid (fun W' (hb : Below w.heap.size w W') => CallsIn.inRound l ((callsIn_wide (n := 6)).2 (fits_at (HH.out.below hb) nd hok.out)))
        rw [hfb] at hF
        have hCm := Lib.hid (fun (a b : ByteArray) W => CallsIn.inRound l ((callsIn_wide (n := 6)).2 (Tx.cmp_call a b W)))
        have hstep : Hid (∀ c : Cst, c.bad R y = (pe != 0 || ((!c.first && decide (0 ≤ Tx.cmp c.last pk)) || !fb))) := Lib.hid (fun c => by unfold Cst.bad; rw [hpe, hpk, hnd, hfb])
        have hst2 : Hid (∀ c : Cst, c.bad R y = false → c.step R y = (chk3 c.S [y, nd.key, nd.val]).map fun S' => ⟨S', pk, false, c.sides ++ [nd.left, nd.right]⟩) := Lib.hid (fun c h => by unfold Cst.step; rw [if_neg (by simp [h]), hnd, hpk])
        have hst1 : Hid (∀ c : Cst, c.bad R y = true → c.step R y = none) := Lib.hid (fun c h => by unfold Cst.step; rw [if_pos h])
        have hsn : Hid (chkL R x ((pre ++ [(⟨y, hy⟩ : {y : Nat // y ∈ L})]).map (fun (z : {y : Nat // y ∈ L}) => z.1)) = c.step R y) := Lib.hid (by rw [List.map_append, List.map_cons, List.map_nil, chkL_snoc, hc]; rfl)
        have hcwH := Lib.hid hcw
        have hbxH := Lib.hid hbx
        have q2 := hcw.b2.cell
        have hbw := Lib.hid hcw.below
        clear hpe hpk hpv hfb hnd hcw hbx hc
        gi_wp2_with fail
        refine (hP.out _ hbw.out).mono ?_
        rintro e W1 ⟨rfl, hb1⟩
        have hzz := hb1.size
        have hb2 : Below W.heap.size W (W1.alloc (Obj.cells #[Value.string pk, Value.string pv] 33)) := hb1.alloc hzz _
        have hcw2 := Lib.hid (hcwH.out.below' hb2)
        have hbx2 := Lib.hid (hbxH.out.below hb2)
        have hkm2 := Lib.hid (hcwH.out.km_below hb2)
        have hpb : (W1.alloc (Obj.cells #[Value.string pk, Value.string pv] 33)).cell? ⟨W1.heap.size, 0, none⟩ = some (.string pk) := by go_simp
        have hkf2 := Lib.hid ((keepsOthers_below hb2).from w2.heap.size)
        have p2 := hcw2.out.b2.cell
        have p4 := hcw2.out.b4.cell
        have p4f := hcw2.out.b4.frozen
        have p11 := hcw2.out.b11.cell
        have p12 := hcw2.out.b12.cell
        clear hb1 hb2 hP q2
        obtain ⟨n0, n1, n2, n3, n4, n5⟩ := hbx2.out.cells
        by_cases hpe0 : pe = 0
        · subst hpe0
          cases hfst : c.first with
          | true =>
            rw [hfst] at p12
            have hF2 := Lib.hid (hF.out _ hcw2.out.below)
            gi_wp2_with fail
            refine hF2.out.mono ?_
            generalize (W1.alloc (Obj.cells #[Value.string pk, Value.string pv] 33)) = W2 at *
            rintro e W4 ⟨rfl, hb4⟩
            have hcw4 := Lib.hid (hcw2.out.below' hb4)
            have hbx4 := Lib.hid (hbx2.out.below hb4)
            have hkm4 := Lib.hid (hkm2.out.trans (hcw2.out.km_below hb4))
            have hkf4 := Lib.hid (hkf2.out.trans ((keepsOthers_below hb4).from w2.heap.size))
            have hpb4 := (hb4.cell (p := ⟨W1.heap.size, 0, none⟩) (cell_lt hpb)).trans hpb
            have r2 := hcw4.out.b2.cell
            have r4 := hcw4.out.b4.cell
            have r4f := hcw4.out.b4.frozen
            clear hb4 p2 p4 p4f p11 p12 n0 n1 n2 n3 n4 n5 hpb
            cases fb with
            | false =>
              have hbad := Lib.hid (hst1.out c (by rw [hstep.out]; simp))
              have hbk := chk_bad hcw4.out hkf4.out
              gi_wp2
              exact ⟨hbk.1, rfl, hsn.out.trans hbad.out, hbk.2.1, hbk.2.2⟩
            | true =>
              have e3 := Lib.hid (three_index y nd.key nd.val)
              have hl3 : Hid (∀ k, ([y, nd.key, nd.val][k]?).getD 0 < 18446744073709551616) := Lib.hid (three_lt hy64 hok.out.key hok.out.val)
              have hbad0 : Hid (c.bad R y = false) := Lib.hid (by rw [hstep.out]; simp [hfst])
              have hpB : B + 9 ≤ W1.heap.size := by omega
              obtain ⟨m0, m1, m2, m3, m4, m5⟩ := hbx4.out.cells
              clear hcw2 hbx2 hkm2 hkf2 hF hF2 hCm hstep r4 r4f
              gi_wp2_with fail
              gi_loopw [79] (fun iv wr => ∃ (k : Nat) (S' : List Nat), k ≤ 3 ∧ iv = .int .i64 k ∧ Hid (chk3 c.S ([y, nd.key, nd.val].take k) = some S') ∧ Hid (ChkW w s B { c with S := S' } wr) ∧ Hid (NdBox wr nb nd) ∧ wr.cell? ⟨W1.heap.size, 0, none⟩ = some (.string pk) ∧ Hid (KM (ChkE w.heap.size B) W wr) ∧ Hid (KeepsFrom w2.heap.size W wr)) (fun iv _ => 3 - (intOf iv).toNat)
              case atStart => exact ⟨0, c.S, by omega, rfl, Lib.hid rfl, hcw4, hbx4, hpb4, hkm4, hkf4⟩
              case round =>
                obtain ⟨k, S', hk, rfl, hc3, hcr, hbr, hpr, hkr, hfr⟩ := hrel
                have u9 := hcr.out.b9.cell
                have u4 := hcr.out.b4.cell
                have u4f := hcr.out.b4.frozen
                obtain ⟨D, hmap, hsee⟩ := hcr.out.seen
                have hS3 := chk3_len _ _ _ hc3.out
                have hS4 : S'.length ≤ c.S.length + 3 := by rw [hS3]; simp; omega
                by_cases hlt : k < 3
                · have hi3 := fun W => e3.out k hlt W
                  have hz64 := hl3.out k
                  have htk : Hid (chk3 c.S ([y, nd.key, nd.val].take (k + 1)) = if ([y, nd.key, nd.val][k]?).getD 0 ∈ S' then none else some (S' ++ [([y, nd.key, nd.val][k]?).getD 0])) := Lib.hid (by
                    have hkl : k < [y, nd.key, nd.val].length := hlt
                    rw [List.take_add_one, List.getElem?_eq_getElem hkl, Option.toList_some, chk3_snoc, hc3.out]
                    rfl)
                  generalize hzz9 : ([y, nd.key, nd.val][k]?).getD 0 = z at *
                  have hat0 := hsee.at' z
                  have hmapH := Lib.hid hmap
                  have hseeH := Lib.hid hsee
                  clear hmap hsee
                  have hlk := seen_look hmapH.out hz64 hat0
                  have hSl : S'.length ≤ 1000000 := by omega
                  by_cases hz : z ∈ S'
                  · rw [if_pos hz] at hlk htk
                    gi_wp2_with (gi_at_mapUpdate; refine wpListIn_mapUpdate_own _ rfl _ _ _ 317 rfl 30 3 keyedH Tryz.underlying317 _ (B + 1) _ D rfl hmapH.out (by unfold maxLen; simp only; omega) _ _ (.int .u64 (z : Nat)) rfl rfl (keyH hz64) (.lit (.int .i64 2)) [] (plain_int (by omega) (by omega)) ?_; intro w6 hown6 hgrow6; obtain ⟨s1, s2, s3, s4, s5⟩ := hcr.out.seeTurn hgrow6; have hlk2 := seen_look hown6 hz64 (seen_put_at hseeH.out.tidy.isMap z 2); have v9 := (hcr.out.b9.kept hgrow6 (fun e => by simp only [Option.some.injEq] at e; omega)).cell; have v4 := s5.cell; have v4f := s5.frozen)
                    have hbad : Hid (c.step R y = none) := Lib.hid (by
                      rw [hst2.out c hbad0.out]
                      have := chk3_none _ ([y, nd.key, nd.val].drop (k + 1)) _ htk.out
                      rw [List.take_append_drop] at this
                      rw [this]; rfl)
                    have hkf := hfr.out.trans ((s2.mono (show B + 7 ≤ w2.heap.size by omega)).trans ((KeepsOthers.setCell w6 ⟨w.heap.size + 1, 0, none⟩ (.int .i64 8)).from w2.heap.size))
                    exact ⟨hkf, rfl, hsn.out.trans hbad.out, s5.set _, s3.setCell (p := ⟨w.heap.size + 1, 0, none⟩) (by simp) _⟩
                  · rw [if_neg hz] at hlk htk
                    gi_wp2_with (gi_at_mapUpdate; refine wpListIn_mapUpdate_own _ rfl _ _ _ 317 rfl 30 3 keyedH Tryz.underlying317 _ (B + 1) _ D rfl hmapH.out (by unfold maxLen; simp only; omega) _ _ (.int .u64 (z : Nat)) rfl rfl (keyH hz64) (.lit (.int .i64 1)) [] (plain_int (by omega) (by omega)) ?_; intro w6 hown6 hgrow6; obtain ⟨s1, s2, s3, s4, s5⟩ := hcr.out.seeTurn hgrow6; have hc6 := Lib.hid (hcr.out.see hgrow6 hseeH.out hz hown6); have hlk2 := seen_look hown6 hz64 (seen_put_at hseeH.out.tidy.isMap z 1); have v9 := hc6.out.b9.cell)
                    have hbr6 : Hid (NdBox w6 nb nd) := Lib.hid ((hgrow6.block nb (Array.getElem?_eq_some_iff.1 hbr.out).1 (fun e => hcr.out.not_nd hbr.out (by simp only [Option.some.injEq] at e; exact .inr (.inr (.inl e))))).trans hbr.out)
                    have hp6 : w6.cell? ⟨W1.heap.size, 0, none⟩ = some (.string pk) := (World.cell?_of_block (a := ⟨W1.heap.size, 0, none⟩) (hgrow6.block W1.heap.size (cell_lt hpr) (fun e => by simp only [Option.some.injEq] at e; omega))).trans hpr
                    have hk6 := Lib.hid (hkr.out.trans s1)
                    have hf6 := Lib.hid (hfr.out.trans (s2.mono (show B + 7 ≤ w2.heap.size by omega)))
                    go_roundw
                    case rel => exact ⟨k + 1, S' ++ [z], by omega, by go_num, htk, hc6, hbr6, hp6, hk6, hf6⟩
                    case measure => simp [intOf]; omega
                · obtain rfl : k = 3 := by omega
                  have hfin : Hid (chkL R x ((pre ++ [(⟨y, hy⟩ : {y : Nat // y ∈ L})]).map (fun (z : {y : Nat // y ∈ L}) => z.1)) = some ⟨S', pk, false, c.sides ++ [nd.left, nd.right]⟩) := Lib.hid (by
                    have h9 := hc3.out
                    rw [show [y, nd.key, nd.val].take 3 = [y, nd.key, nd.val] from rfl] at h9
                    rw [hsn.out, hst2.out c hbad0.out, h9]
                    rfl)
                  obtain ⟨hcL, hkL⟩ := hcr.out.setLast pk
                  have v11 := hcr.out.b11.cell
                  have v11f := hcr.out.b11.frozen
                  have v12 := hcr.out.b12.cell
                  have v12f := hcr.out.b12.frozen
                  have hbrL : NdBox ((wr.setCell ⟨B + 5, 0, none⟩ (.string pk)).setCell ⟨B + 6, 0, none⟩ (.bool false)) nb nd := (hkL.kb.same _ _ hbr.out (.inl rfl) (hcr.out.not_nd hbr.out))
                  obtain ⟨g0, g1, g2, g3, g4, g5⟩ := hbrL.cells
                  obtain ⟨v, hv, hrow⟩ := hcL.sides
                  have c10 := hv.cell
                  have hsdl : c.sides.length ≤ 100000 := by omega
                  have hcLH := Lib.hid hcL
                  have hkLH := Lib.hid (hkr.out.trans hkL)
                  have hfLH := Lib.hid (hfr.out.trans ((((KeepsOthers.setCell wr ⟨B + 5, 0, none⟩ (.string pk)).trans (KeepsOthers.setCell _ ⟨B + 6, 0, none⟩ (.bool false)))).from w2.heap.size))
                  have hvH := Lib.hid hv
                  have hrowH := Lib.hid hrow
                  have hB2 : B + 2 ≤ wr.heap.size := by have := hcr.out.b9.lt; omega
                  clear hcL hkL hv hrow hbrL hmap hsee
                  gi_wp2_with (gi_at_builtin; go_must (refine wpListIn_append_own_at _ rfl _ _ 47 rfl (B + 2) 30 i0 (.int .u64 0) 1 8 Tryz.under_hs hi hz0 hz1 hz2 rfl (by decide) _ _ _ rfl (hrowH.out.alloc _) ⟨wr.heap.size, 0, none⟩ 2 2 [.int .u64 (nd.left : Nat), .int .u64 (nd.right : Nat)] rfl rfl (by have h9 := two_new ((wr.setCell ⟨B + 5, 0, none⟩ (.string pk)).setCell ⟨B + 6, 0, none⟩ (.bool false)) 30 (.int .u64 (nd.left : Nat)) (.int .u64 (nd.right : Nat)); rw [show ((wr.setCell ⟨B + 5, 0, none⟩ (.string pk)).setCell ⟨B + 6, 0, none⟩ (.bool false)).heap.size = wr.heap.size by simp] at h9; exact h9) (by simp [Value.oneCell']) (by unfold maxLen; simp only; omega) (by simp only; omega) (by simp; omega) ?_; intro v' w7 hown' hgrow _ hblk; obtain ⟨b1, b2, b3, b4⟩ := hcLH.out.sidesPut hvH.out hrowH.out (by simpa using hown') hgrow hblk; obtain ⟨g', cap', rfl⟩ := ownsRow_succ (k := c.sides.length + 1) (by simpa using hown'); have z4 := b1.cell; have z4f := b1.frozen))
                  exact ⟨hfLH.out.trans (b4.from _), hkLH.out.trans b3, ⟨_, hfin.out, b2⟩⟩
          | false =>
            rw [hfst] at p12
            obtain ⟨q, hq⟩ : ∃ q, Tx.cmp c.last pk = q := ⟨_, rfl⟩
            have hCm2 := Lib.hid (hCm.out c.last pk (W1.alloc (Obj.cells #[Value.string pk, Value.string pv] 33)))
            rw [hq] at hCm2
            have hF2 := Lib.hid (hF.out _ hcw2.out.below)
            gi_wp2_with fail
            refine hCm2.out.mono ?_
            generalize (W1.alloc (Obj.cells #[Value.string pk, Value.string pv] 33)) = W2 at *
            rintro e W3 ⟨rfl, rfl⟩
            by_cases hq0 : 0 ≤ q
            · have dq : decide (0 ≤ q) = true := by simpa using hq0
              have hbad := Lib.hid (hst1.out c (by rw [hstep.out, hfst, hq]; simp [hq0]))
              have hbk := chk_bad hcw2.out hkf2.out
              gi_wp2
              exact ⟨hbk.1, rfl, hsn.out.trans hbad.out, hbk.2.1, hbk.2.2⟩
            · have dq : decide (0 ≤ q) = false := by simpa using hq0
              gi_wp2_with fail
              refine hF2.out.mono ?_
              rintro e W4 ⟨rfl, hb4⟩
              have hcw4 := Lib.hid (hcw2.out.below' hb4)
              have hbx4 := Lib.hid (hbx2.out.below hb4)
              have hkm4 := Lib.hid (hkm2.out.trans (hcw2.out.km_below hb4))
              have hkf4 := Lib.hid (hkf2.out.trans ((keepsOthers_below hb4).from w2.heap.size))
              have hpb4 := (hb4.cell (p := ⟨W1.heap.size, 0, none⟩) (cell_lt hpb)).trans hpb
              have r2 := hcw4.out.b2.cell
              have r4 := hcw4.out.b4.cell
              have r4f := hcw4.out.b4.frozen
              clear hb4 p2 p4 p4f p11 p12 n0 n1 n2 n3 n4 n5 hpb
              cases fb with
              | false =>
                have hbad := Lib.hid (hst1.out c (by rw [hstep.out]; simp))
                have hbk := chk_bad hcw4.out hkf4.out
                gi_wp2
                exact ⟨hbk.1, rfl, hsn.out.trans hbad.out, hbk.2.1, hbk.2.2⟩
              | true =>
                have e3 := Lib.hid (three_index y nd.key nd.val)
                have hl3 : Hid (∀ k, ([y, nd.key, nd.val][k]?).getD 0 < 18446744073709551616) := Lib.hid (three_lt hy64 hok.out.key hok.out.val)
                have hbad0 : Hid (c.bad R y = false) := Lib.hid (by rw [hstep.out]; simp [hfst, hq, hq0])
                have hpB : B + 9 ≤ W1.heap.size := by omega
                obtain ⟨m0, m1, m2, m3, m4, m5⟩ := hbx4.out.cells
                clear hcw2 hbx2 hkm2 hkf2 hF hF2 hCm hstep r4 r4f
                gi_wp2_with fail
                gi_loopw [79] (fun iv wr => ∃ (k : Nat) (S' : List Nat), k ≤ 3 ∧ iv = .int .i64 k ∧ Hid (chk3 c.S ([y, nd.key, nd.val].take k) = some S') ∧ Hid (ChkW w s B { c with S := S' } wr) ∧ Hid (NdBox wr nb nd) ∧ wr.cell? ⟨W1.heap.size, 0, none⟩ = some (.string pk) ∧ Hid (KM (ChkE w.heap.size B) W wr) ∧ Hid (KeepsFrom w2.heap.size W wr)) (fun iv _ => 3 - (intOf iv).toNat)
                case atStart => exact ⟨0, c.S, by omega, rfl, Lib.hid rfl, hcw4, hbx4, hpb4, hkm4, hkf4⟩
                case round =>
                  obtain ⟨k, S', hk, rfl, hc3, hcr, hbr, hpr, hkr, hfr⟩ := hrel
                  have u9 := hcr.out.b9.cell
                  have u4 := hcr.out.b4.cell
                  have u4f := hcr.out.b4.frozen
                  obtain ⟨D, hmap, hsee⟩ := hcr.out.seen
                  have hS3 := chk3_len _ _ _ hc3.out
                  have hS4 : S'.length ≤ c.S.length + 3 := by rw [hS3]; simp; omega
                  by_cases hlt : k < 3
                  · have hi3 := fun W => e3.out k hlt W
                    have hz64 := hl3.out k
                    have htk : Hid (chk3 c.S ([y, nd.key, nd.val].take (k + 1)) = if ([y, nd.key, nd.val][k]?).getD 0 ∈ S' then none else some (S' ++ [([y, nd.key, nd.val][k]?).getD 0])) := Lib.hid (by
                      have hkl : k < [y, nd.key, nd.val].length := hlt
                      rw [List.take_add_one, List.getElem?_eq_getElem hkl, Option.toList_some, chk3_snoc, hc3.out]
                      rfl)
                    generalize hzz9 : ([y, nd.key, nd.val][k]?).getD 0 = z at *
                    have hat0 := hsee.at' z
                    have hmapH := Lib.hid hmap
                    have hseeH := Lib.hid hsee
                    clear hmap hsee
                    have hlk := seen_look hmapH.out hz64 hat0
                    have hSl : S'.length ≤ 1000000 := by omega
                    by_cases hz : z ∈ S'
                    · rw [if_pos hz] at hlk htk
                      gi_wp2_with (gi_at_mapUpdate; refine wpListIn_mapUpdate_own _ rfl _ _ _ 317 rfl 30 3 keyedH Tryz.underlying317 _ (B + 1) _ D rfl hmapH.out (by unfold maxLen; simp only; omega) _ _ (.int .u64 (z : Nat)) rfl rfl (keyH hz64) (.lit (.int .i64 2)) [] (plain_int (by omega) (by omega)) ?_; intro w6 hown6 hgrow6; obtain ⟨s1, s2, s3, s4, s5⟩ := hcr.out.seeTurn hgrow6; have hlk2 := seen_look hown6 hz64 (seen_put_at hseeH.out.tidy.isMap z 2); have v9 := (hcr.out.b9.kept hgrow6 (fun e => by simp only [Option.some.injEq] at e; omega)).cell; have v4 := s5.cell; have v4f := s5.frozen)
                      have hbad : Hid (c.step R y = none) := Lib.hid (by
                        rw [hst2.out c hbad0.out]
                        have := chk3_none _ ([y, nd.key, nd.val].drop (k + 1)) _ htk.out
                        rw [List.take_append_drop] at this
                        rw [this]; rfl)
                      have hkf := hfr.out.trans ((s2.mono (show B + 7 ≤ w2.heap.size by omega)).trans ((KeepsOthers.setCell w6 ⟨w.heap.size + 1, 0, none⟩ (.int .i64 8)).from w2.heap.size))
                      exact ⟨hkf, rfl, hsn.out.trans hbad.out, s5.set _, s3.setCell (p := ⟨w.heap.size + 1, 0, none⟩) (by simp) _⟩
                    · rw [if_neg hz] at hlk htk
                      gi_wp2_with (gi_at_mapUpdate; refine wpListIn_mapUpdate_own _ rfl _ _ _ 317 rfl 30 3 keyedH Tryz.underlying317 _ (B + 1) _ D rfl hmapH.out (by unfold maxLen; simp only; omega) _ _ (.int .u64 (z : Nat)) rfl rfl (keyH hz64) (.lit (.int .i64 1)) [] (plain_int (by omega) (by omega)) ?_; intro w6 hown6 hgrow6; obtain ⟨s1, s2, s3, s4, s5⟩ := hcr.out.seeTurn hgrow6; have hc6 := Lib.hid (hcr.out.see hgrow6 hseeH.out hz hown6); have hlk2 := seen_look hown6 hz64 (seen_put_at hseeH.out.tidy.isMap z 1); have v9 := hc6.out.b9.cell)
                      have hbr6 : Hid (NdBox w6 nb nd) := Lib.hid ((hgrow6.block nb (Array.getElem?_eq_some_iff.1 hbr.out).1 (fun e => hcr.out.not_nd hbr.out (by simp only [Option.some.injEq] at e; exact .inr (.inr (.inl e))))).trans hbr.out)
                      have hp6 : w6.cell? ⟨W1.heap.size, 0, none⟩ = some (.string pk) := (World.cell?_of_block (a := ⟨W1.heap.size, 0, none⟩) (hgrow6.block W1.heap.size (cell_lt hpr) (fun e => by simp only [Option.some.injEq] at e; omega))).trans hpr
                      have hk6 := Lib.hid (hkr.out.trans s1)
                      have hf6 := Lib.hid (hfr.out.trans (s2.mono (show B + 7 ≤ w2.heap.size by omega)))
                      go_roundw
                      case rel => exact ⟨k + 1, S' ++ [z], by omega, by go_num, htk, hc6, hbr6, hp6, hk6, hf6⟩
                      case measure => simp [intOf]; omega
                  · obtain rfl : k = 3 := by omega
                    have hfin : Hid (chkL R x ((pre ++ [(⟨y, hy⟩ : {y : Nat // y ∈ L})]).map (fun (z : {y : Nat // y ∈ L}) => z.1)) = some ⟨S', pk, false, c.sides ++ [nd.left, nd.right]⟩) := Lib.hid (by
                      have h9 := hc3.out
                      rw [show [y, nd.key, nd.val].take 3 = [y, nd.key, nd.val] from rfl] at h9
                      rw [hsn.out, hst2.out c hbad0.out, h9]
                      rfl)
                    obtain ⟨hcL, hkL⟩ := hcr.out.setLast pk
                    have v11 := hcr.out.b11.cell
                    have v11f := hcr.out.b11.frozen
                    have v12 := hcr.out.b12.cell
                    have v12f := hcr.out.b12.frozen
                    have hbrL : NdBox ((wr.setCell ⟨B + 5, 0, none⟩ (.string pk)).setCell ⟨B + 6, 0, none⟩ (.bool false)) nb nd := (hkL.kb.same _ _ hbr.out (.inl rfl) (hcr.out.not_nd hbr.out))
                    obtain ⟨g0, g1, g2, g3, g4, g5⟩ := hbrL.cells
                    obtain ⟨v, hv, hrow⟩ := hcL.sides
                    have c10 := hv.cell
                    have hsdl : c.sides.length ≤ 100000 := by omega
                    have hcLH := Lib.hid hcL
                    have hkLH := Lib.hid (hkr.out.trans hkL)
                    have hfLH := Lib.hid (hfr.out.trans ((((KeepsOthers.setCell wr ⟨B + 5, 0, none⟩ (.string pk)).trans (KeepsOthers.setCell _ ⟨B + 6, 0, none⟩ (.bool false)))).from w2.heap.size))
                    have hvH := Lib.hid hv
                    have hrowH := Lib.hid hrow
                    have hB2 : B + 2 ≤ wr.heap.size := by have := hcr.out.b9.lt; omega
                    clear hcL hkL hv hrow hbrL hmap hsee
                    gi_wp2_with (gi_at_builtin; go_must (refine wpListIn_append_own_at _ rfl _ _ 47 rfl (B + 2) 30 i0 (.int .u64 0) 1 8 Tryz.under_hs hi hz0 hz1 hz2 rfl (by decide) _ _ _ rfl (hrowH.out.alloc _) ⟨wr.heap.size, 0, none⟩ 2 2 [.int .u64 (nd.left : Nat), .int .u64 (nd.right : Nat)] rfl rfl (by have h9 := two_new ((wr.setCell ⟨B + 5, 0, none⟩ (.string pk)).setCell ⟨B + 6, 0, none⟩ (.bool false)) 30 (.int .u64 (nd.left : Nat)) (.int .u64 (nd.right : Nat)); rw [show ((wr.setCell ⟨B + 5, 0, none⟩ (.string pk)).setCell ⟨B + 6, 0, none⟩ (.bool false)).heap.size = wr.heap.size by simp] at h9; exact h9) (by simp [Value.oneCell']) (by unfold maxLen; simp only; omega) (by simp only; omega) (by simp; omega) ?_; intro v' w7 hown' hgrow _ hblk; obtain ⟨b1, b2, b3, b4⟩ := hcLH.out.sidesPut hvH.out hrowH.out (by simpa using hown') hgrow hblk; obtain ⟨g', cap', rfl⟩ := ownsRow_succ (k := c.sides.length + 1) (by simpa using hown'); have z4 := b1.cell; have z4f := b1.frozen))
                    exact ⟨hfLH.out.trans (b4.from _), hkLH.out.trans b3, ⟨_, hfin.out, b2⟩⟩
        · have d : ((pe : Int) != 0) = true := by simp; omega
          have hbad := Lib.hid (hst1.out c (by rw [hstep.out]; simp [hpe0]))
          have hbk := chk_bad hcw2.out hkf2.out
          clear n0 n1 n2 n3 n4 n5
          gi_wp2
          all_goals first | exact ⟨hbk.1, rfl, hsn.out.trans hbad.out, hbk.2.1, hbk.2.2⟩ | (rename_i x9 b9 h9 h8; exfalso; first | (simp [undef] at h9; done) | (cases h9; done) | (unfold undef at h9; cases h9; done))
      case done =>
        rintro D' xs W hD hxs ⟨c, hc, hcw⟩ hK
        rw [hxs] at hc
        have hC3 : Hid (C = if c.sides.any (fun x => x != 0 && !c.S.contains x) then 8 else if (3 * nx.size) % 18446744073709551616 ≠ c.S.length then 8 else 0) := Lib.hid (by rw [hC2H.out, hc])
        have hlc := chkL_len hc
        have hsd64 := chkL_sides (fun z => HH.out.nodeG z) hx hc
        have hSd : c.sides.length ≤ 100000 := by omega
        have hSc : c.S.length ≤ 120000 := by omega
        obtain ⟨v, hv, hrow⟩ := hcw.sides
        obtain ⟨g, cc, rfl⟩ := row_pos hrow (by omega)
        obtain ⟨D, hmap, hsee⟩ := hcw.seen
        have q10 := hv.cell
        have q9 := hcw.b9.cell
        have q2 := hcw.b2.cell
        have q4 := hcw.b4.cell
        have q4f := hcw.b4.frozen
        have hcwH := Lib.hid hcw
        have hrowH := Lib.hid hrow
        have hmapH := Lib.hid hmap
        have hseeH := Lib.hid hsee
        have hKH := Lib.hid hK
        clear hc hcw hv hrow hmap hsee hxs hlc
        have hs64 := Lib.hid hsd64
        clear hsd64
        have hbW := Lib.hid hcwH.out.below
        have hDb : w.heap.size ≤ D' := by have := hcwH.out.big; omega
        have hDn : D' ≠ w.heap.size + 1 := by have := hcwH.out.b4.lt; have := hcwH.out.big; omega
        have hset := fun (V : World) (hb : Below W.heap.size W V) (u : Int) => Lib.hid (show (((V.setCell ⟨w.heap.size + 1, 0, none⟩ (.int .i64 u)).putObj D' (.deferred none)).cell? ⟨w.heap.size + 1, 0, none⟩ = some (.int .i64 u) ∧ Below w.heap.size w ((V.setCell ⟨w.heap.size + 1, 0, none⟩ (.int .i64 u)).putObj D' (.deferred none))) ∧ (V.setCell ⟨w.heap.size + 1, 0, none⟩ (.int .i64 u)).heap[D']? = some (.deferred (some [])) from by
          have hV4 : Boxed V (w.heap.size + 1) 24 (.int .i64 0) := (hb.block _ hcwH.out.b4.lt).trans hcwH.out.b4
          have hVD : V.heap[D']? = some (.deferred (some [])) := (hb.block _ (Array.getElem?_eq_some_iff.1 hKH.out).1).trans hKH.out
          have hb9 : Boxed ((V.setCell ⟨w.heap.size + 1, 0, none⟩ (.int .i64 u)).putObj D' (.deferred none)) (w.heap.size + 1) 24 (.int .i64 u) := (World.putObj_heap_other (by omega)).trans (hV4.set _)
          have hK1 : (V.setCell ⟨w.heap.size + 1, 0, none⟩ (.int .i64 u)).heap[D']? = some (.deferred (some [])) := (Below.heap_setCell _ _ _ D' (fun e => hDn e)).trans hVD
          refine ⟨⟨hb9.cell, ?_⟩, hK1⟩
          exact ((hbW.out.trans (hb.mono hbW.out.size)).setCell (p := ⟨w.heap.size + 1, 0, none⟩) (by simp) _).trans (belowK_b (w := w) (Nat.le_refl _) _ D' _ _ hDb hK1 rfl rfl))
        gi_wp2_with fail
        gi_loopw [102] (fun iv wr => ∃ k : Nat, k ≤ c.sides.length ∧ iv = .int .i64 k ∧ wr = W ∧ Hid (∀ y ∈ c.sides.take k, (y != 0 && !c.S.contains y) = false)) (fun iv _ => c.sides.length - (intOf iv).toNat)
        case atStart => exact ⟨0, by omega, rfl, rfl, Lib.hid (fun y hy => by simp at hy)⟩
        case round =>
          obtain ⟨k, hk, rfl, rfl, hall⟩ := hrel
          by_cases hlt : k < c.sides.length
          · have hy64 := hs64.out c.sides[k] (List.getElem_mem hlt)
            have hcell := hrowH.out.cells (g := g) rfl k (.int .u64 (c.sides[k] : Nat)) (by rw [hsV, List.getElem?_map, List.getElem?_eq_getElem hlt]; rfl)
            rw [show (⟨g, 0, none⟩ : Addr).add k = ⟨g, k, none⟩ by unfold Addr.add; split <;> simp_all] at hcell
            have hstp : Hid (∀ y ∈ c.sides.take (k + 1), y ∈ c.sides.take k ∨ y = c.sides[k]) := Lib.hid (fun y hy => by
              rw [List.take_succ_eq_append_getElem hlt] at hy
              rcases List.mem_append.1 hy with h | h
              · exact .inl h
              · exact .inr (List.mem_singleton.1 h))
            have hmem : Hid (c.sides[k] ∈ c.sides) := Lib.hid (List.getElem_mem hlt)
            generalize c.sides[k] = y at *
            by_cases hy0 : y = 0
            · subst hy0
              gi_wp2
              go_roundw
              case rel => exact ⟨k + 1, by omega, by go_num, trivial, Lib.hid (fun z hz => by
                rcases hstp.out z hz with h | rfl
                · exact hall.out z h
                · simp)⟩
              case measure => simp [intOf]; omega
            · have dy : ((y : Int) != 0) = true := by simp; omega
              have dy2 : ((y : Int) == 0) = false := by simp; omega
              have hlk := seen_look hmapH.out hy64 (hseeH.out.at' y)
              by_cases hyS : y ∈ c.S
              · rw [if_pos hyS] at hlk
                gi_wp2
                go_roundw
                case rel => exact ⟨k + 1, by omega, by go_num, trivial, Lib.hid (fun z hz => by
                  rcases hstp.out z hz with h | rfl
                  · exact hall.out z h
                  · simp [hyS])⟩
                case measure => simp [intOf]; omega
              · rw [if_neg hyS] at hlk
                have hC8 : Hid (C = 8) := Lib.hid (by
                  rw [hC3.out, if_pos]
                  rw [List.any_eq_true]
                  exact ⟨y, hmem.out, by simp [hy0, hyS]⟩)
                obtain ⟨⟨hr9, hbf⟩, hK1⟩ := (hset _ (Below.refl _ _) 8).out
                have hbfH := Lib.hid hbf
                clear hbf
                gi_wp2
                refine ⟨by simp, .inl ⟨_, _, rfl, run_takeDeferred hK1, ?_⟩⟩
                refine ⟨.int .i64 8, by simp [results, Tryz.f211, go_sem, hr9], by rw [hC8.out]; rfl, hbfH.out⟩
          · obtain rfl : k = c.sides.length := by omega
            have hC4 : Hid (C = if (3 * nx.size) % 18446744073709551616 ≠ c.S.length then 8 else 0) := Lib.hid (by
              rw [hC3.out, if_neg]
              intro h9
              rw [List.any_eq_true] at h9
              obtain ⟨y, hy, h8⟩ := h9
              have := hall.out y (by rwa [List.take_length])
              rw [h8] at this
              cases this)
            gi_wp2_with fail
            refine (hGx.out _ hbW.out).mono ?_
            rintro e w9 ⟨rfl, hb9⟩
            have hb10 : Below wr.heap.size wr (w9.alloc (Obj.cells #[Value.int IntKind.u64 (nx.key : Nat), Value.int IntKind.u64 (nx.val : Nat), Value.int IntKind.u64 (nx.left : Nat), Value.int IntKind.u64 (nx.right : Nat), Value.int IntKind.u64 (nx.mark : Nat), Value.int IntKind.u64 (nx.size : Nat)] 118)) := hb9.alloc hb9.size _
            have hcw9 := Lib.hid (hcwH.out.below' hb10)
            obtain ⟨om, hom, hoc, _⟩ := seenMap_obj hmapH.out
            have hln := fun ty => World.ownsMap.len (seenMap_same hmapH.out ((hb10.block _ (Array.getElem?_eq_some_iff.1 hom).1))) Tryz.underlying317 ty
            rw [hseeH.out.size] at hln
            have y9 := (hb9.cell (p := ⟨B + 3, 0, none⟩) (cell_lt q9)).trans q9
            have y4 := (hb9.cell (p := ⟨w.heap.size + 1, 0, none⟩) (cell_lt q4)).trans q4
            have y4f := (hb9.frozen (p := ⟨w.heap.size + 1, 0, none⟩) (cell_lt q4)).trans q4f
            have z9 := hb9.size
            have x9 := (hb10.cell (p := ⟨B + 3, 0, none⟩) (cell_lt q9)).trans q9
            have x4 := (hb10.cell (p := ⟨w.heap.size + 1, 0, none⟩) (cell_lt q4)).trans q4
            have x4f := (hb10.frozen (p := ⟨w.heap.size + 1, 0, none⟩) (cell_lt q4)).trans q4f
            clear hb9 q9 q4 q4f q2 q10 hom hoc hGx
            have hwr := Lib.hid (wrap_three nx.size)
            by_cases hq : (3 * nx.size) % 18446744073709551616 = c.S.length
            · have dq : (IntKind.u64.wrap (3 * (nx.size : Int)) != (c.S.length : Int)) = false := by rw [hwr.out, hq]; simp
              have hC8 : Hid (C = 0) := Lib.hid (by rw [hC4.out, if_neg (by simpa using hq)])
              obtain ⟨⟨hr9, hbf⟩, hK1⟩ := (hset _ hb10 0).out
              have hbfH := Lib.hid hbf
              clear hbf hset hb10 hq
              gi_wp2
              refine ⟨by simp, .inl ⟨_, _, rfl, run_takeDeferred hK1, ?_⟩⟩
              refine ⟨.int .i64 0, by simp [results, Tryz.f211, go_sem, hr9], by rw [hC8.out]; rfl, hbfH.out⟩
            · have dq : (IntKind.u64.wrap (3 * (nx.size : Int)) != (c.S.length : Int)) = true := by rw [hwr.out]; simp; omega
              have hC8 : Hid (C = 8) := Lib.hid (by rw [hC4.out, if_pos hq])
              obtain ⟨⟨hr9, hbf⟩, hK1⟩ := (hset _ hb10 8).out
              have hbfH := Lib.hid hbf
              clear hbf hset hb10 hq
              gi_wp2
              refine ⟨by simp, .inl ⟨_, _, rfl, run_takeDeferred hK1, ?_⟩⟩
              refine ⟨.int .i64 8, by simp [results, Tryz.f211, go_sem, hr9], by rw [hC8.out]; rfl, hbfH.out⟩
      case stop =>
        rintro D' cd pre W hD hSp ⟨rfl, hnone, hb8, hbw⟩ hK
        have hC8 : Hid (C = 8) := Lib.hid (by
          obtain ⟨t, ht⟩ := hSp
          have h9 := chkL_none R x _ t hnone
          rw [← ht] at h9
          rw [hC2H.out, h9])
        have hbH := Lib.hid hbw
        have hDn : D' ≠ w.heap.size + 1 := by have := hb8.lt; have := hc2.big; omega
        have hb9 : Boxed (W.putObj D' (.deferred none)) (w.heap.size + 1) 24 (.int .i64 8) := (World.putObj_heap_other (by omega)).trans hb8
        have hr9 := hb9.cell
        clear hSp hnone hbw
        gi_wp2
        refine ⟨by simp, .inl ⟨_, _, rfl, run_takeDeferred hK, ?_⟩⟩
        refine ⟨.int .i64 8, by simp [results, Tryz.f211, go_sem, hr9], by rw [hC8.out]; rfl, ?_⟩
        exact hbH.out.trans (belowK_b (w := w) (Nat.le_refl _) _ D' _ _ (by have := hc2.big; omega) hK rfl rfl)
    · have dz : ((zx : Int) != 0) = true := by simp; omega
      rw [if_pos hz0] at hC2H
      have r0 := alloc_cell (Obj.cells #[Value.int IntKind.u64 (nx.key : Nat), Value.int IntKind.u64 (nx.val : Nat), Value.int IntKind.u64 (nx.left : Nat), Value.int IntKind.u64 (nx.right : Nat), Value.int IntKind.u64 (nx.mark : Nat), Value.int IntKind.u64 (nx.size : Nat)] 118) (hu2.set (.int .i64 8)).cell
      have hbf := (hbw1.setCell (p := ⟨w.heap.size + 1, 0, none⟩) (by simp) (.int .i64 8)).alloc (by simp; omega) (Obj.cells #[Value.int IntKind.u64 (nx.key : Nat), Value.int IntKind.u64 (nx.val : Nat), Value.int IntKind.u64 (nx.left : Nat), Value.int IntKind.u64 (nx.right : Nat), Value.int IntKind.u64 (nx.mark : Nat), Value.int IntKind.u64 (nx.size : Nat)] 118)
      gi_wp2
      generalize World.alloc _ _ = Wf at *
      refine ⟨.int .i64 8, ?_, by rw [hC2H.out]; rfl, hbf⟩
      simp [results, Tryz.f211, go_sem, r0]
end
end Go.Proofs.YtijpmjaeanocpaaGreatDoor

set_option linter.unusedVariables false
set_option linter.unusedSimpArgs false
namespace Go.Proofs.YtijpmjaeanocpaaGreatDoor
open Go.RowKit Go.Shelf
inductive BT where
  | nil
  | node (h kh vh mark : Nat) (k v : ByteArray) (l r : BT)
namespace BT
def root : BT → Nat
  | nil => 0
  | node h _ _ _ _ _ _ _ => h
def size : BT → Nat
  | nil => 0
  | node _ _ _ _ _ _ l r => l.size + 1 + r.size
def nodes : BT → List Nat
  | nil => []
  | node h _ _ _ _ _ l r => l.nodes ++ h :: r.nodes
def hs : BT → List Nat
  | nil => []
  | node h kh vh _ _ _ l r => l.hs ++ h :: kh :: vh :: r.hs
def prs : BT → List (ByteArray × ByteArray)
  | nil => []
  | node _ _ _ _ k v l r => l.prs ++ (k, v) :: r.prs
def At (R : Nat → Option (List Nat)) : BT → Prop
  | nil => True
  | node h kh vh m k v l r => h ≠ 0 ∧ R h = some (Nd.ws ⟨kh, vh, l.root, r.root, m, l.size + 1 + r.size⟩) ∧ R kh = some (Tx.wordsL k.data.toList) ∧ R vh = some (Tx.wordsL v.data.toList) ∧ k.size ≤ 1000 ∧ v.size ≤ 1000 ∧ l.At R ∧ r.At R
theorem nodes_len : ∀ t : BT, t.nodes.length = t.size
  | nil => rfl
  | node _ _ _ _ _ _ l r => by simp only [nodes, size, List.length_append, List.length_cons, nodes_len l, nodes_len r]; omega
theorem prs_len : ∀ t : BT, t.prs.length = t.size
  | nil => rfl
  | node _ _ _ _ _ _ l r => by simp only [prs, size, List.length_append, List.length_cons, prs_len l, prs_len r]; omega
theorem hs_len : ∀ t : BT, t.hs.length = 3 * t.size
  | nil => rfl
  | node _ _ _ _ _ _ l r => by simp only [hs, size, List.length_append, List.length_cons, hs_len l, hs_len r]; omega
theorem nodes_hs : ∀ (t : BT) (x : Nat), x ∈ t.nodes → x ∈ t.hs
  | nil, x, h => by simp [nodes] at h
  | node h kh vh m k v l r, x, hx => by
    simp only [nodes, hs, List.mem_append, List.mem_cons] at hx ⊢
    rcases hx with hx | hx | hx
    · exact .inl (nodes_hs l x hx)
    · exact .inr (.inl hx)
    · exact .inr (.inr (.inr (.inr (nodes_hs r x hx))))
theorem root_nodes : ∀ t : BT, t.root = 0 ∨ t.root ∈ t.nodes
  | nil => .inl rfl
  | node h _ _ _ _ _ l r => .inr (by simp [nodes, root])
end BT
section
variable {R : Nat → Option (List Nat)}
theorem blobR_text {x : Nat} {k : ByteArray} (h : R x = some (Tx.wordsL k.data.toList)) (hk : k.size ≤ 1000) : blobR R x = some k ∧ blobE R x = 0 := by
  obtain ⟨h1, h2⟩ := Tx.text_words k hk
  unfold blobR blobE
  rw [h]
  simp only [if_pos h1, h2]
  exact ⟨trivial, trivial⟩
theorem nodeR_at {x : Nat} {nd : Nd} (h : R x = some nd.ws) : nodeE R x = 0 ∧ nodeG R x = nd := by
  have h1 := nodeR_of h
  exact ⟨nodeE_zero.2 ⟨_, h1⟩, by unfold nodeG; rw [h1]; rfl⟩
namespace BT
def lefts : BT → List BT → List BT
  | nil, ps => ps
  | node h kh vh m k v l r, ps => lefts l (node h kh vh m k v l r :: ps)
def long : BT → Nat
  | nil => 0
  | node _ _ _ _ _ _ l _ => l.long + 1
def told : List BT → List Nat
  | [] => []
  | nil :: ps => told ps
  | node h _ _ _ _ _ _ r :: ps => h :: (r.nodes ++ told ps)
def todo : List BT → Nat
  | [] => 0
  | nil :: ps => todo ps
  | node _ _ _ _ _ _ _ r :: ps => r.size + todo ps
theorem told_lefts : ∀ (t : BT) (ps : List BT), told (lefts t ps) = t.nodes ++ told ps
  | nil, ps => rfl
  | node h kh vh m k v l r, ps => by rw [lefts, told_lefts l, told, nodes, List.append_assoc]; rfl
theorem todo_lefts : ∀ (t : BT) (ps : List BT), t.long + todo (lefts t ps) = t.size + todo ps
  | nil, ps => rfl
  | node h kh vh m k v l r, ps => by
    have := todo_lefts l (node h kh vh m k v l r :: ps)
    rw [lefts, long, size]
    rw [todo] at this
    omega
def Stk (R : Nat → Option (List Nat)) (ps : List BT) : Prop := ∀ p ∈ ps, p.At R ∧ p ≠ nil
theorem stk_lefts : ∀ (t : BT) (ps : List BT), t.At R → Stk R ps → Stk R (lefts t ps)
  | nil, ps, _, h => h
  | node h kh vh m k v l r, ps, ht, hp => stk_lefts l _ ht.2.2.2.2.2.2.1 (fun p hq => by
      rcases List.mem_cons.1 hq with rfl | hq
      · exact ⟨ht, by simp⟩
      · exact hp p hq)
theorem dive_at : ∀ (t : BT) (f : Nat) (ps : List BT), t.At R → t.long < f → dive R f (ps.map root) t.root = some ((lefts t ps).map root, f - t.long, 0)
  | nil, f, ps, _, hf => by
    obtain ⟨f', rfl⟩ : ∃ f', f = f' + 1 := ⟨f - 1, by simp only [long] at hf; omega⟩
    rw [dive, if_pos (show nil.root = 0 from rfl)]
    rfl
  | node h kh vh m k v l r, f, ps, ht, hf => by
    obtain ⟨f', rfl⟩ : ∃ f', f = f' + 1 := ⟨f - 1, by simp only [long] at hf; omega⟩
    obtain ⟨h1, h2, h3, h4, h5, h6, hl, hr⟩ := ht
    obtain ⟨e1, e2⟩ := nodeR_at h2
    simp only [long] at hf
    rw [dive, show (node h kh vh m k v l r).root = h from rfl, if_neg h1, if_neg (by simp [e1]), e2]
    have := dive_at l f' (node h kh vh m k v l r :: ps) hl (by omega)
    rw [show (node h kh vh m k v l r :: ps).map root = h :: ps.map root from rfl] at this
    rw [this, lefts, long, show f' + 1 - (l.long + 1) = f' - l.long by omega]
theorem goO_at : ∀ (g f : Nat) (ps : List BT) (t : BT), t.At R → Stk R ps → t.size + todo ps < f → (t.nodes ++ told ps).length ≤ g → goO R g f (ps.map root) t.root = t.nodes ++ told ps
  | 0, f, ps, t, ht, hp, hf, hg => by
    rw [List.eq_nil_of_length_eq_zero (Nat.le_zero.1 hg)]
    rfl
  | g + 1, f, ps, t, ht, hp, hf, hg => by
    have hlt := todo_lefts t ps
    have hst := stk_lefts t ps ht hp
    rw [goO, if_neg (by omega), dive_at t f ps ht (by omega)]
    rw [← told_lefts t ps] at hg ⊢
    cases hL : lefts t ps with
    | nil => rfl
    | cons p ps' =>
      rw [hL] at hlt hst hg
      obtain ⟨hpa, hpn⟩ := hst p (by simp)
      cases p with
      | nil => exact absurd rfl hpn
      | node h kh vh m k v l r =>
        obtain ⟨h1, h2, h3, h4, h5, h6, hl, hr⟩ := hpa
        obtain ⟨e1, e2⟩ := nodeR_at h2
        rw [todo] at hlt
        rw [told, List.length_cons] at hg
        show h :: goO R g (f - t.long) (ps'.map root) (nodeG R h).right = h :: (r.nodes ++ told ps')
        rw [e2]
        show h :: goO R g (f - t.long) (ps'.map root) r.root = _
        rw [goO_at g (f - t.long) ps' r hr (fun q hq => hst q (by simp [hq])) (by omega) (by omega)]
theorem inR_at {t : BT} (ht : t.At R) {n : Nat} (hn : t.size ≤ n / 8) : inR R n t.root = t.nodes := by
  have h1 := nodes_len t
  have := goO_at (R := R) (n / 8 + 1) (n / 8 + 1) [] t ht (fun p hp => by simp at hp) (by simp [todo]; omega) (by simp [told]; omega)
  rw [told, List.append_nil] at this
  exact this
theorem tsize_at {t : BT} (ht : t.At R) (h0 : R 0 = none) (hs : t.size < 9223372036854775808) : tsizeR R t.root = t.size := by
  unfold tsizeR
  cases t with
  | nil =>
    have : nodeG R 0 = Nd.zero := by unfold nodeG nodeR; rw [h0]; rfl
    rw [root, this]
    exact IntWalk.wrap64_in 0 (by omega)
  | node h kh vh m k v l r =>
    obtain ⟨h1, h2, _⟩ := ht
    rw [root, (nodeR_at h2).2]
    exact IntWalk.wrap64_in _ (by simp only [size] at hs ⊢; omega)
def find (k : ByteArray) : BT → Nat
  | nil => 0
  | node h _ _ _ k' _ l r => if Tx.cmp k k' < 0 then l.find k else if 0 < Tx.cmp k k' then r.find k else h
def rank (k : ByteArray) : BT → Nat
  | nil => 0
  | node _ _ _ _ k' _ l r => if Tx.cmp k k' < 0 then l.rank k else if 0 < Tx.cmp k k' then l.size + 1 + r.rank k else l.size
theorem key_at {R : Nat → Option (List Nat)} {nd : Nd} {k : ByteArray} (h : R nd.key = some (Tx.wordsL k.data.toList)) (hk : k.size ≤ 1000) : keyR R nd = k := by
  unfold keyR
  rw [(blobR_text h hk).1]
  rfl
end BT
end
end Go.Proofs.YtijpmjaeanocpaaGreatDoor

set_option linter.unusedVariables false
set_option linter.unusedSimpArgs false
namespace Go.Proofs.YtijpmjaeanocpaaGreatDoor
open Go.RowKit Go.Shelf
theorem cmp_zero {a b : ByteArray} : Tx.cmp a b = 0 ↔ a = b := by
  unfold Tx.cmp
  rw [Tx.cb_zero]
  constructor
  · intro h
    cases a; cases b
    simp only [ByteArray.mk.injEq]
    exact Array.toList_inj.1 h
  · rintro rfl; rfl
theorem cmp_swap (a b : ByteArray) : Tx.cmp b a = -Tx.cmp a b := Tx.cb_swap _ _
theorem cmp_lt_trans {a b c : ByteArray} (h : Tx.cmp a b < 0) (k : Tx.cmp b c < 0) : Tx.cmp a c < 0 :=
  (Tx.cb_trans _ _ _ (Int.le_of_lt h) (Int.le_of_lt k)).2 (.inl h)
def rankL (l : List (ByteArray × ByteArray)) (k : ByteArray) : Nat := l.countP fun p => decide (Tx.cmp p.1 k < 0)
def Rising (l : List (ByteArray × ByteArray)) : Prop := l.Pairwise fun a b => Tx.cmp a.1 b.1 < 0
theorem rankL_le (l : List (ByteArray × ByteArray)) (k : ByteArray) : rankL l k ≤ l.length := List.countP_le_length
theorem rankL_none {l : List (ByteArray × ByteArray)} {k : ByteArray} (h : ∀ p ∈ l, ¬ Tx.cmp p.1 k < 0) : rankL l k = 0 := by
  unfold rankL
  rw [List.countP_eq_zero]
  exact fun p hp e => h p hp (of_decide_eq_true e)
theorem rankL_append (l m : List (ByteArray × ByteArray)) (k : ByteArray) : rankL (l ++ m) k = rankL l k + rankL m k := List.countP_append
theorem rankL_cons (p : ByteArray × ByteArray) (m : List (ByteArray × ByteArray)) (k : ByteArray) : rankL (p :: m) k = rankL m k + if Tx.cmp p.1 k < 0 then 1 else 0 := by
  unfold rankL
  rw [List.countP_cons]
  simp
namespace BT
variable {R : Nat → Option (List Nat)}
end BT
structure En where
  h : Nat
  nd : Nd
  k : ByteArray
  v : ByteArray
def En.At (R : Nat → Option (List Nat)) (e : En) : Prop := R e.h = some e.nd.ws ∧ R e.nd.key = some (Tx.wordsL e.k.data.toList) ∧ R e.nd.val = some (Tx.wordsL e.v.data.toList) ∧ e.k.size ≤ 1000 ∧ e.v.size ≤ 1000 ∧ fitsR R e.nd = true
def En.hs (e : En) : List Nat := [e.h, e.nd.key, e.nd.val]
theorem En.At.pair {R : Nat → Option (List Nat)} {h : Nat} {nd : Nd} {k v : ByteArray} (h1 : R h = some nd.ws) (h2 : R nd.key = some (Tx.wordsL k.data.toList)) (h3 : R nd.val = some (Tx.wordsL v.data.toList)) (h4 : k.size ≤ 1000) (h5 : v.size ≤ 1000) : pairE R h = 0 ∧ pairP R h = (k, v) := by
  obtain ⟨e1, e2⟩ := nodeR_at h1
  obtain ⟨b1, b2⟩ := blobR_text h2 h4
  obtain ⟨b3, b4⟩ := blobR_text h3 h5
  have hp : pairE R h = 0 := by unfold pairE; rw [e2, if_neg (by simp [e1]), if_neg (by simp [b2]), b4]
  refine ⟨hp, ?_⟩
  unfold pairP
  rw [if_pos hp, e2, b1, b3]
  rfl
namespace BT
variable {R : Nat → Option (List Nat)}
def ents : BT → List En
  | nil => []
  | node h kh vh m k v l r => l.ents ++ ⟨h, ⟨kh, vh, l.root, r.root, m, l.size + 1 + r.size⟩, k, v⟩ :: r.ents
theorem ents_nodes : ∀ t : BT, t.ents.map (·.h) = t.nodes
  | nil => rfl
  | node _ _ _ _ _ _ l r => by rw [ents, nodes, List.map_append, List.map_cons, ents_nodes l, ents_nodes r]
theorem ents_prs : ∀ t : BT, t.ents.map (fun e => (e.k, e.v)) = t.prs
  | nil => rfl
  | node _ _ _ _ _ _ l r => by rw [ents, prs, List.map_append, List.map_cons, ents_prs l, ents_prs r]
theorem ents_hs : ∀ t : BT, t.ents.flatMap En.hs = t.hs
  | nil => rfl
  | node _ _ _ _ _ _ l r => by rw [ents, hs, List.flatMap_append, List.flatMap_cons, ents_hs l, ents_hs r]; rfl
theorem ents_sides : ∀ (t : BT) (e : En), e ∈ t.ents → (e.nd.left = 0 ∨ e.nd.left ∈ t.nodes) ∧ (e.nd.right = 0 ∨ e.nd.right ∈ t.nodes)
  | nil, e, h => by simp [ents] at h
  | node h kh vh m k v l r, e, he => by
    simp only [ents, List.mem_append, List.mem_cons] at he
    simp only [nodes, List.mem_append, List.mem_cons]
    rcases he with he | rfl | he
    · obtain ⟨h1, h2⟩ := ents_sides l e he
      exact ⟨h1.imp_right .inl, h2.imp_right .inl⟩
    · exact ⟨(root_nodes l).imp_right .inl, (root_nodes r).imp_right fun h => .inr (.inr h)⟩
    · obtain ⟨h1, h2⟩ := ents_sides r e he
      exact ⟨h1.imp_right fun h => .inr (.inr h), h2.imp_right fun h => .inr (.inr h)⟩
theorem side_at {t : BT} (ht : t.At R) : sideR R t.root = some t.size := by
  unfold sideR
  cases t with
  | nil => rfl
  | node h kh vh m k v l r =>
    obtain ⟨h1, h2, _⟩ := ht
    obtain ⟨e1, e2⟩ := nodeR_at h2
    rw [root, if_neg h1, if_neg (by simp [e1]), e2]
    rfl
theorem ents_at : ∀ (t : BT), t.At R → t.size < 18446744073709551616 → ∀ e ∈ t.ents, e.At R
  | nil, _, _, e, he => by simp [ents] at he
  | node h kh vh m k v l r, ht, hs, e, he => by
    obtain ⟨h1, h2, h3, h4, h5, h6, hl, hr⟩ := ht
    simp only [size] at hs
    simp only [ents, List.mem_append, List.mem_cons] at he
    rcases he with he | rfl | he
    · exact ents_at l hl (by omega) e he
    · refine ⟨h2, h3, h4, h5, h6, ?_⟩
      have e1 : fitAcc R ⟨kh, vh, l.root, r.root, m, l.size + 1 + r.size⟩ 2 = some (l.size + 1 + r.size) := by
        simp only [fitAcc, Nd.side, if_true, Option.bind_some]
        rw [side_at hl]
        simp only [Option.map_some, Option.bind_some, Nat.one_ne_zero, if_false]
        rw [side_at hr]
        simp only [Option.map_some, Option.some.injEq]
        omega
      unfold fitsR
      rw [e1]
      simp
    · exact ents_at r hr (by omega) e he
end BT
section
variable {R : Nat → Option (List Nat)}
theorem chk3_some : ∀ (l S : List Nat), (S ++ l).Nodup → chk3 S l = some (S ++ l)
  | [], S, _ => by simp [chk3]
  | x :: t, S, h => by
    have hx : x ∉ S := fun hx => by
      rw [List.nodup_append] at h
      exact h.2.2 x hx x (by simp) rfl
    rw [chk3, if_neg hx, chk3_some t (S ++ [x]) (by simpa using h)]
    simp
theorem chk_fold : ∀ (es : List En) (c : Cst), (∀ e ∈ es, e.At R) → (es.map (fun e => (e.k, e.v))).Pairwise (fun a b => Tx.cmp a.1 b.1 < 0) → (c.first = true ∨ ∀ e ∈ es, Tx.cmp c.last e.k < 0) → (c.S ++ es.flatMap En.hs).Nodup →
    ∃ c', (es.map (·.h)).foldl (fun (c : Option Cst) h => c.bind fun c => c.step R h) (some c) = some c' ∧ c'.S = c.S ++ es.flatMap En.hs ∧ c'.sides = c.sides ++ es.flatMap (fun e => [e.nd.left, e.nd.right])
  | [], c, _, _, _, _ => ⟨c, rfl, by simp, by simp⟩
  | e :: es, c, hat, hp, hl, hn => by
    obtain ⟨h1, h2, h3, h4, h5, h6⟩ := hat e (by simp)
    obtain ⟨p1, p2⟩ := En.At.pair h1 h2 h3 h4 h5
    obtain ⟨e1, e2⟩ := nodeR_at h1
    rw [List.map_cons, List.pairwise_cons] at hp
    rw [List.flatMap_cons] at hn
    have hn3 : (c.S ++ e.hs).Nodup := by
      rw [← List.append_assoc] at hn
      exact (List.nodup_append.1 hn).1
    have hbad : c.bad R e.h = false := by
      unfold Cst.bad
      rw [p1, p2, e2, h6]
      rcases hl with hf | hf
      · rw [hf]; rfl
      · have := hf e (by simp)
        simp; omega
    have hstep : c.step R e.h = some ⟨c.S ++ e.hs, e.k, false, c.sides ++ [e.nd.left, e.nd.right]⟩ := by
      unfold Cst.step
      rw [if_neg (by simp [hbad]), e2, p2, show [e.h, e.nd.key, e.nd.val] = e.hs from rfl, chk3_some _ _ hn3]
      rfl
    obtain ⟨c', q1, q2, q3⟩ := chk_fold es ⟨c.S ++ e.hs, e.k, false, c.sides ++ [e.nd.left, e.nd.right]⟩ (fun x hx => hat x (by simp [hx])) hp.2 (.inr fun x hx => hp.1 _ (List.mem_map.2 ⟨x, hx, rfl⟩)) (by rw [List.append_assoc]; exact hn)
    refine ⟨c', ?_, ?_, ?_⟩
    · rw [List.map_cons, List.foldl_cons, Option.bind_some, hstep]
      exact q1
    · rw [q2, List.flatMap_cons, List.append_assoc]
    · rw [q3, List.flatMap_cons, List.append_assoc]
theorem BT.chk_at {t : BT} (ht : t.At R) (hr : Rising t.prs) (hn : t.hs.Nodup) (hs : t.size < 18446744073709551616) (root : Nat) :
    ∃ c, chkL R root t.nodes = some c ∧ c.S = t.hs ∧ c.sides = root :: t.ents.flatMap (fun e => [e.nd.left, e.nd.right]) := by
  obtain ⟨c, h1, h2, h3⟩ := chk_fold (R := R) t.ents ⟨[], ⟨#[]⟩, true, [root]⟩ (ents_at t ht hs) (by rw [ents_prs]; exact hr) (.inl rfl) (by rw [ents_hs]; exact hn)
  rw [ents_nodes] at h1
  exact ⟨c, h1, by rw [h2, ents_hs]; rfl, by rw [h3]; rfl⟩
theorem BT.check_at {t : BT} (ht : t.At R) (hr : Rising t.prs) (hn : t.hs.Nodup) {n : Nat} (hsz : t.size ≤ n / 8) (hs : t.size < 1000000) : checkR R n t.root = 0 := by
  unfold checkR
  by_cases h0 : t.root = 0
  · rw [if_pos h0]
  · rw [if_neg h0]
    have hrt : nodeE R t.root = 0 ∧ (nodeG R t.root).size = t.size := by
      cases t with
      | nil => exact absurd rfl h0
      | node h kh vh m k v l r =>
        obtain ⟨e1, e2⟩ := nodeR_at ht.2.1
        exact ⟨e1, by rw [BT.root, e2]; rfl⟩
    rw [if_neg (by simp [hrt.1]), inR_at ht hsz]
    obtain ⟨c, h1, h2, h3⟩ := BT.chk_at ht hr hn (by omega) t.root
    rw [h1]
    simp only
    rw [if_neg, if_neg]
    · rw [h2, hs_len, hrt.2]
      omega
    · rw [h3, h2, List.any_eq_true]
      rintro ⟨y, hy, h9⟩
      have hin : y = 0 ∨ y ∈ t.nodes := by
        rcases List.mem_cons.1 hy with rfl | hy
        · exact root_nodes t
        · obtain ⟨e, he, hye⟩ := List.mem_flatMap.1 hy
          obtain ⟨g1, g2⟩ := ents_sides t e he
          rcases List.mem_cons.1 hye with rfl | hye
          · exact g1
          · rcases List.mem_cons.1 hye with rfl | hye
            · exact g2
            · simp at hye
      rcases hin with rfl | hin
      · simp at h9
      · have := nodes_hs t y hin
        simp [this] at h9
end
end Go.Proofs.YtijpmjaeanocpaaGreatDoor

set_option linter.unusedVariables false
set_option linter.unusedSimpArgs false
namespace Go.Proofs.YtijpmjaeanocpaaGreatDoor
open Go.RowKit Go.Shelf
def dropR (R : Nat → Option (List Nat)) (l : List Nat) : Nat → Option (List Nat) := fun y => if y ∈ l then none else R y
theorem dropR_nil (R : Nat → Option (List Nat)) : dropR R [] = R := by funext y; simp [dropR]
theorem dropR_out {R : Nat → Option (List Nat)} {l : List Nat} {y : Nat} (h : y ∉ l) : dropR R l y = R y := if_neg h
theorem dropR_three (R : Nat → Option (List Nat)) (l : List Nat) (a b c : Nat) : updR (updR (updR (dropR R l) b none) c none) a none = dropR R (l ++ [a, b, c]) := by
  funext y
  unfold updR dropR
  simp only [List.mem_append, List.mem_cons, List.not_mem_nil, or_false]
  by_cases e1 : y = a
  · simp [e1]
  · by_cases e2 : y = b
    · simp [e2]
    · by_cases e3 : y = c
      · simp [e3]
      · simp [e1, e2, e3]
theorem Short.drop {R : Nat → Option (List Nat)} (h : Short R) (l : List Nat) : Short (dropR R l) := fun x ws hx => by
  unfold dropR at hx
  split at hx
  · cases hx
  · exact h x ws hx
theorem Short.upd {R : Nat → Option (List Nat)} (h : Short R) (x : Nat) (o : Option (List Nat)) (ho : ∀ ws, o = some ws → ws.length ≤ 200) : Short (updR R x o) := fun y ws hy => by
  unfold updR at hy
  split at hy
  · exact ho ws hy
  · exact h y ws hy
theorem sum_sub {f : Nat → Nat} : ∀ (l H : List Nat), l.Nodup → (∀ x ∈ l, x ∈ H) → (l.map f).sum ≤ (H.map f).sum
  | [], H, _, _ => by simp
  | x :: l, H, hn, hs => by
    rw [List.nodup_cons] at hn
    have hx : x ∈ H := hs x (by simp)
    have h1 := sum_sub (f := f) l (H.erase x) hn.2 (fun y hy => (List.mem_erase_of_ne (fun e => by subst e; exact hn.1 hy)).2 (hs y (by simp [hy])))
    have h2 := ((List.perm_cons_erase hx).map f).sum_nat
    simp only [List.map_cons, List.sum_cons] at h2 ⊢
    omega
section
variable {w w' : World} {s N : Nat} {F : Nat → Prop} {R : Nat → Option (List Nat)} {H : List Nat} {P q most last G n : Nat}
theorem StoreIs.dom (h : StoreIs w s F R H P q most last G) (x : Nat) : x ∈ H ↔ R x ≠ none := by
  obtain ⟨a, ha, t, v, L, mem, sl, Fh, h⟩ := h
  constructor
  · intro hx
    obtain ⟨k, nm⟩ := (h.inH x).1 hx
    obtain ⟨ws, h1, _⟩ := h.link x k nm
    rw [h1]; simp
  · intro hx
    by_cases hm : x ∈ H
    · exact hm
    · exact absurd (h.none' x hm) hx
theorem StoreIs.nodup (h : StoreIs w s F R H P q most last G) : H.Nodup := by
  obtain ⟨a, ha, t, v, L, mem, sl, Fh, h⟩ := h
  exact h.nodup
theorem BT.hs_in : ∀ (t : BT), t.At R → ∀ x ∈ t.hs, R x ≠ none
  | .nil, _, x, hx => by simp [BT.hs] at hx
  | .node h kh vh m k v l r, ht, x, hx => by
    obtain ⟨h1, h2, h3, h4, h5, h6, hl, hr⟩ := ht
    simp only [BT.hs, List.mem_append, List.mem_cons] at hx
    rcases hx with hx | rfl | rfl | rfl | hx
    · exact BT.hs_in l hl x hx
    · rw [h2]; simp
    · rw [h3]; simp
    · rw [h4]; simp
    · exact BT.hs_in r hr x hx
theorem BT.nodes_six : ∀ (t : BT), t.At R → ∀ x ∈ t.nodes, ∃ nd : Nd, R x = some nd.ws
  | .nil, _, x, hx => by simp [BT.nodes] at hx
  | .node h kh vh m k v l r, ht, x, hx => by
    obtain ⟨h1, h2, h3, h4, h5, h6, hl, hr⟩ := ht
    simp only [BT.nodes, List.mem_append, List.mem_cons] at hx
    rcases hx with hx | rfl | hx
    · exact BT.nodes_six l hl x hx
    · exact ⟨_, h2⟩
    · exact BT.nodes_six r hr x hx
theorem BT.nodes_sub : ∀ (t : BT), t.nodes.Sublist t.hs
  | .nil => List.Sublist.refl _
  | .node h kh vh m k v l r => by
    simp only [BT.nodes, BT.hs]
    exact List.Sublist.append (BT.nodes_sub l) ((((BT.nodes_sub r).cons vh).cons kh).cons_cons h)
theorem BT.size_words {t : BT} (ht : t.At R) (hn : t.hs.Nodup) (hd : ∀ x, x ∈ H ↔ R x ≠ none) (hw : WordsR R H P n) : 8 * t.size ≤ n := by
  obtain ⟨p, rfl, _, _, hsum⟩ := hw
  have h1 := sum_sub (f := fun x => ((R x).getD []).length + 2) t.nodes H ((BT.nodes_sub t).nodup hn) (fun x hx => (hd x).2 (BT.hs_in t ht x (BT.nodes_hs t x hx)))
  have h2 : (t.nodes.map fun x => ((R x).getD []).length + 2) = List.replicate t.size 8 := by
    rw [List.eq_replicate_iff]
    refine ⟨by simp [BT.nodes_len], fun b hb => ?_⟩
    obtain ⟨x, hx, rfl⟩ := List.mem_map.1 hb
    obtain ⟨nd, hnd⟩ := BT.nodes_six t ht x hx
    rw [hnd]; rfl
  rw [h2, List.sum_replicate_nat] at h1
  omega
theorem BT.root_lt {t : BT} (ht : t.At R) (h : Rd N w s R n) : t.root < 18446744073709551616 := by
  cases t with
  | nil => exact (by decide : (0 : Nat) < 18446744073709551616)
  | node x kh vh m k v l r => exact (h.u64 ht.2.1).1
end
end Go.Proofs.YtijpmjaeanocpaaGreatDoor
