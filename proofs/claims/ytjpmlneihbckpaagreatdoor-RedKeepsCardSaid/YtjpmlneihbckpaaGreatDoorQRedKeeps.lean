/-
  A red-black join keeps the key and value of each node, makes no record, and of empty trees makes the node, red (RedKeeps, its tied card). No condition beyond the statement's own guards.
-/
import Derived.Test.YtjpmlneihbckpaaGreatDoorCards
import Derived.Test.YtjpmlneihbckpaaGreatDoorTie
import Derived.Test.YtjpmlneihbckpaaGreatDoorLRedKeeps
set_option linter.unusedVariables false
set_option linter.unusedSimpArgs false
namespace Go.Proofs.YtjpmlneihbckpaaGreatDoor.redKeeps
open Go.ChangeShapes Go.WideShapes Go.ChangeAt Go.WideMaps Go.WideElems Go.RowKit Go.Deep Go.Shelf
open Go.ChangeMaps (open_string shut_string)
theorem walk (W : World) (hT : Tab W) (A0 : Option Addr) (c0 : Nat) (l0 : List Pr) (p0 : ILaw W A0 l0) (q0 : l0.length ≤ 4398046510976) (n1 : Int) (p1 : -9223372036854775808 ≤ n1 ∧ n1 ≤ 9223372036854775807) (b2 : Bool) (b3 : Bool) :
    Calls Tryz.prog 8 #[.slice A0 l0.length c0, .int .i64 n1, .bool b2, .bool b3] W (TrueB W) := by
  by_cases g1 : 60 < l0.length
  · exact keeps13_0 hT l0 A0 c0 n1 b2 b3 p0 q0 (.inl g1)
  · cases g3 : longL l0 with
    | true => exact keeps13_0 hT l0 A0 c0 n1 b2 b3 p0 q0 (.inr (.inl ⟨by omega, g3⟩))
    | false =>
      by_cases g4 : (sortedL l0).length = 0
      · exact keeps13_0 hT l0 A0 c0 n1 b2 b3 p0 q0 (.inr (.inr ⟨by omega, g3, g4⟩))
      · exact keeps13_main hT l0 A0 c0 n1 b2 b3 p0 p1 (by omega) g3 g4
set_option maxRecDepth 100000 in
theorem lifted (os : Os) (started : os.Started) (H : Type) (enc : TypeId × Value → H) :
    ReturnsInHanded {} Tryz.checked os 8 .any (fun w args => (Rows.redKeepsSpec.pre enc Tryz.prog Tryz.f8 [] false w args ∧ laidMetH Tryz.prog laidL w) ∧ sizedMet enc Tryz.prog Tryz.f8 (OpenSpec.ofChange Rows.redKeepsSpec) false w args)
      (Rows.redKeepsSpec.post enc Tryz.prog Tryz.f8 false true false false) := by
  refine returnsInHanded_of_change_and (C := Tryz.checked) (X := fun w _ => laidMetH Tryz.prog laidL w) (fun _ _ _ hh h => h.of_heap hh) own started (by kernel_rfl) Tryz.func8
    (ChangeSpec.witness_shaped (enc := enc) (C := Tryz.checked) (os := os) (X := fun w _ => laidMetH Tryz.prog laidL w) false (World.doorLaid Tryz.prog 400 os) #[.slice none 0 0, .int .i64 0, .bool false, .bool false] 8 rfl (World.shaped_of_RefB (by kernel_rfl) (by kernel_rfl)) (by kernel_rfl) (by kernel_rfl) (by kernel_rfl) (door_met os _)) ?_
  intro W base args ds gs before hval0 hW _ hWt hL _
  have hval : ∀ (j : Nat) t v, Tryz.f8.params[j]? = some t → args[j]? = some v → Value.okWide Tryz.prog W .any base t v := hval0
  have hW' := hW
  obtain ⟨p, q, hA0, hV, rfl, hfz, hnd⟩ := hW
  have hA : DataW.TrodAll enc Tryz.prog W 0 (fun _ => true) true Tryz.f8.params.toList args.toList ds p := hA0
  rw [Tryz.params8] at hA hval
  obtain ⟨v0, vs0, d0, ds0, p0, q0, hargs, rfl, rfl, h0, r0⟩ := trodAll_cons hA
  obtain ⟨v1, vs1, d1, ds1, p1, q1, rfl, rfl, rfl, h1, r1⟩ := trodAll_cons r0
  obtain ⟨v2, vs2, d2, ds2, p2, q2, rfl, rfl, rfl, h2, r2⟩ := trodAll_cons r1
  obtain ⟨v3, vs3, d3, ds3, p3, q3, rfl, rfl, rfl, h3, r3⟩ := trodAll_cons r2
  obtain ⟨rfl, rfl, rfl⟩ := trodAll_nil r3
  obtain rfl : args = #[v0, v1, v2, v3] := by cases args; simp_all
  obtain ⟨rfl, rfl⟩ := trodVars_none hV
  obtain ⟨A0, m0, c0, rfl⟩ := okWide_slice Tryz.underlying22 (hval 0 22 v0 rfl rfl)
  have k0 := h0
  have lt0 : ∀ x ∈ p0, x.block < W.heap.size := by obtain ⟨m, hm⟩ := k0; exact DataW.trod_lt m _ _ _ hm
  obtain ⟨l0, rfl, w0⟩ : ∃ l, m0 = l.length ∧ ILaw W A0 l := by
    obtain ⟨fuel, hf⟩ := h0
    obtain ⟨A, len, cap, l, hcs, hlen, hI⟩ := open_prs hf
    simp only [Value.cells, List.cons.injEq, Value.slice.injEq, and_true] at hcs
    obtain ⟨rfl, rfl, rfl⟩ := hcs
    exact ⟨l, hlen, hI⟩
  have sz0 : l0.length ≤ 4398046510976 := by
    obtain ⟨fuel, hf⟩ := k0
    exact prs_bound hWt (j := 0) (by rw [Tryz.params8]; rfl) rfl hf
  obtain ⟨l1, rfl, rfl, rfl, w1⟩ := open_int Tryz.underlying3 (hval 1 3 v1 rfl rfl) h1
  obtain ⟨l2, rfl, rfl, rfl⟩ := open_bool Tryz.underlying4 (hval 2 4 v2 rfl rfl) h2
  obtain ⟨l3, rfl, rfl, rfl⟩ := open_bool Tryz.underlying4 (hval 3 4 v3 rfl rfl) h3
  clear hA0 hval0
  refine (walk W (of_laid hL) A0 c0 l0 w0 sz0 l1 (int_bound w1) l2 l3).mono fun e W' ⟨he, hg⟩ => ?_
  subst he
  exact ⟨_, rfl, _, _, _, [], _, [], hW', trodAll_mk1 (shut_bool Tryz.underlying4 _), (trodAll_cons_mk (Below.trod laidOut (by kernel_rfl) (of_decide_eq_true (by kernel_rfl)) k0 hg lt0) (trodAll_cons_mk (shut_int Tryz.underlying3 w1) (trodAll_cons_mk (shut_bool Tryz.underlying4 _) (trodAll_cons_mk (shut_bool Tryz.underlying4 _) trodAll_mk0)))), rfl, hg.frame _, fun h => by cases h⟩
theorem over : Rows.RedKeepsSaid :=
  OpenClaim.holds_of_wide 8 Tryz.f8 rfl rfl rfl rfl rfl rfl rfl ⟨rfl, rfl, rfl, rfl, rfl⟩ rfl rfl rfl rfl rfl (by kernel_rfl) Tryz.func8 (by kernel_rfl)
    (of_decide_eq_true (by kernel_rfl)) (by unfold Func.isWrapper; first | (rw [if_pos (by decide +kernel)]; kernel_rfl) | (rw [if_neg (by decide +kernel)]; exact ⟨rfl, rfl⟩))
    (fun os started H enc _ => lifted os started H enc)
theorem proved : Rows.RedKeepsCardSaid :=
  Claim7.holds_tied_plain_at .later [] [.data] true (true, "54b33ba7d54cea6ce5369e71a913d9a89789ade397b53c5249c54c8385e66231") false
    over (fun _ h => by cases h) (by kernel_rfl) (fun _ h => by cases h) redKeeps_row_tie rfl ⟨rfl, rfl⟩ (by kernel_rfl) rfl
    (fun f fn hf hfn => by
      obtain rfl : f = 8 := Option.some.inj ((show Tryz.prog.funcNamed "loft/loftlaw13.RedKeeps" = some 8 by kernel_rfl).symm.trans hf) |>.symm
      obtain rfl : fn = Tryz.f8 := (Option.some.inj (Tryz.func8.symm.trans hfn)).symm
      exact ⟨by kernel_rfl, fun j t ht => by
        rw [Tryz.params8] at ht
        have hm : t ∈ [22, 3, 4, 4] := by simpa using Array.mem_of_getElem? ht
        have hall : ([22, 3, 4, 4].all fun u => !Tryz.prog.wantsStandIn u) = true := by kernel_rfl
        exact (show Tryz.prog.wantsStandIn t = false by simpa using List.all_eq_true.1 hall t hm)⟩)
    (by kernel_rfl)
#print axioms proved
end Go.Proofs.YtjpmlneihbckpaaGreatDoor.redKeeps
