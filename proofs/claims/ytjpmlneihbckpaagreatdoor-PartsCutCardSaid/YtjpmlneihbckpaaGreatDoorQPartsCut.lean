/-
  A tree of either kind that is cut at two keys and joined again, in either order, is what it was (PartsCut, its tied card). No condition beyond the statement's own guard of its argument.
-/
import Derived.Test.YtjpmlneihbckpaaGreatDoorCards
import Derived.Test.YtjpmlneihbckpaaGreatDoorTie
import Derived.Test.YtjpmlneihbckpaaGreatDoorLPartsCut
set_option linter.unusedVariables false
set_option linter.unusedSimpArgs false
namespace Go.Proofs.YtjpmlneihbckpaaGreatDoor.partsCut
open Go.ChangeShapes Go.WideShapes Go.ChangeAt Go.WideMaps Go.WideElems Go.RowKit Go.Deep Go.Shelf
open Go.ChangeMaps (open_string shut_string)
theorem walk (W : World) (hT : Tab W) (n0 : Int) (p0 : -9223372036854775808 ≤ n0 ∧ n0 ≤ 9223372036854775807) (A1 : Option Addr) (c1 : Nat) (l1 : List Pr) (p1 : ILaw W A1 l1) (s2 : ByteArray) (p2 : s2.size ≤ 9223372036854775807) (s3 : ByteArray) (p3 : s3.size ≤ 9223372036854775807) (b4 : Bool) :
    Calls Tryz.prog 12 #[.int .i64 n0, .slice A1 l1.length c1, .string s2, .string s3, .bool b4] W (TrueB W) := by
  by_cases h1 : n0 < 1
  · exact cut14_0 hT n0 l1 A1 c1 s2 s3 b4 p1 p2 p3 (.inl h1)
  · by_cases h2 : 2 < n0
    · exact cut14_0 hT n0 l1 A1 c1 s2 s3 b4 p1 p2 p3 (.inr (.inl h2))
    · by_cases g1 : 60 < l1.length
      · exact cut14_0 hT n0 l1 A1 c1 s2 s3 b4 p1 p2 p3 (.inr (.inr (.inl g1)))
      · cases g3 : longL l1 with
        | true => exact cut14_0 hT n0 l1 A1 c1 s2 s3 b4 p1 p2 p3 (.inr (.inr (.inr (.inl g3))))
        | false =>
          by_cases g4 : 1000 < s2.size
          · exact cut14_0 hT n0 l1 A1 c1 s2 s3 b4 p1 p2 p3 (.inr (.inr (.inr (.inr (.inl g4)))))
          · by_cases g5 : 1000 < s3.size
            · exact cut14_0 hT n0 l1 A1 c1 s2 s3 b4 p1 p2 p3 (.inr (.inr (.inr (.inr (.inr (.inl g5))))))
            · cases g6 : Op.bytesLess s2.toList s3.toList with
              | false => exact cut14_0 hT n0 l1 A1 c1 s2 s3 b4 p1 p2 p3 (.inr (.inr (.inr (.inr (.inr (.inr g6))))))
              | true =>
                obtain ⟨rd, rfl⟩ := kind_of h1 h2
                have g7 := str_less s2 s3
                rw [g6] at g7
                exact cut14_main hT rd l1 A1 c1 s2 s3 b4 p1 (by omega) g3 (by omega) (by omega) g6 (of_decide_eq_true g7.symm)
set_option maxRecDepth 100000 in
theorem lifted (os : Os) (started : os.Started) (H : Type) (enc : TypeId × Value → H) :
    ReturnsInHanded {} Tryz.checked os 12 .any (fun w args => (Rows.partsCutSpec.pre enc Tryz.prog Tryz.f12 [] false w args ∧ laidMetH Tryz.prog laidL w) ∧ sizedMet enc Tryz.prog Tryz.f12 (OpenSpec.ofChange Rows.partsCutSpec) false w args)
      (Rows.partsCutSpec.post enc Tryz.prog Tryz.f12 false true false false) := by
  refine returnsInHanded_of_change_and (C := Tryz.checked) (X := fun w _ => laidMetH Tryz.prog laidL w) (fun _ _ _ hh h => h.of_heap hh) own started (by kernel_rfl) Tryz.func12
    (ChangeSpec.witness_shaped (enc := enc) (C := Tryz.checked) (os := os) (X := fun w _ => laidMetH Tryz.prog laidL w) false (World.doorLaid Tryz.prog 400 os) #[.int .i64 0, .slice none 0 0, .string ByteArray.empty, .string ByteArray.empty, .bool false] 8 rfl (World.shaped_of_RefB (by kernel_rfl) (by kernel_rfl)) (by kernel_rfl) (by kernel_rfl) (by kernel_rfl) (door_met os _)) ?_
  intro W base args ds gs before hval0 hW _ hWt hL _
  have hval : ∀ (j : Nat) t v, Tryz.f12.params[j]? = some t → args[j]? = some v → Value.okWide Tryz.prog W .any base t v := hval0
  have hW' := hW
  obtain ⟨p, q, hA0, hV, rfl, hfz, hnd⟩ := hW
  have hA : DataW.TrodAll enc Tryz.prog W 0 (fun _ => true) true Tryz.f12.params.toList args.toList ds p := hA0
  rw [Tryz.params12] at hA hval
  obtain ⟨v0, vs0, d0, ds0, p0, q0, hargs, rfl, rfl, h0, r0⟩ := trodAll_cons hA
  obtain ⟨v1, vs1, d1, ds1, p1, q1, rfl, rfl, rfl, h1, r1⟩ := trodAll_cons r0
  obtain ⟨v2, vs2, d2, ds2, p2, q2, rfl, rfl, rfl, h2, r2⟩ := trodAll_cons r1
  obtain ⟨v3, vs3, d3, ds3, p3, q3, rfl, rfl, rfl, h3, r3⟩ := trodAll_cons r2
  obtain ⟨v4, vs4, d4, ds4, p4, q4, rfl, rfl, rfl, h4, r4⟩ := trodAll_cons r3
  obtain ⟨rfl, rfl, rfl⟩ := trodAll_nil r4
  obtain rfl : args = #[v0, v1, v2, v3, v4] := by cases args; simp_all
  obtain ⟨rfl, rfl⟩ := trodVars_none hV
  obtain ⟨l0, rfl, rfl, rfl, w0⟩ := open_int Tryz.underlying3 (hval 0 3 v0 rfl rfl) h0
  obtain ⟨A1, m1, c1, rfl⟩ := okWide_slice Tryz.underlying22 (hval 1 22 v1 rfl rfl)
  have k1 := h1
  have lt1 : ∀ x ∈ p1, x.block < W.heap.size := by obtain ⟨m, hm⟩ := k1; exact DataW.trod_lt m _ _ _ hm
  obtain ⟨l1, rfl, w1⟩ : ∃ l, m1 = l.length ∧ ILaw W A1 l := by
    obtain ⟨fuel, hf⟩ := h1
    obtain ⟨A, len, cap, l, hcs, hlen, hI⟩ := open_prs hf
    simp only [Value.cells, List.cons.injEq, Value.slice.injEq, and_true] at hcs
    obtain ⟨rfl, rfl, rfl⟩ := hcs
    exact ⟨l, hlen, hI⟩
  obtain ⟨l2, rfl, rfl, rfl, w2⟩ := open_string Tryz.underlying9 (hval 2 9 v2 rfl rfl) h2
  obtain ⟨l3, rfl, rfl, rfl, w3⟩ := open_string Tryz.underlying9 (hval 3 9 v3 rfl rfl) h3
  obtain ⟨l4, rfl, rfl, rfl⟩ := open_bool Tryz.underlying4 (hval 4 4 v4 rfl rfl) h4
  clear hA0 hval0
  refine (walk W (of_laid hL) l0 (int_bound w0) A1 c1 l1 w1 l2 (by unfold maxLen at w2; exact w2) l3 (by unfold maxLen at w3; exact w3) l4).mono fun e W' ⟨he, hg⟩ => ?_
  subst he
  exact ⟨_, rfl, _, _, _, [], _, [], hW', trodAll_mk1 (shut_bool Tryz.underlying4 _), (trodAll_cons_mk (shut_int Tryz.underlying3 w0) (trodAll_cons_mk (Below.trod laidOut (by kernel_rfl) (of_decide_eq_true (by kernel_rfl)) k1 hg lt1) (trodAll_cons_mk (shut_string Tryz.underlying9 w2) (trodAll_cons_mk (shut_string Tryz.underlying9 w3) (trodAll_cons_mk (shut_bool Tryz.underlying4 _) trodAll_mk0))))), rfl, hg.frame _, fun h => by cases h⟩
theorem over : Rows.PartsCutSaid :=
  OpenClaim.holds_of_wide 12 Tryz.f12 rfl rfl rfl rfl rfl rfl rfl ⟨rfl, rfl, rfl, rfl, rfl⟩ rfl rfl rfl rfl rfl (by kernel_rfl) Tryz.func12 (by kernel_rfl)
    (of_decide_eq_true (by kernel_rfl)) (by unfold Func.isWrapper; first | (rw [if_pos (by decide +kernel)]; kernel_rfl) | (rw [if_neg (by decide +kernel)]; exact ⟨rfl, rfl⟩))
    (fun os started H enc _ => lifted os started H enc)
theorem proved : Rows.PartsCutCardSaid :=
  Claim7.holds_tied_plain_at .later [] [.data] true (true, "54b33ba7d54cea6ce5369e71a913d9a89789ade397b53c5249c54c8385e66231") false
    over (fun _ h => by cases h) (by kernel_rfl) (fun _ h => by cases h) partsCut_row_tie rfl ⟨rfl, rfl⟩ (by kernel_rfl) rfl
    (fun f fn hf hfn => by
      obtain rfl : f = 12 := Option.some.inj ((show Tryz.prog.funcNamed "loft/loftlaw14.PartsCut" = some 12 by kernel_rfl).symm.trans hf) |>.symm
      obtain rfl : fn = Tryz.f12 := (Option.some.inj (Tryz.func12.symm.trans hfn)).symm
      exact ⟨by kernel_rfl, fun j t ht => by
        rw [Tryz.params12] at ht
        have hm : t ∈ [3, 22, 9, 9, 4] := by simpa using Array.mem_of_getElem? ht
        have hall : ([3, 22, 9, 9, 4].all fun u => !Tryz.prog.wantsStandIn u) = true := by kernel_rfl
        exact (show Tryz.prog.wantsStandIn t = false by simpa using List.all_eq_true.1 hall t hm)⟩)
    (by kernel_rfl)
#print axioms proved
end Go.Proofs.YtjpmlneihbckpaaGreatDoor.partsCut
