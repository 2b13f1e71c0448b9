/-
  Of a B-tree one of whose nodes was changed in any way all calls end, and drop no record; Check tells OK only if the keys that List tells rise, as many as Size says (BtreeWrong, its tied card). No condition beyond the statement's own guards of its arguments.
-/
import Derived.Test.YthcmecokejemcaaGreatDoorCards
import Derived.Test.YthcmecokejemcaaGreatDoorTie
import Derived.Test.YthcmecokejemcaaGreatDoorLBtreeWrong
set_option linter.unusedSimpArgs false
set_option linter.unusedVariables false
namespace Go.Proofs.YthcmecokejemcaaGreatDoor.btreeWrong
open Go.ChangeShapes Go.WideShapes Go.ChangeAt Go.WideMaps Go.WideElems Go.RowKit Go.Deep Go.Shelf
open Go.ChangeMaps (open_string shut_string)
theorem walk(W:World)(hT:Tab W)(n0:Int)(p0: -9223372036854775808≤n0∧n0≤9223372036854775807)(A1:Option Addr)(c1:Nat)(l1:List Pr)(p1:ILaw W A1 l1)(n2:Int)(p2: -9223372036854775808≤n2∧n2≤9223372036854775807)(v3:Value)(x3:BN)(p3:BnLaw W v3 x3)(n4:Int)(p4: -9223372036854775808≤n4∧n4≤9223372036854775807)(n5:Int)(p5: -9223372036854775808≤n5∧n5≤9223372036854775807)(s6:ByteArray)(p6:s6.size≤9223372036854775807):
 Calls Tryz.prog 4 #[.int .i64 n0, .slice A1 l1.length c1, .int .i64 n2,v3, .int .i64 n4, .int .i64 n5, .string s6] W (TrueB W):=by
 obtain⟨A1,c1',A2,c2',A3,c3',rfl,e1,e2,e3,e4⟩:=p3
 have hbv: ∀(X:World) (F:Nat→Prop),Below W.heap.size W X→(∀b,F b→W.heap.size≤b)→x3.keys.length≤50∧x3.vals.length≤50∧x3.kids.length≤50→BNV X F _ x3:=fun X F hb hF hl=>BnLaw.bnv ⟨A1,c1',A2,c2',A3,c3',rfl,e1,e2,e3,e4⟩ hb hF hl
 by_cases h1:n0<2
 · exact wrong16_0 hT n0 l1 _ c1 n2 n4 n5 x3 A1 A2 A3 c1' c2' c3' s6 p1 (.inl h1)
 · by_cases h2:4<n0
   · exact wrong16_0 hT n0 l1 _ c1 n2 n4 n5 x3 A1 A2 A3 c1' c2' c3' s6 p1 (.inr (.inl h2))
   · by_cases h3:40<l1.length
     · exact wrong16_0 hT n0 l1 _ c1 n2 n4 n5 x3 A1 A2 A3 c1' c2' c3' s6 p1 (.inr (.inr (.inl h3)))
     · cases h4:longL l1 with
       |true=>exact wrong16_0 hT n0 l1 _ c1 n2 n4 n5 x3 A1 A2 A3 c1' c2' c3' s6 p1 (.inr (.inr (.inr (.inl h4))))
       |false=>
        by_cases h5:1000<s6.size
        · exact wrong16_0 hT n0 l1 _ c1 n2 n4 n5 x3 A1 A2 A3 c1' c2' c3' s6 p1 (.inr (.inr (.inr (.inr (.inl h5)))))
        · by_cases h6:50<x3.keys.length
          · exact wrong16_0 hT n0 l1 _ c1 n2 n4 n5 x3 A1 A2 A3 c1' c2' c3' s6 p1 (.inr (.inr (.inr (.inr (.inr (.inl h6))))))
          · by_cases h7:50<x3.vals.length
            · exact wrong16_0 hT n0 l1 _ c1 n2 n4 n5 x3 A1 A2 A3 c1' c2' c3' s6 p1 (.inr (.inr (.inr (.inr (.inr (.inr (.inl h7)))))))
            · by_cases h8:50<x3.kids.length
              · exact wrong16_0 hT n0 l1 _ c1 n2 n4 n5 x3 A1 A2 A3 c1' c2' c3' s6 p1 (.inr (.inr (.inr (.inr (.inr (.inr (.inr h8)))))))
              · obtain⟨t,rfl⟩:=Int.eq_ofNat_of_zero_le (show 0≤n0 by omega)
                exact wrong16_main hT t (by omega) (by omega) l1 _ c1 n2 n4 n5 x3 A1 A2 A3 c1' c2' c3' s6 p1 (by omega) h4 (by omega) (by omega) (by omega) (by omega) (fun X F hb hF=>hbv X F hb hF ⟨by omega,by omega,by omega⟩) ⟨e1.2.1,e2.2.1,e3.2.1,e4⟩
set_option maxRecDepth 100000 in
theorem lifted(os:Os)(started:os.Started)(H:Type)(enc:TypeId × Value→H):
 ReturnsInHanded {} Tryz.checked os 4 .any (fun w args=>(Rows.btreeWrongSpec.pre enc Tryz.prog Tryz.f4 [] false w args∧laidMetH Tryz.prog laidL w)∧sizedMet enc Tryz.prog Tryz.f4 (OpenSpec.ofChange Rows.btreeWrongSpec) false w args)
  (Rows.btreeWrongSpec.post enc Tryz.prog Tryz.f4 false true false false):=by
 refine returnsInHanded_of_change_and (C:=Tryz.checked) (X:=fun w _=>laidMetH Tryz.prog laidL w) (fun _ _ _ hh h=>h.of_heap hh) own started (by kernel_rfl) Tryz.func4
  (ChangeSpec.witness_shaped (enc:=enc) (C:=Tryz.checked) (os:=os) (X:=fun w _=>laidMetH Tryz.prog laidL w) false (World.doorLaid Tryz.prog 400 os) #[.int .i64 0, .slice none 0 0, .int .i64 0, .agg #[.slice none 0 0, .slice none 0 0, .slice none 0 0, .int .u64 0], .int .i64 0, .int .i64 0, .string ByteArray.empty] 8 rfl (World.shaped_of_RefB (by kernel_rfl) (by kernel_rfl)) (by kernel_rfl) (by kernel_rfl) (by kernel_rfl) (door_met os _)) ?_
 intro W base args ds gs before hval0 hW _ hWt hL _
 have hval: ∀(j:Nat) t v,Tryz.f4.params[j]? =some t→args[j]? =some v→Value.okWide Tryz.prog W .any base t v:=hval0
 have hW' :=hW
 obtain⟨p,q,hA0,hV,rfl,hfz,hnd⟩:=hW
 have hA:DataW.TrodAll enc Tryz.prog W 0 (fun _=>true) true Tryz.f4.params.toList args.toList ds p:=hA0
 rw [Tryz.params4] at hA hval
 obtain⟨v0,vs0,d0,ds0,p0,q0,hargs,rfl,rfl,h0,r0⟩:=trodAll_cons hA
 obtain⟨v1,vs1,d1,ds1,p1,q1,rfl,rfl,rfl,h1,r1⟩:=trodAll_cons r0
 obtain⟨v2,vs2,d2,ds2,p2,q2,rfl,rfl,rfl,h2,r2⟩:=trodAll_cons r1
 obtain⟨v3,vs3,d3,ds3,p3,q3,rfl,rfl,rfl,h3,r3⟩:=trodAll_cons r2
 obtain⟨v4,vs4,d4,ds4,p4,q4,rfl,rfl,rfl,h4,r4⟩:=trodAll_cons r3
 obtain⟨v5,vs5,d5,ds5,p5,q5,rfl,rfl,rfl,h5,r5⟩:=trodAll_cons r4
 obtain⟨v6,vs6,d6,ds6,p6,q6,rfl,rfl,rfl,h6,r6⟩:=trodAll_cons r5
 obtain⟨rfl,rfl,rfl⟩:=trodAll_nil r6
 obtain rfl:args= #[v0,v1,v2,v3,v4,v5,v6]:=by cases args;simp_all
 obtain⟨rfl,rfl⟩:=trodVars_none hV
 obtain⟨l0,rfl,rfl,rfl,w0⟩:=open_int Tryz.underlying3 (hval 0 3 v0 rfl rfl) h0
 obtain⟨A1,m1,c1,rfl⟩:=okWide_slice Tryz.underlying46 (hval 1 46 v1 rfl rfl)
 have k1:=h1
 have lt1: ∀x∈p1,x.block<W.heap.size:=by obtain⟨m,hm⟩:=k1;exact DataW.trod_lt m _ _ _ hm
 obtain⟨l1,rfl,w1⟩: ∃l,m1=l.length∧ILaw W A1 l:=by
  obtain⟨fuel,hf⟩:=h1
  obtain⟨A,len,cap,l,hcs,hlen,hI⟩:=open_prs hf
  simp only [Value.cells,List.cons.injEq,Value.slice.injEq,and_true] at hcs
  obtain⟨rfl,rfl,rfl⟩:=hcs
  exact⟨l,hlen,hI⟩
 obtain⟨l2,rfl,rfl,rfl,w2⟩:=open_int Tryz.underlying3 (hval 2 3 v2 rfl rfl) h2
 have k3:=h3
 have lt3: ∀x∈p3,x.block<W.heap.size:=by obtain⟨m,hm⟩:=k3;exact DataW.trod_lt m _ _ _ hm
 obtain⟨l3,w3⟩:=open_bn (hval 3 48 v3 rfl rfl) h3
 obtain⟨l4,rfl,rfl,rfl,w4⟩:=open_int Tryz.underlying3 (hval 4 3 v4 rfl rfl) h4
 obtain⟨l5,rfl,rfl,rfl,w5⟩:=open_int Tryz.underlying3 (hval 5 3 v5 rfl rfl) h5
 obtain⟨l6,rfl,rfl,rfl,w6⟩:=open_string Tryz.underlying9 (hval 6 9 v6 rfl rfl) h6
 clear hA0 hval0
 refine(walk W (of_laid hL) l0 (int_bound w0) A1 c1 l1 w1 l2 (int_bound w2) v3 l3 w3 l4 (int_bound w4) l5 (int_bound w5) l6 (by unfold maxLen at w6;exact w6)).mono fun e W' ⟨he,hg⟩=> ?_
 subst he
 exact⟨_,rfl,_,_,_,[],_,[],hW',trodAll_mk1 (shut_bool Tryz.underlying4 _),(trodAll_cons_mk (shut_int Tryz.underlying3 w0) (trodAll_cons_mk (Below.trod laidOut (by kernel_rfl) (of_decide_eq_true (by kernel_rfl)) k1 hg lt1) (trodAll_cons_mk (shut_int Tryz.underlying3 w2) (trodAll_cons_mk (Below.trod laidOut (by kernel_rfl) (of_decide_eq_true (by kernel_rfl)) k3 hg lt3) (trodAll_cons_mk (shut_int Tryz.underlying3 w4) (trodAll_cons_mk (shut_int Tryz.underlying3 w5) (trodAll_cons_mk (shut_string Tryz.underlying9 w6) trodAll_mk0))))))),rfl,hg.frame _,fun h=>by cases h⟩
theorem over:Rows.BtreeWrongSaid:=
 OpenClaim.holds_of_wide 4 Tryz.f4 rfl rfl rfl rfl rfl rfl rfl ⟨rfl,rfl,rfl,rfl,rfl⟩ rfl rfl rfl rfl rfl (by kernel_rfl) Tryz.func4 (by kernel_rfl)
  (of_decide_eq_true (by kernel_rfl)) (by unfold Func.isWrapper;first|(rw [if_pos (by decide+kernel)];kernel_rfl)|(rw [if_neg (by decide+kernel)];exact⟨rfl,rfl⟩))
  (fun os started H enc _=>lifted os started H enc)
theorem proved:Rows.BtreeWrongCardSaid:=
 Claim7.holds_tied_plain_at .later [] [.data] true (true, "b922f4aa5544bce0199382da36be9b606b109214fd62079d9227ce5f911580c7") false
  over (fun _ h=>by cases h) (by kernel_rfl) (fun _ h=>by cases h) btreeWrong_row_tie rfl ⟨rfl,rfl⟩ (by kernel_rfl) rfl
  (fun f fn hf hfn=>by
   obtain rfl:f=4:=Option.some.inj ((show Tryz.prog.funcNamed "loft/loftlaw16.BtreeWrong" =some 4 by kernel_rfl).symm.trans hf) |>.symm
   obtain rfl:fn=Tryz.f4:=(Option.some.inj (Tryz.func4.symm.trans hfn)).symm
   exact⟨by kernel_rfl,fun j t ht=>by
    rw [Tryz.params4] at ht
    have hm:t∈ [3,46,3,48,3,3,9]:=by simpa using Array.mem_of_getElem? ht
    have hall:([3,46,3,48,3,3,9].all fun u=> !Tryz.prog.wantsStandIn u)=true:=by kernel_rfl
    exact(show Tryz.prog.wantsStandIn t=false by simpa using List.all_eq_true.1 hall t hm)⟩)
  (by kernel_rfl)
#print axioms proved
end Go.Proofs.YthcmecokejemcaaGreatDoor.btreeWrong
