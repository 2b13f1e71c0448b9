/-
  A B-tree of any degree, in which any pairs are put one by one, in a store of any room, has just those that were taken, is right at all times, not higher than there may be, and one that is refused leaves it, and its store's records, as they were (BtreeInserts, its tied card). No condition beyond the statement's own guard of its arguments.
-/
import Derived.Test.YtjcpclcmnhpgpaaGreatDoorCards
import Derived.Test.YtjcpclcmnhpgpaaGreatDoorTie
import Derived.Test.YtjcpclcmnhpgpaaGreatDoorLBtreeInserts
set_option linter.unusedSimpArgs false
set_option linter.unusedVariables false
namespace Go.Proofs.YtjcpclcmnhpgpaaGreatDoor.btreeInserts
open Go.ChangeShapes Go.WideShapes Go.ChangeAt Go.WideMaps Go.WideElems Go.RowKit Go.Deep Go.Shelf
open Go.ChangeMaps (open_string shut_string)
theorem walk(W:World)(hT:Tab W)(n0:Int)(p0: -9223372036854775808≤n0∧n0≤9223372036854775807)(n1:Int)(p1: -9223372036854775808≤n1∧n1≤9223372036854775807)(n2:Int)(p2: -9223372036854775808≤n2∧n2≤9223372036854775807)(A3:Option Addr)(c3:Nat)(l3:List Pr)(p3:ILaw W A3 l3):
 Calls Tryz.prog 5 #[.int .i64 n0, .int .i64 n1, .int .i64 n2, .slice A3 l3.length c3] W (TrueB W):=by
 by_cases h1:n0<2
 · exact inserts16_0 hT n0 n1 n2 l3 A3 c3 p3 (.inl h1)
 · by_cases h2:16<n0
   · exact inserts16_0 hT n0 n1 n2 l3 A3 c3 p3 (.inr (.inl h2))
   · by_cases h3:n1<0
     · exact inserts16_0 hT n0 n1 n2 l3 A3 c3 p3 (.inr (.inr (.inl h3)))
     · by_cases h4:40000<n1
       · exact inserts16_0 hT n0 n1 n2 l3 A3 c3 p3 (.inr (.inr (.inr (.inl h4))))
       · by_cases h5:n2<1
         · exact inserts16_0 hT n0 n1 n2 l3 A3 c3 p3 (.inr (.inr (.inr (.inr (.inl h5)))))
         · by_cases h6:1000<n2
           · exact inserts16_0 hT n0 n1 n2 l3 A3 c3 p3 (.inr (.inr (.inr (.inr (.inr (.inl h6))))))
           · by_cases h7:100<l3.length
             · exact inserts16_0 hT n0 n1 n2 l3 A3 c3 p3 (.inr (.inr (.inr (.inr (.inr (.inr (.inl h7)))))))
             · cases h8:longL l3 with
               |true=>exact inserts16_0 hT n0 n1 n2 l3 A3 c3 p3 (.inr (.inr (.inr (.inr (.inr (.inr (.inr h8)))))))
               |false=>
                obtain⟨t,rfl⟩:=Int.eq_ofNat_of_zero_le (show 0≤n0 by omega)
                obtain⟨q,rfl⟩:=Int.eq_ofNat_of_zero_le (show 0≤n1 by omega)
                obtain⟨sl,rfl⟩:=Int.eq_ofNat_of_zero_le (show 0≤n2 by omega)
                exact inserts16_main hT t ⟨by omega,by omega⟩ q sl (by omega) (by omega) (by omega) l3 A3 c3 p3 (by omega) h8
set_option maxRecDepth 100000 in
theorem lifted(os:Os)(started:os.Started)(H:Type)(enc:TypeId × Value→H):
 ReturnsInHanded {} Tryz.checked os 5 .any (fun w args=>(Rows.btreeInsertsSpec.pre enc Tryz.prog Tryz.f5 [] false w args∧laidMetH Tryz.prog laidL w)∧sizedMet enc Tryz.prog Tryz.f5 (OpenSpec.ofChange Rows.btreeInsertsSpec) false w args)
  (Rows.btreeInsertsSpec.post enc Tryz.prog Tryz.f5 false true false false):=by
 refine returnsInHanded_of_change_and (C:=Tryz.checked) (X:=fun w _=>laidMetH Tryz.prog laidL w) (fun _ _ _ hh h=>h.of_heap hh) own started (by kernel_rfl) Tryz.func5
  (ChangeSpec.witness_shaped (enc:=enc) (C:=Tryz.checked) (os:=os) (X:=fun w _=>laidMetH Tryz.prog laidL w) false (World.doorLaid Tryz.prog 400 os) #[.int .i64 0, .int .i64 0, .int .i64 0, .slice none 0 0] 8 rfl (World.shaped_of_RefB (by kernel_rfl) (by kernel_rfl)) (by kernel_rfl) (by kernel_rfl) (by kernel_rfl) (door_met os _)) ?_
 intro W base args ds gs before hval0 hW _ hWt hL _
 have hval: ∀(j:Nat) t v,Tryz.f5.params[j]? =some t→args[j]? =some v→Value.okWide Tryz.prog W .any base t v:=hval0
 have hW' :=hW
 obtain⟨p,q,hA0,hV,rfl,hfz,hnd⟩:=hW
 have hA:DataW.TrodAll enc Tryz.prog W 0 (fun _=>true) true Tryz.f5.params.toList args.toList ds p:=hA0
 rw [Tryz.params5] at hA hval
 obtain⟨v0,vs0,d0,ds0,p0,q0,hargs,rfl,rfl,h0,r0⟩:=trodAll_cons hA
 obtain⟨v1,vs1,d1,ds1,p1,q1,rfl,rfl,rfl,h1,r1⟩:=trodAll_cons r0
 obtain⟨v2,vs2,d2,ds2,p2,q2,rfl,rfl,rfl,h2,r2⟩:=trodAll_cons r1
 obtain⟨v3,vs3,d3,ds3,p3,q3,rfl,rfl,rfl,h3,r3⟩:=trodAll_cons r2
 obtain⟨rfl,rfl,rfl⟩:=trodAll_nil r3
 obtain rfl:args= #[v0,v1,v2,v3]:=by cases args;simp_all
 obtain⟨rfl,rfl⟩:=trodVars_none hV
 obtain⟨l0,rfl,rfl,rfl,w0⟩:=open_int Tryz.underlying3 (hval 0 3 v0 rfl rfl) h0
 obtain⟨l1,rfl,rfl,rfl,w1⟩:=open_int Tryz.underlying3 (hval 1 3 v1 rfl rfl) h1
 obtain⟨l2,rfl,rfl,rfl,w2⟩:=open_int Tryz.underlying3 (hval 2 3 v2 rfl rfl) h2
 obtain⟨A3,m3,c3,rfl⟩:=okWide_slice Tryz.underlying22 (hval 3 22 v3 rfl rfl)
 have k3:=h3
 have lt3: ∀x∈p3,x.block<W.heap.size:=by obtain⟨m,hm⟩:=k3;exact DataW.trod_lt m _ _ _ hm
 obtain⟨l3,rfl,w3⟩: ∃l,m3=l.length∧ILaw W A3 l:=by
  obtain⟨fuel,hf⟩:=h3
  obtain⟨A,len,cap,l,hcs,hlen,hI⟩:=open_prs hf
  simp only [Value.cells,List.cons.injEq,Value.slice.injEq,and_true] at hcs
  obtain⟨rfl,rfl,rfl⟩:=hcs
  exact⟨l,hlen,hI⟩
 clear hA0 hval0
 refine(walk W (of_laid hL) l0 (int_bound w0) l1 (int_bound w1) l2 (int_bound w2) A3 c3 l3 w3).mono fun e W' ⟨he,hg⟩=> ?_
 subst he
 exact⟨_,rfl,_,_,_,[],_,[],hW',trodAll_mk1 (shut_bool Tryz.underlying4 _),(trodAll_cons_mk (shut_int Tryz.underlying3 w0) (trodAll_cons_mk (shut_int Tryz.underlying3 w1) (trodAll_cons_mk (shut_int Tryz.underlying3 w2) (trodAll_cons_mk (Below.trod laidOut (by kernel_rfl) (of_decide_eq_true (by kernel_rfl)) k3 hg lt3) trodAll_mk0)))),rfl,hg.frame _,fun h=>by cases h⟩
theorem over:Rows.BtreeInsertsSaid:=
 OpenClaim.holds_of_wide 5 Tryz.f5 rfl rfl rfl rfl rfl rfl rfl ⟨rfl,rfl,rfl,rfl,rfl⟩ rfl rfl rfl rfl rfl (by kernel_rfl) Tryz.func5 (by kernel_rfl)
  (of_decide_eq_true (by kernel_rfl)) (by unfold Func.isWrapper;first|(rw [if_pos (by decide+kernel)];kernel_rfl)|(rw [if_neg (by decide+kernel)];exact⟨rfl,rfl⟩))
  (fun os started H enc _=>lifted os started H enc)
theorem proved:Rows.BtreeInsertsCardSaid:=
 Claim7.holds_tied_plain_at .later [] [.data] true (true, "da49a8503cbf3fe1f53c6b998670c03f8610d52097f9eb1f01dc2bc0484fdb78") false
  over (fun _ h=>by cases h) (by kernel_rfl) (fun _ h=>by cases h) btreeInserts_row_tie rfl ⟨rfl,rfl⟩ (by kernel_rfl) rfl
  (fun f fn hf hfn=>by
   obtain rfl:f=5:=Option.some.inj ((show Tryz.prog.funcNamed "loft/loftlaw16.BtreeInserts" =some 5 by kernel_rfl).symm.trans hf) |>.symm
   obtain rfl:fn=Tryz.f5:=(Option.some.inj (Tryz.func5.symm.trans hfn)).symm
   exact⟨by kernel_rfl,fun j t ht=>by
    rw [Tryz.params5] at ht
    have hm:t∈ [3,3,3,22]:=by simpa using Array.mem_of_getElem? ht
    have hall:([3,3,3,22].all fun u=> !Tryz.prog.wantsStandIn u)=true:=by kernel_rfl
    exact(show Tryz.prog.wantsStandIn t=false by simpa using List.all_eq_true.1 hall t hm)⟩)
  (by kernel_rfl)
#print axioms proved
end Go.Proofs.YtjcpclcmnhpgpaaGreatDoor.btreeInserts
