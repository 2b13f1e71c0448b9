/-
  In whatever order pairs come, a B-tree of any degree has the same ones, and Nodes tells the root first (BtreeOrder, its tied card). No condition beyond the statement's own guard of its arguments.
-/
import Derived.Test.YtjcpclcmnhpgpaaGreatDoorCards
import Derived.Test.YtjcpclcmnhpgpaaGreatDoorTie
import Derived.Test.YtjcpclcmnhpgpaaGreatDoorLBtreeOrder
set_option linter.unusedSimpArgs false
set_option linter.unusedVariables false
namespace Go.Proofs.YtjcpclcmnhpgpaaGreatDoor.btreeOrder
open Go.ChangeShapes Go.WideShapes Go.ChangeAt Go.WideMaps Go.WideElems Go.RowKit Go.Deep Go.Shelf
open Go.ChangeMaps (open_string shut_string)
theorem walk(W:World)(hT:Tab W)(n0:Int)(p0: -9223372036854775808≤n0∧n0≤9223372036854775807)(A1:Option Addr)(c1:Nat)(l1:List Pr)(p1:ILaw W A1 l1)(A2:Option Addr)(c2:Nat)(z2:List Int)(p2:IInts W A2 z2)(q2:z2.length≤17592186043904):
 Calls Tryz.prog 4 #[.int .i64 n0, .slice A1 l1.length c1, .slice A2 z2.length c2] W (TrueB W):=by
 by_cases h1:n0<2
 · exact order16_0 hT n0 l1 A1 c1 z2 A2 c2 p1 q2 (.inl h1)
 · by_cases h2:16<n0
   · exact order16_0 hT n0 l1 A1 c1 z2 A2 c2 p1 q2 (.inr (.inl h2))
   · by_cases h3:80<l1.length
     · exact order16_0 hT n0 l1 A1 c1 z2 A2 c2 p1 q2 (.inr (.inr (.inl h3)))
     · cases h4:longL l1 with
       |true=>exact order16_0 hT n0 l1 A1 c1 z2 A2 c2 p1 q2 (.inr (.inr (.inr (.inl h4))))
       |false=>
        by_cases h5:200<z2.length
        · exact order16_0 hT n0 l1 A1 c1 z2 A2 c2 p1 q2 (.inr (.inr (.inr (.inr h5))))
        · obtain⟨t,rfl⟩:=Int.eq_ofNat_of_zero_le (show 0≤n0 by omega)
          exact order16_main hT t ⟨by omega,by omega⟩ l1 A1 c1 z2 A2 c2 p1 p2 (by omega) h4 (by omega)
set_option maxRecDepth 100000 in
theorem lifted(os:Os)(started:os.Started)(H:Type)(enc:TypeId × Value→H):
 ReturnsInHanded {} Tryz.checked os 4 .any (fun w args=>(Rows.btreeOrderSpec.pre enc Tryz.prog Tryz.f4 [] false w args∧laidMetH Tryz.prog laidL w)∧sizedMet enc Tryz.prog Tryz.f4 (OpenSpec.ofChange Rows.btreeOrderSpec) false w args)
  (Rows.btreeOrderSpec.post enc Tryz.prog Tryz.f4 false true false false):=by
 refine returnsInHanded_of_change_and (C:=Tryz.checked) (X:=fun w _=>laidMetH Tryz.prog laidL w) (fun _ _ _ hh h=>h.of_heap hh) own started (by kernel_rfl) Tryz.func4
  (ChangeSpec.witness_shaped (enc:=enc) (C:=Tryz.checked) (os:=os) (X:=fun w _=>laidMetH Tryz.prog laidL w) false (World.doorLaid Tryz.prog 400 os) #[.int .i64 0, .slice none 0 0, .slice none 0 0] 8 rfl (World.shaped_of_RefB (by kernel_rfl) (by kernel_rfl)) (by kernel_rfl) (by kernel_rfl) (by kernel_rfl) (door_met os _)) ?_
 intro W base args ds gs before hval0 hW _ hWt hL _
 have hval: ∀(j:Nat) t v,Tryz.f4.params[j]? =some t→args[j]? =some v→Value.okWide Tryz.prog W .any base t v:=hval0
 have hW' :=hW
 obtain⟨p,q,hA0,hV,rfl,hfz,hnd⟩:=hW
 have hA:DataW.TrodAll enc Tryz.prog W 0 (fun _=>true) true Tryz.f4.params.toList args.toList ds p:=hA0
 rw [Tryz.params4] at hA hval
 obtain⟨v0,vs0,d0,ds0,p0,q0,hargs,rfl,rfl,h0,r0⟩:=trodAll_cons hA
 obtain⟨v1,vs1,d1,ds1,p1,q1,rfl,rfl,rfl,h1,r1⟩:=trodAll_cons r0
 obtain⟨v2,vs2,d2,ds2,p2,q2,rfl,rfl,rfl,h2,r2⟩:=trodAll_cons r1
 obtain⟨rfl,rfl,rfl⟩:=trodAll_nil r2
 obtain rfl:args= #[v0,v1,v2]:=by cases args;simp_all
 obtain⟨rfl,rfl⟩:=trodVars_none hV
 obtain⟨l0,rfl,rfl,rfl,w0⟩:=open_int Tryz.underlying3 (hval 0 3 v0 rfl rfl) h0
 obtain⟨A1,m1,c1,rfl⟩:=okWide_slice Tryz.underlying22 (hval 1 22 v1 rfl rfl)
 have k1:=h1
 have lt1: ∀x∈p1,x.block<W.heap.size:=by obtain⟨m,hm⟩:=k1;exact DataW.trod_lt m _ _ _ hm
 obtain⟨l1,rfl,w1⟩: ∃l,m1=l.length∧ILaw W A1 l:=by
  obtain⟨fuel,hf⟩:=h1
  obtain⟨A,len,cap,l,hcs,hlen,hI⟩:=open_prs hf
  simp only [Value.cells,List.cons.injEq,Value.slice.injEq,and_true] at hcs
  obtain⟨rfl,rfl,rfl⟩:=hcs
  exact⟨l,hlen,hI⟩
 obtain⟨A2,m2,c2,rfl⟩:=okWide_slice Tryz.underlying49 (hval 2 49 v2 rfl rfl)
 have k2:=h2
 have lt2: ∀x∈p2,x.block<W.heap.size:=by obtain⟨m,hm⟩:=k2;exact DataW.trod_lt m _ _ _ hm
 obtain⟨l2,rfl,w2⟩: ∃l,m2=l.length∧IInts W A2 l:=by
  obtain⟨fuel,hf⟩:=h2
  obtain⟨A,len,cap,l,hcs,hlen,hI⟩:=open_zs hf
  simp only [Value.cells,List.cons.injEq,Value.slice.injEq,and_true] at hcs
  obtain⟨rfl,rfl,rfl⟩:=hcs
  exact⟨l,hlen,hI⟩
 have sz2:l2.length≤17592186043904:=by
  obtain⟨fuel,hf⟩:=k2
  exact ints_bound hWt (j:=2) (by rw [Tryz.params4];rfl) rfl hf
 clear hA0 hval0
 refine(walk W (of_laid hL) l0 (int_bound w0) A1 c1 l1 w1 A2 c2 l2 w2 sz2).mono fun e W' ⟨he,hg⟩=> ?_
 subst he
 exact⟨_,rfl,_,_,_,[],_,[],hW',trodAll_mk1 (shut_bool Tryz.underlying4 _),(trodAll_cons_mk (shut_int Tryz.underlying3 w0) (trodAll_cons_mk (Below.trod laidOut (by kernel_rfl) (of_decide_eq_true (by kernel_rfl)) k1 hg lt1) (trodAll_cons_mk (Below.trod laidOut (by kernel_rfl) (of_decide_eq_true (by kernel_rfl)) k2 hg lt2) trodAll_mk0))),rfl,hg.frame _,fun h=>by cases h⟩
theorem over:Rows.BtreeOrderSaid:=
 OpenClaim.holds_of_wide 4 Tryz.f4 rfl rfl rfl rfl rfl rfl rfl ⟨rfl,rfl,rfl,rfl,rfl⟩ rfl rfl rfl rfl rfl (by kernel_rfl) Tryz.func4 (by kernel_rfl)
  (of_decide_eq_true (by kernel_rfl)) (by unfold Func.isWrapper;first|(rw [if_pos (by decide+kernel)];kernel_rfl)|(rw [if_neg (by decide+kernel)];exact⟨rfl,rfl⟩))
  (fun os started H enc _=>lifted os started H enc)
theorem proved:Rows.BtreeOrderCardSaid:=
 Claim7.holds_tied_plain_at .later [] [.data] true (true, "da49a8503cbf3fe1f53c6b998670c03f8610d52097f9eb1f01dc2bc0484fdb78") false
  over (fun _ h=>by cases h) (by kernel_rfl) (fun _ h=>by cases h) btreeOrder_row_tie rfl ⟨rfl,rfl⟩ (by kernel_rfl) rfl
  (fun f fn hf hfn=>by
   obtain rfl:f=4:=Option.some.inj ((show Tryz.prog.funcNamed "loft/loftlaw16.BtreeOrder" =some 4 by kernel_rfl).symm.trans hf) |>.symm
   obtain rfl:fn=Tryz.f4:=(Option.some.inj (Tryz.func4.symm.trans hfn)).symm
   exact⟨by kernel_rfl,fun j t ht=>by
    rw [Tryz.params4] at ht
    have hm:t∈ [3,22,49]:=by simpa using Array.mem_of_getElem? ht
    have hall:([3,22,49].all fun u=> !Tryz.prog.wantsStandIn u)=true:=by kernel_rfl
    exact(show Tryz.prog.wantsStandIn t=false by simpa using List.all_eq_true.1 hall t hm)⟩)
  (by kernel_rfl)
#print axioms proved
end Go.Proofs.YtjcpclcmnhpgpaaGreatDoor.btreeOrder
