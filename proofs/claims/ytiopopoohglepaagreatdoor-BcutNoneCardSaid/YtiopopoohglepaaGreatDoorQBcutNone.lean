/-
  Without a store, a degree, or with a key that is too long nothing is deleted
-/
import Derived.Test.YtiopopoohglepaaGreatDoorCards
import Derived.Test.YtiopopoohglepaaGreatDoorTie
import Derived.Test.YtiopopoohglepaaGreatDoorLBcutNone
set_option linter.all false
set_option maxRecDepth 100000
namespace Go.Proofs.YtiopopoohglepaaGreatDoor.Xm
open Go.Proofs.Tryz
open Go.ChangeShapes Go.WideShapes Go.ChangeAt Go.WideMaps Go.WideElems Go.RowKit Go.Deep Go.Shelf
open Go.ChangeMaps (open_string shut_string)
theorem walk(W:World)(I:Ix W)(n0:Int)(O: -9223372036854775808<=n0/\n0<=9223372036854775807)(n1:Int)(J:0<=n1/\n1<=18446744073709551615):
 Calls prog 3 #[.int .i64 n0, .int .u64 n1] W (ID W):=by
 obtain⟨x,rfl⟩:=Int.eq_ofNat_of_zero_le J.1;exact Q2 I n0 x (by omega)
theorem lifted(os:Os)(started:os.Started)(H:Type)(enc:TypeId × Value->H):
 ReturnsInHanded {} Tryz.checked os 3 .any (λw args=>(Rows.bcutNoneSpec.pre enc prog f3 [] false w args/\laidMetH prog GD w)/\sizedMet enc prog f3 (OpenSpec.ofChange Rows.bcutNoneSpec) false w args)
  (Rows.bcutNoneSpec.post enc prog f3 false true false false):=by
 refine returnsInHanded_of_change_and (C:=Tryz.checked) (X:=λw _=>laidMetH prog GD w) (λ_ _ _ hh h=>h.of_heap hh) own started (by kernel_rfl) func3
  (ChangeSpec.witness_shaped (enc:=enc) (C:=Tryz.checked) (os:=os) (X:=λw _=>laidMetH prog GD w) false (World.doorLaid prog 400 os) #[.int .i64 0, .int .u64 0] 8 rfl (World.shaped_of_RefB (by kernel_rfl) (by kernel_rfl)) (by kernel_rfl) (by kernel_rfl) (by kernel_rfl) (LR os _)) ?_
 intro W base args Z gs before J O _ af aa _;have I: ∀(j:Nat) t v,f3.params[j]? =some t->args[j]? =some v->Value.okWide prog W .any base t v:=J;have ab :=O;obtain⟨p,q,U,ac,rfl,ag,ah⟩:=O;have hA:DataW.TrodAll enc prog W 0 (λ_=>true) true f3.params.toList args.toList Z p:=U;rw [Tryz.params3] at hA I;obtain⟨v0,ai,d0,aj,al,am,an,rfl,rfl,h0,ae⟩:=trodAll_cons hA;obtain⟨v1,ao,d1,aq,ar,q1,rfl,rfl,rfl,h1,r1⟩:=trodAll_cons ae;obtain⟨rfl,rfl,rfl⟩:=trodAll_nil r1;obtain rfl:args= #[v0,v1]:=by cases args;simp_all
 obtain⟨rfl,rfl⟩:=trodVars_none ac;obtain⟨l0,rfl,rfl,rfl,V⟩:=open_int Tryz.underlying3 (I 0 3 v0 rfl rfl) h0;obtain⟨l1,rfl,rfl,rfl,w1⟩:=open_int Tryz.underlying23 (I 1 23 v1 rfl rfl) h1;clear U J;refine(walk W (Nh aa) l0 (Ia V) l1 (UW w1)).mono λe W' ⟨he,hg⟩=> ?_
 subst he;exact⟨_,rfl,_,_,_,[],_,[],ab,trodAll_mk1 (shut_bool Tryz.underlying4 _),(trodAll_cons_mk (shut_int Tryz.underlying3 V) (trodAll_cons_mk (shut_int Tryz.underlying23 w1) trodAll_mk0)),rfl,hg.frame _,λh=>by cases h⟩
theorem over:Rows.BcutNoneSaid:=
 OpenClaim.holds_of_wide 3 f3 rfl rfl rfl rfl rfl rfl rfl ⟨rfl,rfl,rfl,rfl,rfl⟩ rfl rfl rfl rfl rfl (by kernel_rfl) func3 (by kernel_rfl)
  (of_decide_eq_true (by kernel_rfl)) (by unfold Func.isWrapper;first|(rw [if_pos (by decide+kernel)];kernel_rfl)|(rw [if_neg (by decide+kernel)];exact⟨rfl,rfl⟩))
  (λos started H enc _=>lifted os started H enc)
theorem proved:Rows.BcutNoneCardSaid:=
 Claim7.holds_tied_plain_at .later [] [.data] true (true, "decf4495e0eb9d1dc5f760179527da9ce0eac81654323c3da16ae9e0811fd128") false
  over (λ_ h=>by cases h) (by kernel_rfl) (λ_ h=>by cases h) bcutNone_row_tie rfl ⟨rfl,rfl⟩ (by kernel_rfl) rfl
  (λf fn J O=>by
   obtain rfl:f=3:=Option.some.inj ((show prog.funcNamed "loft/loftlaw17.BcutNone" =some 3 by kernel_rfl).symm.trans J) |>.symm;obtain rfl:fn=f3:=(Option.some.inj (func3.symm.trans O)).symm;exact⟨by kernel_rfl,λj t I=>by
    rw [Tryz.params3] at I;have hm:t∈ [3,23]:=(by simpa using Array.mem_of_getElem? I);have U:([3,23].all λu=> !prog.wantsStandIn u)=true:=(by kernel_rfl);exact(show prog.wantsStandIn t=false by simpa using List.all_eq_true.1 U t hm)⟩)
  (by kernel_rfl)
#print axioms proved
end Go.Proofs.YtiopopoohglepaaGreatDoor.Xm
