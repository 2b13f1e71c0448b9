/-
  Taking the least or the greatest pair of a B-tree in turn tells all pairs from both ends, and deleting a key that is not there changes nothing (BcutEnds, its tied card)
-/
import Derived.Test.YtiopopoohglepaaGreatDoorCards
import Derived.Test.YtiopopoohglepaaGreatDoorTie
import Derived.Test.YtiopopoohglepaaGreatDoorLBcutEnds
set_option linter.all false
set_option maxRecDepth 100000
namespace Go.Proofs.YtiopopoohglepaaGreatDoor.Vb
open Go.Proofs.Tryz
open Go.ChangeShapes Go.WideShapes Go.ChangeAt Go.WideMaps Go.WideElems Go.RowKit Go.Deep Go.Shelf
open Go.ChangeMaps (open_string shut_string)
theorem walk(W:World)(U:Hc W)(n0:Int)(af: -9223372036854775808<=n0/\n0<=9223372036854775807)(I:Option Addr)(c1:Nat)(l1:List Pr)(V:Iz W I l1)(J:Option Addr)(c2:Nat)(O:List Bool)(aa:MH W J O)(d:ByteArray)(ag:d.size<=9223372036854775807):
 Calls prog 5 #[.int .i64 n0, .slice I l1.length c1, .slice J O.length c2, .string d] W (FJ W):=by
 by_cases h1:n0<2
 . exact Hf U n0 l1 I c1 O J c2 d V (.inl h1)
 . by_cases ab:16<n0
   . exact Hf U n0 l1 I c1 O J c2 d V (.inr (.inl ab))
   . by_cases ac:80<l1.length
     . exact Hf U n0 l1 I c1 O J c2 d V (.inr (.inr (.inl ac)))
     . cases Z:CL l1 with
       |true=>exact Hf U n0 l1 I c1 O J c2 d V (.inr (.inr (.inr (.inl Z))))
       |false=>
        by_cases ae:1000<d.size
        . exact Hf U n0 l1 I c1 O J c2 d V (.inr (.inr (.inr (.inr ae))))
        . obtain⟨t,rfl⟩:=Int.eq_ofNat_of_zero_le (show 0<=n0 by omega)
          exact Qi U t ⟨by omega,by omega⟩ l1 I c1 O J c2 d V aa (by omega) Z (by omega)
def Yqa{P}(h:P:=by
 simp only [Value.cells,List.cons.injEq,Value.slice.injEq,and_true] at d;obtain⟨rfl,rfl,rfl⟩:=d;exact⟨l,hlen,I⟩):=h
theorem lifted(os:Os)(started:os.Started)(H:Type)(enc:TypeId × Value->H):
 ReturnsInHanded {} Tryz.checked os 5 .any (λw args=>(Rows.bcutEndsSpec.pre enc prog f5 [] false w args/\laidMetH prog GD w)/\sizedMet enc prog f5 (OpenSpec.ofChange Rows.bcutEndsSpec) false w args)
  (Rows.bcutEndsSpec.post enc prog f5 false true false false):=by
 refine returnsInHanded_of_change_and (C:=Tryz.checked) (X:=λw _=>laidMetH prog GD w) (λ_ _ _ hh h=>h.of_heap hh) own started (by kernel_rfl) func5
  (ChangeSpec.witness_shaped (enc:=enc) (C:=Tryz.checked) (os:=os) (X:=λw _=>laidMetH prog GD w) false (World.doorLaid prog 400 os) #[.int .i64 0, .slice none 0 0, .slice none 0 0, .string ByteArray.empty] 8 rfl (World.shaped_of_RefB (by kernel_rfl) (by kernel_rfl)) (by kernel_rfl) (by kernel_rfl) (by kernel_rfl) (LL os _)) ?_
 intro W base args ag gs before U V _ au ah _;have J: ∀(j:Nat) t v,f5.params[j]? =some t->args[j]? =some v->Value.okWide prog W .any base t v:=U;have ai :=V;obtain⟨p,q,Z,aj,rfl,aw,ax⟩:=V;have aa:DataW.TrodAll enc prog W 0 (λ_=>true) true f5.params.toList args.toList ag p:=Z;rw [Tryz.params5] at aa J;obtain⟨v0,ay,d0,az,aA,aB,aC,rfl,rfl,h0,al⟩:=trodAll_cons aa;obtain⟨v1,aD,d1,aE,am,q1,rfl,rfl,rfl,h1,r1⟩:=trodAll_cons al;obtain⟨v2,aF,d2,aG,an,aH,rfl,rfl,rfl,ab,r2⟩:=trodAll_cons r1;obtain⟨v3,aI,d3,aJ,aK,aL,rfl,rfl,rfl,ao,r3⟩:=trodAll_cons r2;obtain⟨rfl,rfl,rfl⟩:=trodAll_nil r3;obtain rfl:args= #[v0,v1,v2,v3]:=by cases args;simp_all
 obtain⟨rfl,rfl⟩:=trodVars_none aj;obtain⟨l0,rfl,rfl,rfl,ac⟩:=open_int Tryz.underlying3 (J 0 3 v0 rfl rfl) h0;obtain⟨ae,m1,c1,rfl⟩:=okWide_slice Tryz.underlying38 (J 1 38 v1 rfl rfl);have k1:=h1;have aq: ∀x∈am,x.block<W.heap.size:=by obtain⟨m,hm⟩:=k1;exact DataW.trod_lt m _ _ _ hm
 obtain⟨l1,rfl,w1⟩: ∃l,m1=l.length/\Iz W ae l:=by
  obtain⟨fuel,O⟩:=h1;obtain⟨A,len,cap,l,d,hlen,I⟩:=Lg O;exact Yqa
 obtain⟨af,m2,c2,rfl⟩:=okWide_slice Tryz.underlying54 (J 2 54 v2 rfl rfl);have k2:=ab;have ar: ∀x∈an,x.block<W.heap.size:=by obtain⟨m,hm⟩:=k2;exact DataW.trod_lt m _ _ _ hm
 obtain⟨l2,rfl,w2⟩: ∃l,m2=l.length/\MH W af l:=by
  obtain⟨fuel,O⟩:=ab;obtain⟨A,len,cap,l,d,hlen,I⟩:=XR O;exact Yqa
 obtain⟨l3,rfl,rfl,rfl,w3⟩:=open_string Tryz.underlying9 (J 3 9 v3 rfl rfl) ao;clear Z U;refine(walk W (Nf ah) l0 (Ie ac) ae c1 l1 w1 af c2 l2 w2 l3 (by unfold maxLen at w3;exact w3)).mono λe W' ⟨he,hg⟩=> ?_
 subst he;exact⟨_,rfl,_,_,_,[],_,[],ai,trodAll_mk1 (shut_bool Tryz.underlying4 _),(trodAll_cons_mk (shut_int Tryz.underlying3 ac) (trodAll_cons_mk (Below.trod laidOut (by kernel_rfl) (of_decide_eq_true (by kernel_rfl)) k1 hg aq) (trodAll_cons_mk (Below.trod laidOut (by kernel_rfl) (of_decide_eq_true (by kernel_rfl)) k2 hg ar) (trodAll_cons_mk (shut_string Tryz.underlying9 w3) trodAll_mk0)))),rfl,hg.frame _,λh=>by cases h⟩
theorem over:Rows.BcutEndsSaid:=
 OpenClaim.holds_of_wide 5 f5 rfl rfl rfl rfl rfl rfl rfl ⟨rfl,rfl,rfl,rfl,rfl⟩ rfl rfl rfl rfl rfl (by kernel_rfl) func5 (by kernel_rfl)
  (of_decide_eq_true (by kernel_rfl)) (by unfold Func.isWrapper;first|(rw [if_pos (by decide+kernel)];kernel_rfl)|(rw [if_neg (by decide+kernel)];exact⟨rfl,rfl⟩))
  (λos started H enc _=>lifted os started H enc)
theorem proved:Rows.BcutEndsCardSaid:=
 Claim7.holds_tied_plain_at .later [] [.data] true (true, "decf4495e0eb9d1dc5f760179527da9ce0eac81654323c3da16ae9e0811fd128") false
  over (λ_ h=>by cases h) (by kernel_rfl) (λ_ h=>by cases h) bcutEnds_row_tie rfl ⟨rfl,rfl⟩ (by kernel_rfl) rfl
  (λf fn I J=>by
   obtain rfl:f=5:=Option.some.inj ((show prog.funcNamed "loft/loftlaw17.BcutEnds" =some 5 by kernel_rfl).symm.trans I) |>.symm;obtain rfl:fn=f5:=(Option.some.inj (func5.symm.trans J)).symm;exact⟨by kernel_rfl,λj t d=>by
    rw [Tryz.params5] at d;have hm:t∈ [3,38,54,9]:=(by simpa using Array.mem_of_getElem? d);have O:([3,38,54,9].all λu=> !prog.wantsStandIn u)=true:=(by kernel_rfl);exact(show prog.wantsStandIn t=false by simpa using List.all_eq_true.1 O t hm)⟩)
  (by kernel_rfl)
#print axioms proved
end Go.Proofs.YtiopopoohglepaaGreatDoor.Vb
