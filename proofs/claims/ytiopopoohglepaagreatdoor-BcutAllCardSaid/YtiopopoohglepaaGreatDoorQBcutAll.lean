/-
  Deleting all keys of a B-tree, in whatever order, leaves no node, and none is ever refused, also where the store is full (BcutAll, its tied card)
-/
import Derived.Test.YtiopopoohglepaaGreatDoorCards
import Derived.Test.YtiopopoohglepaaGreatDoorTie
import Derived.Test.YtiopopoohglepaaGreatDoorLBcutAll
set_option linter.all false
set_option maxRecDepth 100000
namespace Go.Proofs.YtiopopoohglepaaGreatDoor.Yu
open Go.Proofs.Tryz
open Go.ChangeShapes Go.WideShapes Go.ChangeAt Go.WideMaps Go.WideElems Go.RowKit Go.Deep Go.Shelf
open Go.ChangeMaps (open_string shut_string)
theorem walk(W:World)(J:Hc W)(n0:Int)(ae: -9223372036854775808<=n0/\n0<=9223372036854775807)(d:Option Addr)(c1:Nat)(l1:List Pr)(O:Iz W d l1)(I:Option Addr)(c2:Nat)(z2:List Int)(Z:LR W I z2)(U:z2.length<=17592186043904):
 Calls prog 4 #[.int .i64 n0, .slice d l1.length c1, .slice I z2.length c2] W (FJ W):=by
 by_cases h1:n0<2
 . exact HG J n0 l1 d c1 z2 I c2 O U (.inl h1)
 . by_cases aa:16<n0
   . exact HG J n0 l1 d c1 z2 I c2 O U (.inr (.inl aa))
   . by_cases ab:100<l1.length
     . exact HG J n0 l1 d c1 z2 I c2 O U (.inr (.inr (.inl ab)))
     . cases V:CL l1 with
       |true=>exact HG J n0 l1 d c1 z2 I c2 O U (.inr (.inr (.inr (.inl V))))
       |false=>
        by_cases ac:200<z2.length
        . exact HG J n0 l1 d c1 z2 I c2 O U (.inr (.inr (.inr (.inr ac))))
        . obtain⟨t,rfl⟩:=Int.eq_ofNat_of_zero_le (show 0<=n0 by omega)
          exact LY J t ⟨by omega,by omega⟩ l1 d c1 z2 I c2 O Z (by omega) V (by omega)
def Ybg{P}(h:P:=by
 simp only [Value.cells,List.cons.injEq,Value.slice.injEq,and_true] at d;obtain⟨rfl,rfl,rfl⟩:=d;exact⟨l,hlen,I⟩):=h
theorem lifted(os:Os)(started:os.Started)(H:Type)(enc:TypeId × Value->H):
 ReturnsInHanded {} Tryz.checked os 4 .any (λw args=>(Rows.bcutAllSpec.pre enc prog f4 [] false w args/\laidMetH prog GD w)/\sizedMet enc prog f4 (OpenSpec.ofChange Rows.bcutAllSpec) false w args)
  (Rows.bcutAllSpec.post enc prog f4 false true false false):=by
 refine returnsInHanded_of_change_and (C:=Tryz.checked) (X:=λw _=>laidMetH prog GD w) (λ_ _ _ hh h=>h.of_heap hh) own started (by kernel_rfl) func4
  (ChangeSpec.witness_shaped (enc:=enc) (C:=Tryz.checked) (os:=os) (X:=λw _=>laidMetH prog GD w) false (World.doorLaid prog 400 os) #[.int .i64 0, .slice none 0 0, .slice none 0 0] 8 rfl (World.shaped_of_RefB (by kernel_rfl) (by kernel_rfl)) (by kernel_rfl) (by kernel_rfl) (by kernel_rfl) (LL os _)) ?_
 intro W base args ag gs before U V _ ah ai _;have O: ∀(j:Nat) t v,f4.params[j]? =some t->args[j]? =some v->Value.okWide prog W .any base t v:=U;have aj :=V;obtain⟨p,q,Z,al,rfl,aw,ax⟩:=V;have aa:DataW.TrodAll enc prog W 0 (λ_=>true) true f4.params.toList args.toList ag p:=Z;rw [Tryz.params4] at aa O;obtain⟨v0,ay,d0,az,aA,aB,aC,rfl,rfl,h0,am⟩:=trodAll_cons aa;obtain⟨v1,aD,d1,aE,an,q1,rfl,rfl,rfl,h1,r1⟩:=trodAll_cons am;obtain⟨v2,aF,d2,aG,ao,aH,rfl,rfl,rfl,ab,r2⟩:=trodAll_cons r1;obtain⟨rfl,rfl,rfl⟩:=trodAll_nil r2;obtain rfl:args= #[v0,v1,v2]:=by cases args;simp_all
 obtain⟨rfl,rfl⟩:=trodVars_none al;obtain⟨l0,rfl,rfl,rfl,ac⟩:=open_int Tryz.underlying3 (O 0 3 v0 rfl rfl) h0;obtain⟨ae,m1,c1,rfl⟩:=okWide_slice Tryz.underlying38 (O 1 38 v1 rfl rfl);have k1:=h1;have aq: ∀x∈an,x.block<W.heap.size:=by obtain⟨m,hm⟩:=k1;exact DataW.trod_lt m _ _ _ hm
 obtain⟨l1,rfl,w1⟩: ∃l,m1=l.length/\Iz W ae l:=by
  obtain⟨fuel,J⟩:=h1;obtain⟨A,len,cap,l,d,hlen,I⟩:=Lg J;exact Ybg
 obtain⟨af,m2,c2,rfl⟩:=okWide_slice Tryz.underlying39 (O 2 39 v2 rfl rfl);have k2:=ab;have ar: ∀x∈ao,x.block<W.heap.size:=by obtain⟨m,hm⟩:=k2;exact DataW.trod_lt m _ _ _ hm
 obtain⟨l2,rfl,w2⟩: ∃l,m2=l.length/\LR W af l:=by
  obtain⟨fuel,J⟩:=ab;obtain⟨A,len,cap,l,d,hlen,I⟩:=Rt J;exact Ybg
 have au:l2.length<=17592186043904:=by
  obtain⟨fuel,J⟩:=k2;exact L9 ah (j:=2) (by rw [Tryz.params4];rfl) rfl J
 clear Z U;refine(walk W (Nf ai) l0 (Ie ac) ae c1 l1 w1 af c2 l2 w2 au).mono λe W' ⟨he,hg⟩=> ?_
 subst he;exact⟨_,rfl,_,_,_,[],_,[],aj,trodAll_mk1 (shut_bool Tryz.underlying4 _),(trodAll_cons_mk (shut_int Tryz.underlying3 ac) (trodAll_cons_mk (Below.trod laidOut (by kernel_rfl) (of_decide_eq_true (by kernel_rfl)) k1 hg aq) (trodAll_cons_mk (Below.trod laidOut (by kernel_rfl) (of_decide_eq_true (by kernel_rfl)) k2 hg ar) trodAll_mk0))),rfl,hg.frame _,λh=>by cases h⟩
theorem over:Rows.BcutAllSaid:=
 OpenClaim.holds_of_wide 4 f4 rfl rfl rfl rfl rfl rfl rfl ⟨rfl,rfl,rfl,rfl,rfl⟩ rfl rfl rfl rfl rfl (by kernel_rfl) func4 (by kernel_rfl)
  (of_decide_eq_true (by kernel_rfl)) (by unfold Func.isWrapper;first|(rw [if_pos (by decide+kernel)];kernel_rfl)|(rw [if_neg (by decide+kernel)];exact⟨rfl,rfl⟩))
  (λos started H enc _=>lifted os started H enc)
theorem proved:Rows.BcutAllCardSaid:=
 Claim7.holds_tied_plain_at .later [] [.data] true (true, "decf4495e0eb9d1dc5f760179527da9ce0eac81654323c3da16ae9e0811fd128") false
  over (λ_ h=>by cases h) (by kernel_rfl) (λ_ h=>by cases h) bcutAll_row_tie rfl ⟨rfl,rfl⟩ (by kernel_rfl) rfl
  (λf fn I J=>by
   obtain rfl:f=4:=Option.some.inj ((show prog.funcNamed "loft/loftlaw17.BcutAll" =some 4 by kernel_rfl).symm.trans I) |>.symm;obtain rfl:fn=f4:=(Option.some.inj (func4.symm.trans J)).symm;exact⟨by kernel_rfl,λj t d=>by
    rw [Tryz.params4] at d;have hm:t∈ [3,38,39]:=(by simpa using Array.mem_of_getElem? d);have O:([3,38,39].all λu=> !prog.wantsStandIn u)=true:=(by kernel_rfl);exact(show prog.wantsStandIn t=false by simpa using List.all_eq_true.1 O t hm)⟩)
  (by kernel_rfl)
#print axioms proved
end Go.Proofs.YtiopopoohglepaaGreatDoor.Yu
