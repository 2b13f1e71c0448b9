/-
  The seat's own texts, part s: Nds, Own3, Float.
-/
import Derived.Test.YthcmecokejemcaaGreatDoorWMr
import Derived.Laws.AppendOwnNone
import Derived.Maps.AppendAt
import Derived.Deep.AppendLies
import Derived.Laws.OwnMore
import Derived.OwnWalkIn
set_option linter.unusedSimpArgs false
set_option linter.unusedVariables false
namespace Go.Proofs.YthcmecokejemcaaGreatDoor
open Go.RowKit Go.Shelf
theorem ownN_form{w:World}{base z:Nat}{e:TypeId}{v:Value}{n:Nat}{xs:List Value}(h:w.ownsRow base e z v n xs): ∃A c,v= .slice A n c:=by
 rcases h.2 with ⟨rfl,rfl⟩|⟨g,cap,cur,rfl,_⟩
 · exact⟨none,0,rfl⟩
 · exact⟨_,_,rfl⟩
def ApartV(v u:Value):Prop:= ∀b,v.ownBlock=some b→u.ownBlock≠some b
theorem ApartV.symm{v u:Value}(h:ApartV v u):ApartV u v:=fun b hb hv=>h b hv hb
structure Own3(W:World)(B:Nat)(v1:Value)(l1:List Nat)(v2:Value)(l2:List Nat)(v3:Value)(l3:List Nat):Prop where
 r1:W.ownsRow B 23 1 v1 l1.length (hsV l1)
 r2:W.ownsRow B 23 1 v2 l2.length (hsV l2)
 r3:W.ownsRow B 23 1 v3 l3.length (hsV l3)
 a12:ApartV v1 v2
 a13:ApartV v1 v3
 a23:ApartV v2 v3
section
variable {W W' :World} {B:Nat} {v1 v2 v3:Value} {l1 l2 l3:List Nat}
theorem Own3.flip12(h:Own3 W B v1 l1 v2 l2 v3 l3):Own3 W B v2 l2 v1 l1 v3 l3:=⟨h.r2,h.r1,h.r3,h.a12.symm,h.a23,h.a13⟩
theorem Own3.flip13(h:Own3 W B v1 l1 v2 l2 v3 l3):Own3 W B v3 l3 v2 l2 v1 l1:=⟨h.r3,h.r2,h.r1,h.a23.symm,h.a13.symm,h.a12.symm⟩
theorem Own3.nil(W:World)(B:Nat):Own3 W B (.slice none 0 0) [] (.slice none 0 0) [] (.slice none 0 0) []:=
 ⟨World.ownsRow_nil _ _ _ _,World.ownsRow_nil _ _ _ _,World.ownsRow_nil _ _ _ _,fun b hb=>by simp [Value.ownBlock] at hb,fun b hb=>by simp [Value.ownBlock] at hb,fun b hb=>by simp [Value.ownBlock] at hb⟩
theorem row_keep{v:Value}{n:Nat}{xs:List Value}{z:Nat}{e:TypeId}(h:W.ownsRow B e z v n xs)(hk: ∀b,v.ownBlock=some b→W'.heap[b]? =W.heap[b]?):W'.ownsRow B e z v n xs:=by
 refine⟨h.1, ?_⟩
 rcases h.2 with h1|⟨g,cap,cur,h1,h2,h3,h4⟩
 · exact .inl h1
 · exact .inr ⟨g,cap,cur,h1,h2,(hk g (by rw [h1];simp [Value.ownBlock])).trans h3,h4⟩
theorem row_ge{v:Value}{n b:Nat}{xs:List Value}{z:Nat}{e:TypeId}(h:W.ownsRow B e z v n xs)(hb:v.ownBlock=some b):B≤b∧b<W.heap.size:=by
 rcases h.2 with ⟨h1,_⟩|⟨g,cap,cur,h1,h2,h3,h4⟩
 · rw [h1] at hb;simp [Value.ownBlock] at hb
 · rw [h1] at hb
   have:g=b:=by simpa [Value.ownBlock] using hb
   subst this
   exact⟨h2,(Array.getElem?_eq_some_iff.1 h3).1⟩
theorem Own3.keep(h:Own3 W B v1 l1 v2 l2 v3 l3)(hk: ∀b,B≤b→b<W.heap.size→W'.heap[b]? =W.heap[b]?):Own3 W' B v1 l1 v2 l2 v3 l3:=
 ⟨row_keep h.r1 (fun b hb=>hk b (row_ge h.r1 hb).1 (row_ge h.r1 hb).2),row_keep h.r2 (fun b hb=>hk b (row_ge h.r2 hb).1 (row_ge h.r2 hb).2),row_keep h.r3 (fun b hb=>hk b (row_ge h.r3 hb).1 (row_ge h.r3 hb).2),h.a12,h.a13,h.a23⟩
theorem Own3.below(h:Own3 W B v1 l1 v2 l2 v3 l3)(hb:Below W.heap.size W W'):Own3 W' B v1 l1 v2 l2 v3 l3:=h.keep fun b _ hlt=>hb.block b hlt
theorem Own3.set(h:Own3 W B v1 l1 v2 l2 v3 l3){b j:Nat}(hb:b<B)(v:Value):Own3 (W.setCell ⟨b,j,none⟩ v) B v1 l1 v2 l2 v3 l3:=h.keep fun k hk _=>Below.heap_setCell W ⟨b,j,none⟩ v k (by simp only;omega)
theorem Own3.app1{w1:World}{tmp:Obj}{v' :Value}{x:Nat}(h:Own3 W B v1 l1 v2 l2 v3 l3)(hown:w1.ownsRow B 23 1 v' (l1++ [x]).length (hsV (l1++ [x])))(hg:(W.alloc tmp).grownBy w1 v1.ownBlock)(hblk:v'.ownBlock=v1.ownBlock∨v'.ownBlock=some (W.alloc tmp).heap.size):
 Own3 w1 B v' (l1++ [x]) v2 l2 v3 l3:=by
 have hk: ∀(u:Value) (l:List Nat),W.ownsRow B 23 1 u l.length (hsV l)→ApartV v1 u→w1.ownsRow B 23 1 u l.length (hsV l)∧ApartV v' u:=fun u l hu ha=>by
  refine⟨row_keep hu fun b hb=> ?_,fun b hb he=> ?_⟩
  · have hlt:=(row_ge hu hb).2
    exact(hg.block b (by simp;omega) (fun e=>ha b e.symm hb)).trans (Below.heap_alloc W tmp b hlt)
  · rcases hblk with h1|h1
    · rw [h1] at hb;exact ha b hb he
    · rw [h1] at hb
      have hlt:=(row_ge hu he).2
      have:(W.alloc tmp).heap.size=b:=by simpa using hb
      simp at this
      omega
 obtain⟨k2,a2⟩:=hk v2 l2 h.r2 h.a12
 obtain⟨k3,a3⟩:=hk v3 l3 h.r3 h.a13
 exact⟨hown,k2,k3,a2,a3,h.a23⟩
theorem Own3.app2{w1:World}{tmp:Obj}{v' :Value}{x:Nat}(h:Own3 W B v1 l1 v2 l2 v3 l3)(hown:w1.ownsRow B 23 1 v' (l2++ [x]).length (hsV (l2++ [x])))(hg:(W.alloc tmp).grownBy w1 v2.ownBlock)(hblk:v'.ownBlock=v2.ownBlock∨v'.ownBlock=some (W.alloc tmp).heap.size):
 Own3 w1 B v1 l1 v' (l2++ [x]) v3 l3:=(h.flip12.app1 hown hg hblk).flip12
theorem Own3.app3{w1:World}{tmp:Obj}{v' :Value}{x:Nat}(h:Own3 W B v1 l1 v2 l2 v3 l3)(hown:w1.ownsRow B 23 1 v' (l3++ [x]).length (hsV (l3++ [x])))(hg:(W.alloc tmp).grownBy w1 v3.ownBlock)(hblk:v'.ownBlock=v3.ownBlock∨v'.ownBlock=some (W.alloc tmp).heap.size):
 Own3 w1 B v1 l1 v2 l2 v' (l3++ [x]):=(h.flip13.app1 hown hg hblk).flip13
theorem grown_block{w1:World}{tmp:Obj}{v:Value}{n:Nat}{xs:List Value}{b:Nat}(hr:W.ownsRow B 23 1 v n xs)(hg:(W.alloc tmp).grownBy w1 v.ownBlock)(hb:b<B)(hB:b<W.heap.size):w1.heap[b]? =W.heap[b]? :=
 (hg.block b (by simp;omega) (fun e=>by have:=(row_ge hr e.symm).1;omega)).trans (Below.heap_alloc W tmp b hB)
theorem grown_below{w w1:World}{tmp:Obj}{v:Value}{n:Nat}{xs:List Value}{m:Nat}(h:Below m w W)(hm:m≤B)(hW:m≤W.heap.size)(hr:W.ownsRow B 23 1 v n xs)(hg:(W.alloc tmp).grownBy w1 v.ownBlock):Below m w w1:=
 (h.alloc hW tmp).trans ⟨hg.os,hg.tape,hg.output,hg.size,fun k hk=>hg.block k (by simp;omega) (fun e=>by have:=(row_ge hr e.symm).1;omega)⟩
theorem row_cellsF{v:Value}{l:List Nat}{F:Nat→Prop}(h:W.ownsRow B 23 1 v l.length (hsV l))(hF: ∀b,F b→b<B): ∃A c,v= .slice A l.length c∧CellsF W F A (hsV l):=by
 rcases h.2 with ⟨h1,h2⟩|⟨g,cap,cur,h1,h2,h3,h4⟩
 · have:l= []:=List.eq_nil_of_length_eq_zero h2
   subst this
   exact⟨none,0,h1, .inl rfl⟩
 · refine⟨_,_,h1, ?_⟩
   by_cases hl:l= []
   · subst hl;exact .inl rfl
   · refine .inr ⟨g,0,rfl,(Array.getElem?_eq_some_iff.1 h3).1,fun hf=>by have:=hF g hf;omega,fun j u hu=> ?_⟩
     have h9:=h.cells (g:=g) (by rw [h1];simp [Value.ownBlock]) j u hu
     rw [show(⟨g,0,none⟩:Addr).add j=⟨g,j,none⟩ by unfold Addr.add;split<;>simp_all] at h9
     rw [Nat.zero_add]
     exact h9
theorem Own3.bnv(h:Own3 W B v1 l1 v2 l2 v3 l3){F:Nat→Prop}(hF: ∀b,F b→b<B)(sz:Nat)(h1:l1.length≤4398046511104)(h2:l2.length≤4398046511104)(h3:l3.length≤4398046511104):BNV W F (.agg #[v1,v2,v3, .int .u64 (sz:Nat)]) ⟨l1,l2,l3,sz⟩:=by
 obtain⟨A1,c1,rfl,k1⟩:=row_cellsF h.r1 hF
 obtain⟨A2,c2,rfl,k2⟩:=row_cellsF h.r2 hF
 obtain⟨A3,c3,rfl,k3⟩:=row_cellsF h.r3 hF
 exact⟨⟨A1,c1,A2,c2,A3,c3,rfl,k1,k2,k3⟩,h1,h2,h3⟩
end
end Go.Proofs.YthcmecokejemcaaGreatDoor
namespace Go.Proofs.YthcmecokejemcaaGreatDoor
open Go Go.RowKit
section
variable {F:Fence} {n:Nat} {P:Program} {ops:Array Oper} {md:Region.Mode} {Q:Exit→Act→World→Prop} {C:World→Prop}
def YieldsC(P:Program)(ops:Array Oper)(C:World→Prop)(o:Oper)(v:Value)(a:Act):Prop:=
 Region.wanted o (yielded ops a.tmps)=true∧(∀w,C w→(execOp a.eval o).run P w= .ok (.value v) w)∧ ∀w,o.about P w a.eval=none
theorem YieldsC.of_same{o:Oper}{v:Value}{a a' :Act}(hy:YieldsC P ops C o v a)(he:execOp a'.eval o=execOp a.eval o)
 (hw:Region.wanted o (yielded ops a'.tmps)=Region.wanted o (yielded ops a.tmps)) (hb: ∀w,o.about P w a'.eval=o.about P w a.eval):YieldsC P ops C o v a' :=
 ⟨hw.trans hy.1,fun w hc=>by rw [he];exact hy.2.1 w hc,fun w=>by rw [hb w];exact hy.2.2 w⟩
theorem YieldsC.op{i:Nat}{o:Oper}{v:Value}{a:Act}(hnd:noDefer ops=true)(hi:ops[i]? =some o)(hy:YieldsC P ops C o v a){K:Act→World→Prop}{w:World}(hc:C w)(h:K (a.put o.dst v) w):wpOpIn F n P ops Q i K a w:=by
 unfold wpOpIn
 simp only [hi]
 rw [if_pos hy.1]
 refine⟨(fun f hf=>by rw [hy.2.2 w] at hf;cases hf), ?_⟩
 rw [Oper.semAt_plain F _ _ (noDefer_spec hnd hi),hy.2.1 w hc]
 exact h
theorem wpOpIn_putC{j:Nat}{oi oj:Oper}{v:Value}(hnd:noDefer ops=true)(hj:ops[j]? =some oj)(hap:oi.apart ops oj=true)
 (hsi: ∀cs b,oi.op≠ .select cs b) (hsj: ∀cs b,oj.op≠ .select cs b) (hQ: ∀c a w,Q (.panic c) (a.put oi.dst v) w→Q (.panic c) a w)
 {K:Act→World→Prop} {a:Act} {w:World} (hy:YieldsC P ops C oi v a) (h:wpOpIn F n P ops Q j K (a.put oi.dst v) w):
 wpOpIn F n P ops Q j (fun a' w' =>YieldsC P ops C oi v a' ∧K (a'.put oi.dst v) w') a w:=by
 obtain⟨h1,h2,h3⟩:=Oper.apart_spec hap
 have keep: ∀(a:Act),YieldsC P ops C oi v a→ ∀u,YieldsC P ops C oi v (a.put oj.dst u):=fun a hy u=>
  hy.of_same (execOp_put oi hsi a oj.dst u h3) (wanted_put oi a oj.dst u h3) (fun w=>about_put oi w a oj.dst u h3)
 have keepD: ∀d,YieldsC P ops C oi v { a with defers:=d::a.defers }:=fun d=>hy.of_same rfl rfl (fun _=>rfl)
 have hpl: ∀ρ,oj.semAt F.round ρ=execOp ρ oj:=fun ρ=>Oper.semAt_plain F _ _ (noDefer_spec hnd hj)
 unfold wpOpIn at*
 simp only [hj] at*
 rw [wanted_put oj a oi.dst v h1,about_put oj w a oi.dst v h1] at h
 split
 · rename_i hw
   simp only [hw,if_true] at h
   unfold Oper.wpIn at*
   rw [about_put oj w a oi.dst v h1] at h
   refine⟨h.1, ?_⟩
   have h:=h.2
   rw [hpl,execOp_put oj hsj a oi.dst v h1] at h
   rw [hpl]
   generalize (execOp a.eval oj).run P w=r at*
   cases r with
   |ok x w' =>
    cases x<;>simp only [Oper.uponIn] at h ⊢
    case value u=>exact⟨keep a hy u,by rw [←Act.put_comm a v u h2];exact h⟩
    case skip=>exact⟨keep a hy _,by rw [←Act.put_comm a v undef h2];exact h⟩
    case defer d=>
     refine⟨keep _ (keepD d) _, ?_⟩
     rw [←Act.put_comm _ v undef h2,←Act.put_defers]
     exact h
    case enter f args=>
     refine⟨h.1,CallsIn.mono h.2 fun e w'' he=> ?_⟩
     cases e with
     |returned u=>exact⟨keep a hy u,by rw [←Act.put_comm a v u h2];exact he⟩
     |panicked c=>exact hQ _ _ _ he
     |outgrown=>exact he
    case row row args=>exact⟨h.1,RowsIn.mono h.2 fun u w'' he=>⟨keep a hy u,by rw [←Act.put_comm a v u h2];exact he⟩⟩
    case round l f tmps assign body=>
     refine⟨h.1,RoundIn.mono h.2 fun e w'' he=> ?_⟩
     cases e with
     |returned u=>exact⟨keep a hy u,by rw [←Act.put_comm a v u h2];exact he⟩
     |panicked c=>exact hQ _ _ _ he
     |outgrown=>exact he
   |halt x w' =>
    cases x<;>simp only [Oper.uponIn] at h ⊢
    case panic u=>exact hQ _ _ _ h
 · rename_i hw
   simp only [hw] at h
   exact⟨h.1,keep a hy _,by rw [←Act.put_comm a v undef h2];exact h.2⟩
def wpAnyC(F:Fence)(n:Nat)(P:Program)(md:Region.Mode)(ops:Array Oper)(Q:Exit→Act→World→Prop)(C:World→Prop)(m:Nat):Nat→Array Bool→Act→World→Prop
 |0,listed,a,w=>Region.ready md ops listed= []∧Q .normal a w
 |f+1,listed,a,w=>
  (Region.ready md ops listed= []→Q .normal a w)∧
  ∀i∈Region.ready md ops listed,wpOpIn F n P ops Q i (fun a' w' =>(i<m→C w')∧wpAnyC F n P md ops Q C m f (listed.setIfInBounds i true) a' w') a w
variable {m:Nat}
theorem wpAnyC.any: ∀(f:Nat) (listed:Array Bool) (a:Act) (w:World),wpAnyC F n P md ops Q C m f listed a w→wpAnyIn F n P md ops Q f listed a w
 |0,_,_,_,h=>h
 |f+1,listed,a,w,h=>⟨h.1,fun i hi=>wpOpIn_mono (fun a' w' h' =>wpAnyC.any f _ a' w' h'.2) (h.2 i hi)⟩
theorem wpAnyC_first{i:Nat}{oi:Oper}{v:Value}(hnd:noDefer ops=true)(hi:ops[i]? =some oi)(hsel: ∀(j:Nat) (o:Oper) cs b,ops[j]? =some o→o.op≠ .select cs b)
 (hs:Region.sinkB md ops m=true) (hc:Region.chainB md ops m=true) (hm:m<ops.size) (him:i<m) (hQ: ∀c a w,Q (.panic c) (a.put oi.dst v) w→Q (.panic c) a w):
 ∀(f:Nat) (listed:Array Bool) (a:Act) (w:World),HeadInv md ops m listed→
  (∀j oj,ops[j]? =some oj→j≠i→listed.getD j true=false→(∀e∈oj.after,Region.binds md e=true→e.on≠i)→oi.apart ops oj=true)→
  i∈Region.ready md ops listed→YieldsC P ops C oi v a→C w→
  wpAnyC F n P md ops Q C m f (listed.setIfInBounds i true) (a.put oi.dst v) w→wpAnyC F n P md ops Q C m (f+1) listed a w:=by
 intro f
 induction f with
 |zero=>
  intro listed a w inv _ hr hy hC H
  refine⟨fun h=>(by rw [h] at hr;cases hr),fun j hj=> ?_⟩
  by_cases hji:j=i
  · subst hji;exact hy.op hnd hi hC ⟨fun _=>hC,H⟩
  · have:=ready_mono hj hji
    rw [H.1] at this
    cases this
 |succ f ih=>
  intro listed a w inv hfree hr hy hC H
  have hun:=(mem_ready.1 hr).1
  refine⟨fun h=>(by rw [h] at hr;cases hr),fun j hj=> ?_⟩
  have hjm:j<m:=by
   rcases Nat.lt_or_ge j m with h|h
   · exact h
   · exact absurd hj (tail_waits hs hc hm inv _ i rfl him hun j h)
  by_cases hji:j=i
  · subst hji;exact hy.op hnd hi hC ⟨fun _=>hC,H⟩
  · have h1:=H.2 j (ready_mono hj hji)
    obtain⟨hjun,oj,hoj,hall⟩:=mem_ready.1 hj
    have hnot: ∀e∈oj.after,Region.binds md e=true→e.on≠i:=fun e he hb heq=>by
     have h1:=hall e he hb
     rw [heq,getD_both hun] at h1
     cases h1
    have h2:=wpOpIn_putC hnd hoj (hfree j oj hoj hji hjun hnot) (fun cs b=>hsel i oi cs b hi) (fun cs b=>hsel j oj cs b hoj) hQ hy h1
    have hfree' : ∀k ok,ops[k]? =some ok→k≠i→(listed.setIfInBounds j true).getD k true=false→
     (∀e∈ok.after,Region.binds md e=true→e.on≠i)→oi.apart ops ok=true:=fun k ok hk hki hun' hno=>by
     refine hfree k ok hk hki ?_ hno
     by_cases hjk:j=k
     · subst hjk;exact hjun
     · rw [getD_set_ne true hjk] at hun';exact hun'
    refine wpOpIn_mono (fun a' w' h3=> ?_) h2
    have hC' :=h3.2.1 hjm
    refine⟨fun _=>hC',ih (listed.setIfInBounds j true) a' w' (inv.set hj hjm) hfree' (ready_mono hr (Ne.symm hji)) h3.1 hC' ?_⟩
    rw [Array.setIfInBounds_comm _ _ hji]
    exact h3.2.2
def Qn(K:Act→World→Prop)(Q:Exit→Act→World→Prop):Exit→Act→World→Prop
 | .normal,a,w=>K a w
 |e,a,w=>Q e a w
theorem wpIn_post{o:Oper}{a:Act}{w:World}{K:Act→World→Prop}{Q' :Exit→Act→World→Prop}(hQ: ∀c a w,Q' (.panic c) a w→Q (.panic c) a w)(hO:LetsOut Q' →LetsOut Q)(hh:o.wpIn F n P a w K Q'):o.wpIn F n P a w K Q:=by
 unfold Oper.wpIn at*
 refine⟨hh.1, ?_⟩
 have hh:=hh.2
 generalize (o.semAt F.round a.eval).run P w=r at*
 cases r with
 |ok x w' =>
  cases x<;>simp only [Oper.uponIn] at hh ⊢ <;>
   first
    |exact hh
    |exact⟨hh.1,CallsIn.mono hh.2 (fun e w'' he=>by cases e<;>first|exact he|exact hQ _ _ _ he|exact hO he)⟩
    |exact⟨hh.1,RoundIn.mono hh.2 (fun e w'' he=>by cases e<;>first|exact he|exact hQ _ _ _ he|exact hO he)⟩
 |halt x w' =>cases x<;>simp only [Oper.uponIn] at hh ⊢ <;>first|exact hQ _ _ _ hh|exact hh
theorem wpOpIn_list{i:Nat}{o:Oper}{K:Act→World→Prop}{a:Act}{w:World}(hi:ops[i]? =some o)(h:wpListIn F n P ops (Qn K Q) [o] a w):wpOpIn F n P ops Q i K a w:=by
 unfold wpOpIn
 simp only [hi]
 unfold wpListIn at h
 split
 · rename_i hw
   rw [if_pos hw] at h
   exact wpIn_post (fun _ _ _ h=>h) (fun h=>h) h
 · rename_i hw
   rw [if_neg hw] at h
   exact h
def wpPureC(P:Program)(ops:Array Oper)(C:World→Prop)(L:Act→Prop):List Oper→Act→Prop
 | [],a=>L a
 |o::l,a=> ∃v,YieldsC P ops C o v a∧wpPureC P ops C L l (a.put o.dst v)
def wpChainC(F:Fence)(n:Nat)(P:Program)(ops:Array Oper)(Q:Exit→Act→World→Prop)(C:World→Prop):Nat→List Oper→Act→World→Prop
 |0,l,a,w=>wpListIn F n P ops Q l a w
 |_+1,[],a,w=>Q .normal a w
 |c+1,o::l,a,w=>wpListIn F n P ops (Qn (fun a' w' =>C w' ∧wpChainC F n P ops Q C c l a' w') Q) [o] a w
theorem wpChainC_step{c:Nat}{o:Oper}{l:List Oper}{a:Act}{w:World}(h: ∀K:Act→World→Prop,(∀a' w',C w' →wpChainC F n P ops Q C c l a' w' →K a' w')→wpListIn F n P ops (Qn K Q) [o] a w):wpChainC F n P ops Q C (c+1) (o::l) a w:=
 h _ (fun _ _ h1 h2=>⟨h1,h2⟩)
theorem wpPureC_step{L:Act→Prop}{o:Oper}{l:List Oper}{a:Act}(v:Value)(h1:Region.wanted o (yielded ops a.tmps)=true)(h2: ∀w,C w→(execOp a.eval o).run P w= .ok (.value v) w)(h3: ∀w,o.about P w a.eval=none)(h:wpPureC P ops C L l (a.put o.dst v)):wpPureC P ops C L (o::l) a:=
 ⟨v,⟨h1,h2,h3⟩,h⟩
theorem wpChainC_zero{l:List Oper}{a:Act}{w:World}(h:wpListIn F n P ops Q l a w):wpChainC F n P ops Q C 0 l a w:=h
theorem wpPureC_nil{L:Act→Prop}{a:Act}(h:L a):wpPureC P ops C L [] a:=h
theorem wpAnyC_of_chain: ∀(l:List Oper) (c k:Nat) (listed:Array Bool) (a:Act) (w:World),(∀j,l[j]? =ops[k+j]?)→m≤k+c→
 Region.seqB md ops l.length k listed=true→wpChainC F n P ops Q C c l a w→wpAnyC F n P md ops Q C m l.length listed a w
 | [],c,k,listed,a,w,_,_,hB,h=>⟨by simpa [Region.seqB] using hB,by cases c<;>exact h⟩
 |o::l,c,k,listed,a,w,hl,hm,hB,h=>by
  have h0:ops[k]? =some o:=by simpa using (hl 0).symm
  simp only [List.length_cons,Region.seqB,Bool.and_eq_true,decide_eq_true_eq] at hB
  refine⟨fun h1=>(by rw [hB.1] at h1;cases h1),fun i hi=> ?_⟩
  rw [hB.1] at hi
  have hik:i=k:=by simpa using hi
  subst hik
  have hl' : ∀j,l[j]? =ops[i+1+j]? :=fun j=>by have:=hl (j+1);simpa [Nat.add_assoc,Nat.add_comm 1 j] using this
  cases c with
  |zero=>
   have hw:wpOpIn F n P ops Q i (wpListIn F n P ops Q l) a w:=by unfold wpOpIn;simp only [h0];exact h
   exact wpOpIn_mono (fun a' w' h' =>⟨fun him=>by omega,wpAnyC_of_chain l 0 (i+1) _ a' w' hl' (by omega) hB.2 h'⟩) hw
  |succ c=>
   exact wpOpIn_mono (fun a' w' h' =>⟨fun _=>h'.1,wpAnyC_of_chain l c (i+1) _ a' w' hl' (by omega) hB.2 h'.2⟩) (wpOpIn_list h0 h)
theorem wpAnyC_lex{g:Nat}{w:World}(hnd:noDefer ops=true)(hsel:Region.noSelect ops=true)(hs:Region.sinkB md ops m=true)(hc:Region.chainB md ops m=true)(hm:m<ops.size)(hC:C w){L:Array Bool→Act→Prop}
 (hL: ∀listed a,L listed a→wpAnyC F n P md ops Q C m g listed a w) {Lq:Act→Prop} {k1:Nat} (hQ: ∀c a a' w,Q (.panic c) a w→Q (.panic c) a' w) (hLq: ∀listed a,Region.seqB md ops g k1 listed=true→Lq a→L listed a):
 ∀(l:List Oper) (k:Nat) (listed:Array Bool) (a:Act),(∀j,j<l.length→l[j]? =ops[k+j]?)→k+l.length=k1→k1≤m→HeadInv md ops m listed→
 Region.lexHead md ops g l.length k listed=true→wpPureC P ops C Lq l a→wpAnyC F n P md ops Q C m (l.length+g) listed a w
 | [],k,listed,a,_,hk,_,_,hB,h=>by
   have:k=k1:=by simpa using hk
   subst this
   rw [List.length_nil,Nat.zero_add]
   exact hL _ _ (hLq _ _ (by simpa [Region.lexHead] using hB) h)
 |o::l,k,listed,a,hl,hk,hkm,inv,hB,h=>by
  have h0:ops[k]? =some o:=by simpa using (hl 0 (by simp)).symm
  simp only [List.length_cons,Region.lexHead,Bool.and_eq_true] at hB
  obtain⟨⟨hr,hf⟩,hB'⟩:=hB
  have hkn:k<m:=by simp only [List.length_cons] at hk;omega
  have hr' :k∈Region.ready md ops listed:=by simpa using hr
  obtain⟨v,hy,hK⟩:=h
  rw [List.length_cons,show l.length+1+g=(l.length+g)+1 by omega]
  exact wpAnyC_first hnd h0 (Region.noSelect_spec hsel) hs hc hm hkn (fun c a w h=>hQ c _ _ w h) (l.length+g) listed a w inv (Region.free_spec h0 hf) hr' hy hC
   (wpAnyC_lex hnd hsel hs hc hm hC hL hQ hLq l (k+1) _ _ (fun j hj=>by have:=hl (j+1) (by simp;omega);simpa [Nat.add_assoc,Nat.add_comm 1 j] using this) (by simp only [List.length_cons] at hk;omega) hkm (inv.set hr' hkn) hB' hK)
theorem wpIn_region_float{id:Nat}{Q:Exit→Act→World→Prop}{a:Act}{w:World}{l:List Oper}(C:World→Prop)(k c m:Nat)(hm:P.follows .mixedOrders=true)(hnd:noDefer l.toArray=true)(hsel:Region.noSelect l.toArray=true)
 (hs:Region.sinkB .any l.toArray m=true) (hc:Region.chainB .any l.toArray m=true) (hml:m<l.length) (hkm:k+c=m) (hlex:Region.lexHead .any l.toArray (l.length-k) k 0 (Array.replicate l.toArray.size false)=true)
 (hC:C w.drew) (hQ: ∀c a a' w,Q (.panic c) a w→Q (.panic c) a' w) (h:wpPureC P l.toArray C (fun a' =>wpChainC F n P l.toArray Q C c (l.drop k) a' w.drew) (l.take k) a):(Code.region id l.toArray true).wpIn F n P Q a w:=by
 have inv0:HeadInv .any l.toArray m (Array.replicate l.toArray.size false):=
  ⟨by simp,fun j oj _ hl=>(by rw [getD_replicate_false] at hl;cases hl),fun t _ ht=>getD_in (by simpa using ht) (getD_replicate_false _ _)⟩
 have htl:(l.take k).length=k:=by simp;omega
 refine wpIn_region_any hm (wpAnyC.any (C:=C) (m:=m) _ _ _ _ ?_)
 have key:=wpAnyC_lex (F:=F) (n:=n) (P:=P) (md:= .any) (ops:=l.toArray) (Q:=Q) (C:=C) (m:=m) (g:=l.length-k) (w:=w.drew) hnd hsel hs hc (by simpa using hml) hC
  (L:=fun listed a=>Region.seqB .any l.toArray (l.length-k) k listed=true∧wpChainC F n P l.toArray Q C c (l.drop k) a w.drew)
  (fun listed a hL=>by
   have hdl:(l.drop k).length=l.length-k:=by simp
   have:=wpAnyC_of_chain (F:=F) (n:=n) (P:=P) (md:= .any) (ops:=l.toArray) (Q:=Q) (C:=C) (m:=m) (l.drop k) c k listed a w.drew (fun j=>by simp [List.getElem?_drop]) (by omega) (by rw [hdl];exact hL.1) hL.2
   rwa [hdl] at this)
  (Lq:=fun a' =>wpChainC F n P l.toArray Q C c (l.drop k) a' w.drew) (k1:=k) hQ (fun listed a h1 h2=>⟨h1,h2⟩) (l.take k) 0 (Array.replicate l.toArray.size false) a
  (fun j hj=>by rw [htl] at hj;simp [hj]) (by rw [htl];omega) (by omega) inv0 (by rw [htl];exact hlex) h
 rw [htl,show k+(l.length-k)=l.toArray.size by simp;omega] at key
 exact key
end
end Go.Proofs.YthcmecokejemcaaGreatDoor
