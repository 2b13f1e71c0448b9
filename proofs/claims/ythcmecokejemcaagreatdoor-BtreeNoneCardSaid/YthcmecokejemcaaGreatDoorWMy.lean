/-
  The seat's own texts, part y: RgT, BtWH, BtWK.
-/
import Derived.Test.YthcmecokejemcaaGreatDoorWMx
set_option linter.unusedSimpArgs false
set_option linter.unusedVariables false
namespace Go.Proofs.YthcmecokejemcaaGreatDoor
open Go Go.RowKit
inductive Tr where
 |nil
 |r (i:Nat) (t:Tr)
 |a (k:Nat) (t:Tr)
 |two (i:Nat) (s:Tr) (j:Nat) (t:Tr)
 |three (i:Nat) (s:Tr) (j:Nat) (t:Tr) (k:Nat) (u:Tr)
section
variable {lt:List Nat} {P:Program} {ops:Array Oper} {md:Region.Mode} {Q:Exit→Act→World→Prop} {C:World→Prop}
def anc(md:Region.Mode)(ops:Array Oper):Nat→Nat→Nat→Bool
 |0,_,_=>false
 |f+1,k,i=>match ops[k]? with
  |none=>false
  |some o=>o.after.any fun e=>Region.binds md e&&(e.on==i||anc md ops f e.on i)
def Shut(md:Region.Mode)(ops:Array Oper)(listed:Array Bool):Prop:=
 ∀m o,ops[m]? =some o→listed.getD m false=true→ ∀e∈o.after,Region.binds md e=true→listed.getD e.on false=true
theorem anc_spec{listed:Array Bool}(hS:Shut md ops listed): ∀(f k i:Nat),(∀o,ops[k]? =some o→ ∀e∈o.after,Region.binds md e=true→listed.getD e.on false=true)→anc md ops f k i=true→listed.getD i false=true
 |0,_,_,_,h=>by simp [anc] at h
 |f+1,k,i,hk,h=>by
  unfold anc at h
  cases ho:ops[k]? with
  |none=>rw [ho] at h;cases h
  |some o=>
   rw [ho] at h
   simp only [Array.any_eq_true',Bool.and_eq_true,Bool.or_eq_true,beq_iff_eq] at h
   obtain⟨e,h1,h2,h3⟩:=h
   have h4:=hk o ho e h1 h2
   rcases h3 with h3|h3
   · rw [←h3];exact h4
   · exact anc_spec hS f e.on i (fun o' ho' =>hS e.on o' ho' h4) h3
theorem Shut.list{listed:Array Bool}(hS:Shut md ops listed){j:Nat}(hj:j∈Region.ready md ops listed):Shut md ops (listed.setIfInBounds j true):=by
 obtain⟨hjun,oj,hoj,hall⟩:=mem_ready.1 hj
 have up: ∀x,listed.getD x false=true→(listed.setIfInBounds j true).getD x false=true:=fun x hx=>by
  by_cases hxj:j=x
  · subst hxj;rw [getD_both hjun] at hx;cases hx
  · rw [getD_set_ne false hxj];exact hx
 intro m o ho hm e he hb
 by_cases hmj:j=m
 · subst hmj
   rw [hoj] at ho
   cases ho
   exact up _ (hall e he hb)
 · rw [getD_set_ne false hmj] at hm
   exact up _ (hS m o ho hm e he hb)
def lateB(md:Region.Mode)(ops:Array Oper)(lt:List Nat):Bool:=lt.all fun k=>(List.range ops.size).all fun i=>lt.contains i||anc md ops 7 k i
theorem lateB_spec(h:lateB md ops lt=true){k:Nat}(hk:k∈lt){i:Nat}(hi:i<ops.size)(hne:i∉lt):anc md ops 7 k i=true:=by
 unfold lateB at h
 have h:=List.all_eq_true.1 h k hk
 simp only [List.all_eq_true,List.mem_range,Bool.or_eq_true,List.contains_iff_mem] at h
 exact(h i hi).resolve_left hne
def wpAnyZ(P:Program)(md:Region.Mode)(ops:Array Oper)(Q:Exit→Act→World→Prop)(C:World→Prop)(lt:List Nat):Nat→Array Bool→Act→World→Prop
 |0,listed,a,w=>Region.ready md ops listed= []∧Q .normal a w
 |f+1,listed,a,w=>
  (Region.ready md ops listed= []→Q .normal a w)∧
  ∀i∈Region.ready md ops listed,wpOp P ops Q i (fun a' w' =>(i∉lt→C w')∧wpAnyZ P md ops Q C lt f (listed.setIfInBounds i true) a' w') a w
theorem wpAnyZ.any: ∀(f:Nat) (listed:Array Bool) (a:Act) (w:World),wpAnyZ P md ops Q C lt f listed a w→wpAny P md ops Q f listed a w
 |0,_,_,_,h=>h
 |f+1,listed,a,w,h=>⟨h.1,fun i hi=>wpOp_mono (fun a' w' h' =>wpAnyZ.any f _ a' w' h'.2) (h.2 i hi)⟩
theorem wpAnyZ.mono{C' :World→Prop}(hc: ∀x,C' x→C x): ∀(f:Nat) (listed:Array Bool) (a:Act) (w:World),wpAnyZ P md ops Q C' lt f listed a w→wpAnyZ P md ops Q C lt f listed a w
 |0,_,_,_,h=>h
 |f+1,_,_,_,h=>⟨h.1,fun i hi=>wpOp_mono (fun a' w' h' =>⟨fun hn=>hc _ (h'.1 hn),wpAnyZ.mono hc f _ a' w' h'.2⟩) (h.2 i hi)⟩
theorem wpAnyZ_first{i:Nat}{oi:Oper}{v:Value}(hlt:lateB md ops lt=true)(hil:i∉lt)(hi:ops[i]? =some oi)(hsel: ∀(j:Nat) (o:Oper) cs b,ops[j]? =some o→o.op≠ .select cs b)
 (hQ: ∀c a w,Q (.panic c) (a.put oi.dst v) w→Q (.panic c) a w):
 ∀(f:Nat) (listed:Array Bool) (a:Act) (w:World),
  (∀j oj,ops[j]? =some oj→j≠i→listed.getD j true=false→(∀e∈oj.after,Region.binds md e=true→e.on≠i)→oi.apart ops oj=true)→
  i∈Region.ready md ops listed→Shut md ops listed→YieldsW P ops C oi v a→C w→
  wpAnyZ P md ops Q C lt f (listed.setIfInBounds i true) (a.put oi.dst v) w→wpAnyZ P md ops Q C lt (f+1) listed a w:=by
 intro f
 induction f with
 |zero=>
  intro listed a w _ hr hN hy hC H
  refine⟨fun h=>(by rw [h] at hr;cases hr),fun j hj=> ?_⟩
  by_cases hji:j=i
  · subst hji;exact hy.op hi hC ⟨fun _=>hC,H⟩
  · have:=ready_mono hj hji
    rw [H.1] at this
    cases this
 |succ f ih=>
  intro listed a w hfree hr hN hy hC H
  refine⟨fun h=>(by rw [h] at hr;cases hr),fun j hj=> ?_⟩
  by_cases hji:j=i
  · subst hji;exact hy.op hi hC ⟨fun _=>hC,H⟩
  · have h1:=H.2 j (ready_mono hj hji)
    obtain⟨hjun,oj,hoj,hall⟩:=mem_ready.1 hj
    have hun:=(mem_ready.1 hr).1
    have hnot: ∀e∈oj.after,Region.binds md e=true→e.on≠i:=fun e he hb heq=>by
     have h1:=hall e he hb
     rw [heq,getD_both hun] at h1
     cases h1
    have h2:=wpOp_putW (C:=C) hoj (hfree j oj hoj hji hjun hnot) (fun cs b=>hsel i oi cs b hi) (fun cs b=>hsel j oj cs b hoj) hQ hy h1
    have hfree' : ∀k ok,ops[k]? =some ok→k≠i→(listed.setIfInBounds j true).getD k true=false→
     (∀e∈ok.after,Region.binds md e=true→e.on≠i)→oi.apart ops ok=true:=fun k ok hk hki hun' hno=>by
     refine hfree k ok hk hki ?_ hno
     by_cases hjk:j=k
     · subst hjk;exact hjun
     · rw [getD_set_ne true hjk] at hun';exact hun'
    refine wpOp_mono (fun a' w' h3=> ?_) h2
    have hjk:j∉lt:=fun hm=>by
     have h9:=anc_spec hN 7 j i (fun o ho=>by rw [hoj] at ho;cases ho;exact hall) (lateB_spec hlt hm (Array.getElem?_eq_some_iff.1 hi).1 hil)
     rw [getD_both hun] at h9
     cases h9
    have hC' :C w' :=h3.2.1 hjk
    refine⟨fun _=>hC',ih (listed.setIfInBounds j true) a' w' hfree' (ready_mono hr (Ne.symm hji)) (hN.list hj) h3.1 hC' ?_⟩
    rw [Array.setIfInBounds_comm _ _ hji]
    exact h3.2.2
def treeB(md:Region.Mode)(ops:Array Oper)(lt:List Nat):Tr→Nat→Bool→Array Bool→Bool
 | .nil,n,z,listed=>decide (n=0)&&(Region.ready md ops listed).isEmpty
 | .r i t,n,z,listed=>match n with
   |0=>false
   |n+1=> !z&& !lt.contains i&&(Region.ready md ops listed).contains i&&Region.free md ops listed i&&treeB md ops lt t n z (listed.setIfInBounds i true)
 | .a k t,n,z,listed=>match n with
   |0=>false
   |n+1=>(!z||lt.contains k)&&decide (Region.ready md ops listed= [k])&&treeB md ops lt t n (lt.contains k) (listed.setIfInBounds k true)
 | .two i s j t,n,z,listed=>match n with
   |0=>false
   |n+1=> !z&& !lt.contains i&& !lt.contains j&&decide (Region.ready md ops listed= [i,j])&&treeB md ops lt s n z (listed.setIfInBounds i true)&&treeB md ops lt t n z (listed.setIfInBounds j true)
 | .three i s j t k u,n,z,listed=>match n with
   |0=>false
   |n+1=> !z&& !lt.contains i&& !lt.contains j&& !lt.contains k&&decide (Region.ready md ops listed= [i,j,k])&&treeB md ops lt s n z (listed.setIfInBounds i true)&&treeB md ops lt t n z (listed.setIfInBounds j true)&&treeB md ops lt u n z (listed.setIfInBounds k true)
def wpTree(P:Program)(ops:Array Oper)(Q:Exit→Act→World→Prop)(lt:List Nat):Tr→(World→Prop)→Act→World→Prop
 | .nil,_,a,w=>Q .normal a w
 | .r i t,C,a,w=> ∃o v,ops[i]? =some o∧YieldsW P ops C o v a∧wpTree P ops Q lt t C (a.put o.dst v) w
 | .a k t,C,a,w=> ∃o,ops[k]? =some o∧wpList P ops (Qr (fun a' w' =>(k∉lt→C w')∧wpTree P ops Q lt t C a' w') Q) [o] a w
 | .two i s j t,C,a,w=>(∃o,ops[i]? =some o∧wpList P ops (Qr (fun a' w' =>C w' ∧wpTree P ops Q lt s C a' w') Q) [o] a w)∧
   ∃o,ops[j]? =some o∧wpList P ops (Qr (fun a' w' =>C w' ∧wpTree P ops Q lt t C a' w') Q) [o] a w
 | .three i s j t k u,C,a,w=>(∃o,ops[i]? =some o∧wpList P ops (Qr (fun a' w' =>C w' ∧wpTree P ops Q lt s C a' w') Q) [o] a w)∧
   (∃o,ops[j]? =some o∧wpList P ops (Qr (fun a' w' =>C w' ∧wpTree P ops Q lt t C a' w') Q) [o] a w)∧
   ∃o,ops[k]? =some o∧wpList P ops (Qr (fun a' w' =>C w' ∧wpTree P ops Q lt u C a' w') Q) [o] a w
theorem wpTree_nil{a:Act}{w:World}(h:Q .normal a w):wpTree P ops Q lt .nil C a w:=h
theorem wpTree_r{i:Nat}{s:Tr}{a:Act}{w:World}(o:Oper)(v:Value)(hi:ops[i]? =some o)(h1:Region.wanted o (yielded ops a.tmps)=true)(h2: ∀w,C w→(execOp a.eval o).run P w= .ok (.value v) w)(h:wpTree P ops Q lt s C (a.put o.dst v) w):wpTree P ops Q lt (.r i s) C a w:=
 ⟨o,v,hi, .inl ⟨h1,h2⟩,h⟩
theorem wpTree_a{k:Nat}{s:Tr}{a:Act}{w:World}(o:Oper)(hk:ops[k]? =some o)(h: ∀K:Act→World→Prop,(∀a' w',C w' →wpTree P ops Q lt s C a' w' →K a' w')→wpList P ops (Qr K Q) [o] a w):wpTree P ops Q lt (.a k s) C a w:=
 ⟨o,hk,h _ (fun _ _ h1 h2=>⟨fun _=>h1,h2⟩)⟩
theorem wpTree_z{k:Nat}{s:Tr}{a:Act}{w:World}(o:Oper)(hk:ops[k]? =some o)(hz:k∈lt)(h: ∀K:Act→World→Prop,(∀a' w',wpTree P ops Q lt s C a' w' →K a' w')→wpList P ops (Qr K Q) [o] a w):wpTree P ops Q lt (.a k s) C a w:=
 ⟨o,hk,h _ (fun _ _ h2=>⟨fun hn=>absurd hz hn,h2⟩)⟩
theorem wpTree_two{i j:Nat}{s t:Tr}{a:Act}{w:World}(o o' :Oper)(hi:ops[i]? =some o)(hj:ops[j]? =some o')
 (h1: ∀K:Act→World→Prop,(∀a' w',C w' →wpTree P ops Q lt s C a' w' →K a' w')→wpList P ops (Qr K Q) [o] a w)
 (h2: ∀K:Act→World→Prop,(∀a' w',C w' →wpTree P ops Q lt t C a' w' →K a' w')→wpList P ops (Qr K Q) [o'] a w):wpTree P ops Q lt (.two i s j t) C a w:=
 ⟨⟨o,hi,h1 _ (fun _ _ h1 h2=>⟨h1,h2⟩)⟩,⟨o',hj,h2 _ (fun _ _ h1 h2=>⟨h1,h2⟩)⟩⟩
theorem wpTree_three{i j k:Nat}{s t u:Tr}{a:Act}{w:World}(o o' o'' :Oper)(hi:ops[i]? =some o)(hj:ops[j]? =some o')(hk:ops[k]? =some o'')
 (h1: ∀K:Act→World→Prop,(∀a' w',C w' →wpTree P ops Q lt s C a' w' →K a' w')→wpList P ops (Qr K Q) [o] a w)
 (h2: ∀K:Act→World→Prop,(∀a' w',C w' →wpTree P ops Q lt t C a' w' →K a' w')→wpList P ops (Qr K Q) [o'] a w)
 (h3: ∀K:Act→World→Prop,(∀a' w',C w' →wpTree P ops Q lt u C a' w' →K a' w')→wpList P ops (Qr K Q) [o''] a w):wpTree P ops Q lt (.three i s j t k u) C a w:=
 ⟨⟨o,hi,h1 _ (fun _ _ h1 h2=>⟨h1,h2⟩)⟩,⟨o',hj,h2 _ (fun _ _ h1 h2=>⟨h1,h2⟩)⟩,⟨o'',hk,h3 _ (fun _ _ h1 h2=>⟨h1,h2⟩)⟩⟩
theorem wpAnyZ_of_tree(hlt:lateB md ops lt=true)(hsel:Region.noSelect ops=true)(hQ: ∀c a d v w,Q (.panic c) (Act.put a d v) w→Q (.panic c) a w):
 ∀(s:Tr) (n:Nat) (z:Bool) (listed:Array Bool) (a:Act) (w:World),(z=false→C w)→Shut md ops listed→treeB md ops lt s n z listed=true→wpTree P ops Q lt s C a w→wpAnyZ P md ops Q C lt n listed a w
 | .nil,n,z,listed,a,w,hC,hN,hB,h=>by
   simp only [treeB,Bool.and_eq_true,decide_eq_true_eq] at hB
   obtain⟨rfl,hB⟩:=hB
   exact⟨by simpa using hB,h⟩
 | .r i s,0,z,listed,a,w,hC,hN,hB,h=>by simp [treeB] at hB
 | .r i s,n+1,z,listed,a,w,hC,hN,hB,h=>by
   obtain⟨o,v,h0,hy,hK⟩:=h
   simp only [treeB,Bool.and_eq_true,Bool.not_eq_true'] at hB
   obtain⟨⟨⟨⟨hz,hil⟩,hr⟩,hf⟩,hB'⟩:=hB
   exact wpAnyZ_first hlt (by simpa using hil) h0 (Region.noSelect_spec hsel) (fun c a w h=>hQ c a _ _ w h) n listed a w (Region.free_spec h0 hf) (by simpa using hr) hN hy (hC hz)
    (wpAnyZ_of_tree hlt hsel hQ s n z _ _ w hC (hN.list (by simpa using hr)) hB' hK)
 | .a k s,0,z,listed,a,w,hC,hN,hB,h=>by simp [treeB] at hB
 | .a k s,n+1,z,listed,a,w,hC,hN,hB,h=>by
   obtain⟨o,h0,h⟩:=h
   simp only [treeB,Bool.and_eq_true,Bool.or_eq_true,decide_eq_true_eq] at hB
   refine⟨fun h1=>(by rw [hB.1.2] at h1;cases h1),fun i hi=> ?_⟩
   rw [hB.1.2] at hi
   obtain rfl:i=k:=by simpa using hi
   exact wpOp_mono (fun a' w' ⟨h1,h3⟩=>⟨h1,wpAnyZ_of_tree hlt hsel hQ s n _ _ a' w' (fun hz=>h1 (by simpa using hz)) (hN.list (by rw [hB.1.2];simp)) hB.2 h3⟩) (wpOp_list h0 h)
 | .two i s j t,0,z,listed,a,w,hC,hN,hB,h=>by simp [treeB] at hB
 | .two i s j t,n+1,z,listed,a,w,hC,hN,hB,h=>by
   obtain⟨⟨o,h0,h⟩,⟨o',h0',h'⟩⟩:=h
   simp only [treeB,Bool.and_eq_true,decide_eq_true_eq,Bool.not_eq_true'] at hB
   obtain⟨⟨⟨⟨⟨hz,hil⟩,hjl⟩,hr⟩,hs⟩,ht⟩:=hB
   refine⟨fun h1=>(by rw [hr] at h1;cases h1),fun q hq=> ?_⟩
   rw [hr] at hq
   have hq2:q=i∨q=j:=by simpa using hq
   rcases hq2 with rfl|rfl
   · exact wpOp_mono (fun a' w' ⟨h1,h3⟩=>⟨fun _=>h1,wpAnyZ_of_tree hlt hsel hQ s n z _ a' w' (fun _=>h1) (hN.list (by rw [hr];simp)) hs h3⟩) (wpOp_list h0 h)
   · exact wpOp_mono (fun a' w' ⟨h1,h3⟩=>⟨fun _=>h1,wpAnyZ_of_tree hlt hsel hQ t n z _ a' w' (fun _=>h1) (hN.list (by rw [hr];simp)) ht h3⟩) (wpOp_list h0' h')
 | .three i s j t k u,0,z,listed,a,w,hC,hN,hB,h=>by simp [treeB] at hB
 | .three i s j t k u,n+1,z,listed,a,w,hC,hN,hB,h=>by
   obtain⟨⟨o,h0,h⟩,⟨o',h0',h'⟩,⟨o'',h0'',h''⟩⟩:=h
   simp only [treeB,Bool.and_eq_true,decide_eq_true_eq,Bool.not_eq_true'] at hB
   obtain⟨⟨⟨⟨⟨⟨⟨hz,hil⟩,hjl⟩,hkl⟩,hr⟩,hs⟩,ht⟩,hu⟩:=hB
   refine⟨fun h1=>(by rw [hr] at h1;cases h1),fun q hq=> ?_⟩
   rw [hr] at hq
   have hq2:q=i∨q=j∨q=k:=by simpa using hq
   rcases hq2 with rfl|rfl|rfl
   · exact wpOp_mono (fun a' w' ⟨h1,h3⟩=>⟨fun _=>h1,wpAnyZ_of_tree hlt hsel hQ s n z _ a' w' (fun _=>h1) (hN.list (by rw [hr];simp)) hs h3⟩) (wpOp_list h0 h)
   · exact wpOp_mono (fun a' w' ⟨h1,h3⟩=>⟨fun _=>h1,wpAnyZ_of_tree hlt hsel hQ t n z _ a' w' (fun _=>h1) (hN.list (by rw [hr];simp)) ht h3⟩) (wpOp_list h0' h')
   · exact wpOp_mono (fun a' w' ⟨h1,h3⟩=>⟨fun _=>h1,wpAnyZ_of_tree hlt hsel hQ u n z _ a' w' (fun _=>h1) (hN.list (by rw [hr];simp)) hu h3⟩) (wpOp_list h0'' h'')
theorem wp_region_tree{id:Nat}{a:Act}{w:World}{l:List Oper}(C:World→Prop)(lt:List Nat)(s:Tr)(hm:P.follows .mixedOrders=true)(hsel:Region.noSelect l.toArray=true)(hlt:lateB .any l.toArray lt=true)
 (hB:treeB .any l.toArray lt s l.length false (Array.replicate l.toArray.size false)=true) (hC:C { w with drawn:=w.drawn+1 }) (hQ: ∀c a d v w,Q (.panic c) (Act.put a d v) w→Q (.panic c) a w)
 (h:wpTree P l.toArray Q lt s C a { w with drawn:=w.drawn+1 }):(Code.region id l.toArray true).wp P Q a w:=by
 refine wp_region_any hm (wpAnyZ.any (C:=C) (lt:=lt) _ _ _ _ ?_)
 have:=wpAnyZ_of_tree (md:= .any) hlt hsel hQ s l.length false (Array.replicate l.toArray.size false) a _ (fun _=>hC) (fun m o ho hm=>by have h5:=(Array.getElem?_eq_some_iff.1 ho).1;simp [Array.getD] at hm) hB h
 simpa using this
end
end Go.Proofs.YthcmecokejemcaaGreatDoor
namespace Go.Proofs.YthcmecokejemcaaGreatDoor
open Go.RowKit Go.Shelf
structure Lo(M:Nat)(w:World)(s:Nat)(F:Nat→Prop):Prop where
 h: ∃ha,w.cell? ⟨s,3,none⟩=some (.pointer (some ⟨ha,0,none⟩))∧ha<M
 s:s<M
 t:1<M
 F: ∀b,F b→b<M
section
variable {w w' :World} {s M:Nat} {F:Nat→Prop} {R:Nat→Option (List Nat)} {H:List Nat} {P q most last G:Nat}
theorem StoreIs.lo(h:StoreIs w s F R H P q most last G):Lo w.heap.size w s F:=by
 refine⟨?_,h.s_lt, ?_,fun b hb=>h.lt hb⟩
 · obtain⟨a,ha,t,v,L,mem,sl,Fh,h⟩:=h
   refine⟨ha,h.ch, ?_⟩
   obtain⟨⟨mb,D,k1,rfl⟩,k2,k3⟩:=h.heap
   exact cell_lt k1.hs
 · obtain⟨a,ha,t,v,L,mem,sl,Fh,h⟩:=h
   obtain⟨⟨mb,D,k1,rfl⟩,k2,k3⟩:=h.heap
   exact cell_lt (a:=⟨1,0,none⟩) (k1.tab 0 (by decide))
theorem Lo.keep(h:Lo M w s F)(hb:w'.heap[s]? =w.heap[s]?):Lo M w' s F:=by
 obtain⟨⟨ha,h1,h2⟩,h3,h4,h5⟩:=h
 exact⟨⟨ha,(World.cell?_of_block (a:=⟨s,3,none⟩) hb).trans h1,h2⟩,h3,h4,h5⟩
theorem Lo.low(h:Lo M w s F)(hb:Below M w w'):Lo M w' s F:=h.keep (hb.block s h.s)
theorem StoreIs.low(h:StoreIs w s F R H P q most last G)(hl:Lo M w s F)(hb:Below M w w'):StoreIs w' s F R H P q most last G:=by
 obtain⟨a,ha,t,v,L,mem,sl,Fh,h⟩:=h
 obtain⟨⟨ha',h1,h2⟩,h3,h4,h5⟩:=hl
 rw [h.ch] at h1
 have hh:ha=ha' :=by simpa using h1
 subst hh
 have hFe:=h.F_eq
 have hk:=KB.from_below hb (Nat.le_refl M)
 have hno: ∀b,b<M→ ¬(M≤b):=fun b hb=>by omega
 exact⟨a,ha,t,v,L,mem,sl,Fh,{ h with
  ca:=hk.cell h.ca (hno _ h3)
  ch:=hk.cell h.ch (hno _ h3)
  ct:=hk.cell h.ct (hno _ h3)
  heap:=h.heap.kb hk (fun k hf=>hno k (h5 k (by rw [hFe];exact .inl hf))) (hno _ h2) (hno _ h4)
  tab:=h.tab.kb hk (fun b hf=>hno b (h5 b (by rw [hFe];exact .inr hf))) }⟩
end
structure InE(N M:Nat)(W:World)(s t:Nat)(F:Nat→Prop)(bl b2:Nat)(vb:Option Nat)(H:List Nat)(P q most last G:Nat)(R:Nat→Option (List Nat))(st:List Nat):Prop where
 str:StoreIs W s F R H P q most last G
 lo:Lo M W s F
 tk: ∃v,v.ownBlock=vb∧Tk N W s t F bl b2 v st
 l1:bl<M
 l2:b2<M
 l3: ∀k,vb=some k→k<M
 sh:Short R
 w64: ∀x∈st,x<18446744073709551616
 len:st.length≤100000
 hN:s<N∧1<N
 hbN:N≤bl
section
variable {N M:Nat} {W W' w w' :World} {s t:Nat} {F:Nat→Prop} {bl b2:Nat} {vb:Option Nat} {H:List Nat} {P q most last G:Nat} {R R' :Nat→Option (List Nat)} {st st' :List Nat}
theorem box_low{b:Nat}{T:TypeId}{vs:List Value}(h:Box W b T vs)(hb:Below M W W')(hl:b<M):Box W' b T vs:=h.block (hb.block b hl)
theorem InE.low(h:InE N M W s t F bl b2 vb H P q most last G R st)(hb:Below M W W'):InE N M W' s t F bl b2 vb H P q most last G R st:=by
 obtain⟨v,e,k⟩:=h.tk
 exact { h with
  str:=h.str.low h.lo hb
  lo:=h.lo.low hb
  tk:=⟨v,e,box_low k.bx hb h.l1,box_low k.b2x hb h.l2,rows_keep k.row fun z hz=>hb.block z (h.l3 z (e▸hz)),k.fl,k.f2,k.fr,k.ne⟩ }
theorem InE.fb(h:InE N M W s t F bl b2 vb H P q most last G R st): ∀b,FB F bl b→b<M:=fun b hb=>by
 rcases hb with hb|hb
 · exact h.lo.F b hb
 · rw [hb];exact h.l1
theorem InE.turn(h:InE N M W s t F bl b2 vb H P q most last G R st)(hs:StoreIs W' s F R' H P q most last G)(hT:Turn W F W' F)(hR:Short R'):InE N M W' s t F bl b2 vb H P q most last G R' st:=by
 obtain⟨v,e,k⟩:=h.tk
 exact { h with
  str:=hs
  lo:=h.lo.keep (hT.keep s h.str.s_lt h.str.s_off)
  tk:=⟨v,e,k.turn hT⟩
  sh:=hR }
theorem Turn.low(hT:Turn w F W F)(hb:Below w.heap.size W W'):Turn w F W' F:=
 ⟨hb.os.trans hT.os,hb.tape.trans hT.tape,hb.output.trans hT.output,Nat.le_trans hT.size hb.size,fun k hk hn=>(hb.block k hk).trans (hT.keep k hk hn),fun _ h=> .inl h⟩
theorem Own3.turn{B:Nat}{v1 v2 v3:Value}{l1 l2 l3:List Nat}(h:Own3 W B v1 l1 v2 l2 v3 l3)(hT:Turn W F W' F)(hF: ∀b,F b→b<B):Own3 W' B v1 l1 v2 l2 v3 l3:=
 h.keep fun b hb hlt=>hT.keep b hlt fun hf=>by have:=hF b hf;omega
theorem fits_short{n:BN}{x:Nat}(ht:BN.Deg t)(h:Short R):Short (bputR R t x n):=by
 unfold bputR
 split
 · refine h.upd x _ fun ws hw=> ?_
   cases hw
   rw [BN.wd_len]
   have:=ht.2
   omega
 · exact h
theorem Own3.ins1{B:Nat}{v1 v2 v3 v' :Value}{l1 l2 l3 l:List Nat}(h:Own3 W B v1 l1 v2 l2 v3 l3)(hr:W'.ownsRow B 23 1 v' l.length (hsV l))(hw:Rw W W' v1.ownBlock v'.ownBlock):Own3 W' B v' l v2 l2 v3 l3:=by
 have hk: ∀(u:Value) (m:List Nat),W.ownsRow B 23 1 u m.length (hsV m)→ApartV v1 u→W'.ownsRow B 23 1 u m.length (hsV m)∧ApartV v' u:=fun u m hu ha=>by
  refine⟨row_keep hu fun b hb=>hw.1.block b (row_ge hu hb).2 (fun e=>ha b e.symm hb),fun b hb he=> ?_⟩
  rcases hw.2 with h1|h1
  · rw [h1] at hb;exact ha b hb he
  · have:=h1 b hb
    have:=(row_ge hu he).2
    omega
 obtain⟨k2,a2⟩:=hk v2 l2 h.r2 h.a12
 obtain⟨k3,a3⟩:=hk v3 l3 h.r3 h.a13
 exact⟨hr,k2,k3,a2,a3,h.a23⟩
structure Rows(A:World)(B:Nat)(bn:Nat→Prop)(W:World)(v1:Value)(l1:List Nat)(v2:Value)(l2:List Nat)(v3:Value)(l3:List Nat):Prop where
 own:Own3 W B v1 l1 v2 l2 v3 l3
 size:A.heap.size≤W.heap.size
 blt: ∀b,bn b→b<A.heap.size
 low:Below B A W
 off: ∀b,v1.ownBlock=some b∨v2.ownBlock=some b∨v3.ownBlock=some b→ ¬bn b
 box: ∀b,bn b→W.heap[b]? =A.heap[b]?
section
variable {A:World} {B:Nat} {bn:Nat→Prop} {v1 v2 v3 v' :Value} {l1 l2 l3 l:List Nat}
theorem Rows.start(h:Own3 A B v1 l1 v2 l2 v3 l3)(hbn: ∀b,bn b→b<A.heap.size)(hoff: ∀b,v1.ownBlock=some b∨v2.ownBlock=some b∨v3.ownBlock=some b→ ¬bn b)(hB:B≤A.heap.size):Rows A B bn A v1 l1 v2 l2 v3 l3:=
 ⟨h,Nat.le_refl _,hbn,(Below.refl _ _).mono hB,hoff,fun _ _=>rfl⟩
theorem Rows.below(h:Rows A B bn W v1 l1 v2 l2 v3 l3)(hB:B≤A.heap.size)(hb:Below W.heap.size W W'):Rows A B bn W' v1 l1 v2 l2 v3 l3:=
 ⟨h.own.below hb,Nat.le_trans h.size hb.size,h.blt,h.low.trans (hb.mono (Nat.le_trans hB h.size)),h.off,fun b hn=>(hb.block b (Nat.lt_of_lt_of_le (h.blt b hn) h.size)).trans (h.box b hn)⟩
theorem Rows.flip12(h:Rows A B bn W v1 l1 v2 l2 v3 l3):Rows A B bn W v2 l2 v1 l1 v3 l3:=⟨h.own.flip12,h.size,h.blt,h.low,fun b hb=>h.off b (by rcases hb with hb|hb|hb<;>simp [hb]),h.box⟩
theorem Rows.flip13(h:Rows A B bn W v1 l1 v2 l2 v3 l3):Rows A B bn W v3 l3 v2 l2 v1 l1:=⟨h.own.flip13,h.size,h.blt,h.low,fun b hb=>h.off b (by rcases hb with hb|hb|hb<;>simp [hb]),h.box⟩
theorem Rows.ins1(h:Rows A B bn W v1 l1 v2 l2 v3 l3)(hr:W'.ownsRow B 23 1 v' l.length (hsV l))(hw:Rw W W' v1.ownBlock v'.ownBlock)(hB:B≤A.heap.size):Rows A B bn W' v' l v2 l2 v3 l3:=by
 have hlow:Below B W W' :=hw.low (Nat.le_trans hB h.size) fun k hk=>(row_ge h.own.r1 hk).1
 refine⟨h.own.ins1 hr hw,Nat.le_trans h.size hw.1.size,h.blt,h.low.trans hlow,fun b hb=> ?_,fun b hn=>(hw.1.block b (Nat.lt_of_lt_of_le (h.blt b hn) h.size) (fun e=>h.off b (.inl e.symm) hn)).trans (h.box b hn)⟩
 rcases hb with hb|hb|hb
 · rcases hw.2 with h1|h1
   · exact h.off b (.inl (h1▸hb))
   · intro hn;have:=h1 b hb;have:=h.blt b hn;have:=h.size;omega
 · exact h.off b (.inr (.inl hb))
 · exact h.off b (.inr (.inr hb))
end
end
structure Hv(W:World)(vb x:Nat)(v1 v2 v3:Value):Prop where
 h:W.heap[vb]? =some (.cells #[.int .u64 (x:Nat)] 23 (0,0))
 n1:v1.ownBlock≠some vb
 n2:v2.ownBlock≠some vb
 n3:v3.ownBlock≠some vb
section
variable {A W W' :World} {B vb x:Nat} {bn:Nat→Prop} {v1 v2 v3 v' :Value} {l1 l2 l3 l:List Nat}
theorem Hv.lt(h:Hv W vb x v1 v2 v3):vb<W.heap.size:=(Array.getElem?_eq_some_iff.1 h.h).1
theorem Hv.below(h:Hv W vb x v1 v2 v3)(hb:Below W.heap.size W W'):Hv W' vb x v1 v2 v3:=⟨(hb.block vb h.lt).trans h.h,h.n1,h.n2,h.n3⟩
theorem Hv.flip12(h:Hv W vb x v1 v2 v3):Hv W vb x v2 v1 v3:=⟨h.h,h.n2,h.n1,h.n3⟩
theorem Hv.flip13(h:Hv W vb x v1 v2 v3):Hv W vb x v3 v2 v1:=⟨h.h,h.n3,h.n2,h.n1⟩
theorem Hv.ins1(h:Hv W vb x v1 v2 v3)(hw:Rw W W' v1.ownBlock v'.ownBlock):Hv W' vb x v' v2 v3:=
 ⟨(hw.1.block vb h.lt (fun e=>h.n1 e.symm)).trans h.h,fun e=>by
   rcases hw.2 with h1|h1
   · exact h.n1 (h1.symm.trans e)
   · have:=h1 vb e;have:=h.lt;omega,h.n2,h.n3⟩
theorem Rows.vblk(h:Rows A B bn W v1 l1 v2 l2 v3 l3)(hB:B≤A.heap.size)(x:Nat):Rows A B bn (W.alloc (.cells #[.int .u64 (x:Nat)] 23)) v1 l1 v2 l2 v3 l3∧Hv (W.alloc (.cells #[.int .u64 (x:Nat)] 23)) W.heap.size x v1 v2 v3:=by
 have hn: ∀(v:Value) (l:List Nat),W.ownsRow B 23 1 v l.length (hsV l)→v.ownBlock≠some W.heap.size:=fun v l hr he=>by have:=rows_lt hr _ he;omega
 exact⟨h.below hB ((Below.refl _ W).alloc (Nat.le_refl _) _),⟨heap_alloc_new W _,hn _ _ h.own.r1,hn _ _ h.own.r2,hn _ _ h.own.r3⟩⟩
theorem Rows.vblkd(h:Rows A B bn W v1 l1 v2 l2 v3 l3)(hB:B≤A.heap.size)(x:Nat):Rows A B bn (W.alloc (.cells #[.int .u64 (x:Nat)] 23)).drew v1 l1 v2 l2 v3 l3∧Hv (W.alloc (.cells #[.int .u64 (x:Nat)] 23)).drew W.heap.size x v1 v2 v3:=by
 obtain⟨h1,h2⟩:=h.vblk hB x
 exact⟨h1.below hB (below_drawn _),h2.below (below_drawn _)⟩
theorem Rows.exw(h:Rows A B bn W v1 l1 v2 l2 v3 l3): ∃X:Exw (fun b=>B≤b∧ ¬bn b) A,W=X.W:=
 ⟨⟨W,h.size,fun k hk hn=>by
   by_cases hkb:bn k
   · exact h.box k hkb
   · exact h.low.block k (by by_cases h9:B≤k
                             · exact absurd ⟨h9,hkb⟩ hn
                             · omega)⟩,rfl⟩
def RowC(A:World)(B:Nat)(bn:Nat→Prop)(W:World)(v1 v2 v3:Value)(l1:List Nat)(l2:List Nat)(l3:List Nat)(e:Ending)(w' :World):Prop:=
 ∃A' c',e= .returned (.slice A' l1.length c')∧Rows A B bn w' (.slice A' l1.length c') l1 v2 l2 v3 l3∧ ∀vb x,Hv W vb x v1 v2 v3→Hv w' vb x (.slice A' l1.length c') v2 v3
theorem Rows.call(h:Rows A B bn W v1 l1 v2 l2 v3 l3)(hB:B≤A.heap.size)(hv:Hv W vb x v1 v2 v3)(k:Nat)(hk:k≤l1.length)(hl:l1.length≤100000):
 Calls Tryz.prog 62 #[v1, .int .i64 (k:Nat), .slice (some ⟨vb,0,none⟩) 1 1] W (RowC A B bn W v1 v2 v3 (l1.take k++x::l1.drop k) l2 l3):=by
 refine(slIns_at (Nat.le_trans hB h.size) h.own.r1 k hk hl hv.h hv.n1).mono ?_
 rintro e w' ⟨v',rfl,hr,hw⟩
 obtain⟨A',c',rfl⟩:=ownN_form hr
 exact⟨A',c',rfl,h.ins1 hr hw hB,fun vb x hx=>hx.ins1 hw⟩
end
def splV:Option (Nat × Nat × Nat)→Value
 |none=> .agg #[.bool false, .int .u64 0, .int .u64 0, .int .u64 0]
 |some (a,b,r)=> .agg #[.bool true, .int .u64 (a:Nat), .int .u64 (b:Nat), .int .u64 (r:Nat)]
def BInR(N M:Nat)(w:World)(s t:Nat)(F:Nat→Prop)(bl b2:Nat)(vb:Option Nat)(H:List Nat)(P q most last G:Nat)(p:(Nat→Option (List Nat)) × List Nat × Option (Nat × Nat × Nat))(e:Ending)(w' :World):Prop:=
 e= .returned (splV p.2.2)∧InE N M w' s t F bl b2 vb H P q most last G p.1 p.2.1.reverse∧Turn w (FB F bl) w' (FB F bl)∧ ∀a b r,p.2.2=some (a,b,r)→a<18446744073709551616∧b<18446744073709551616∧r<18446744073709551616
def insGo(R:Nat→Option (List Nat))(t h:Nat)(st:List Nat)(n:BN)(k ak av:Nat)(rec:(Nat→Option (List Nat)) × List Nat × Option (Nat × Nat × Nat)):(Nat→Option (List Nat)) × List Nat × Option (Nat × Nat × Nat):=
 if n.kids= [] then bsplit R t h st (n.insKV k ak av).more
 else match rec.2.2 with
  |none=>bsplit rec.1 t h rec.2.1 n.more
  |some (a,b,r)=>bsplit rec.1 t h rec.2.1 ((n.insKV k a b).insKid (k+1) r).more
theorem bins_node{R:Nat→Option (List Nat)}{t h ak av f k:Nat}{st:List Nat}{n:BN}{key:ByteArray}(e1:bnG R t h=n)(e2:bnE R t h=0)(hk:plK R n.keys key=k):
 bins t key ak av (f+1) R st h=insGo R t h st n k ak av (bins t key ak av f R st (n.kids.getD k 0)):=by
 subst e1 hk
 conv=>lhs;unfold bins
 rw [if_neg (by rw [e2];simp)]
 unfold insGo
 split
 · rfl
 · rfl
theorem bins_off{R:Nat→Option (List Nat)}{t h ak av f:Nat}{st:List Nat}{key:ByteArray}(e2:bnE R t h≠0):bins t key ak av f R st h=(R,st,none):=by
 cases f with
 |zero=>rfl
 |succ f=>unfold bins;rw [if_pos e2]
structure Mid(N M:Nat)(w:World)(s t:Nat)(F:Nat→Prop)(bl b2:Nat)(vb:Option Nat)(H:List Nat)(P q most last G:Nat)(D:(Nat→Option (List Nat)) × List Nat × Option (Nat × Nat × Nat))(x b6 b12 b13 B:Nat)(wc:World)(R:Nat→Option (List Nat))(st:List Nat)(n:BN)(vk vv vi:Value):Prop where
 D:D=bsplit R t x st.reverse n.more
 e:InE N M wc s t F bl b2 vb H P q most last G R st
 turn:Turn w (FB F bl) wc (FB F bl)
 own:Own3 wc B vk n.keys vv n.vals vi n.kids
 x13:Box wc b13 48 [vk,vv,vi, .int .u64 (n.size:Nat)]
 x6:Box wc b6 74 [.pointer (some ⟨s,0,none⟩), .int .i64 (t:Nat)]
 x12:Box wc b12 88 [.bool false, .int .u64 0, .int .u64 0, .int .u64 0]
 off: ∀b,vk.ownBlock=some b∨vv.ownBlock=some b∨vi.ownBlock=some b→b≠b13
 ok:n.Ok
 l1:n.keys.length≤32
 l2:n.vals.length=n.keys.length
 l3:n.kids= []∨n.kids.length=n.keys.length+1
theorem Own3.off{W W' :World}{B:Nat}{v1 v2 v3:Value}{l1 l2 l3:List Nat}(h:Own3 W B v1 l1 v2 l2 v3 l3)(hk: ∀b,v1.ownBlock=some b∨v2.ownBlock=some b∨v3.ownBlock=some b→W'.heap[b]? =W.heap[b]?):Own3 W' B v1 l1 v2 l2 v3 l3:=
 ⟨row_keep h.r1 fun b hb=>hk b (.inl hb),row_keep h.r2 fun b hb=>hk b (.inr (.inl hb)),row_keep h.r3 fun b hb=>hk b (.inr (.inr hb)),h.a12,h.a13,h.a23⟩
theorem ins_ok{l:List Nat}(h: ∀z∈l,z<18446744073709551616)(k:Nat){x:Nat}(hx:x<18446744073709551616): ∀z∈l.take k++x::l.drop k,z<18446744073709551616:=fun z hz=>by
 rcases List.mem_append.1 hz with h1|h1
 · exact h z (List.mem_of_mem_take h1)
 · rcases List.mem_cons.1 h1 with h2|h2
   · rw [h2];exact hx
   · exact h z (List.mem_of_mem_drop h2)
theorem ins_len{l:List Nat}{k:Nat}(hk:k≤l.length)(x:Nat):(l.take k++x::l.drop k).length=l.length+1:=by simp;omega
theorem mid_of{N M:Nat}{w w4 W W' :World}{s t:Nat}{F:Nat→Prop}{bl b2:Nat}{vb:Option Nat}{H:List Nat}{P q most last G:Nat}{D:(Nat→Option (List Nat)) × List Nat × Option (Nat × Nat × Nat)}{x b6 b12 b13 B:Nat}{bn:Nat→Prop}{R:Nat→Option (List Nat)}{st:List Nat}{n:BN}{vk vv vi:Value}(hbn:bn b13)
 (hD:D=bsplit R t x st.reverse n.more) (hE:InE N M w4 s t F bl b2 vb H P q most last G R st) (hMB:M≤B) (hwB:w.heap.size≤B) (hT:Turn w (FB F bl) w4 (FB F bl))
 (hR:Rows w4 B bn W vk n.keys vv n.vals vi n.kids) (hg:W.grownBy W' (some b13)) (hB:B≤b13) (hB4:B≤w4.heap.size) (x6:Box w4 b6 74 [.pointer (some ⟨s,0,none⟩), .int .i64 (t:Nat)]) (l6:b6<B)
 (x12:Box w4 b12 88 [.bool false, .int .u64 0, .int .u64 0, .int .u64 0]) (l12:b12<B) (x13:Box W' b13 48 [vk,vv,vi, .int .u64 (n.size:Nat)]) (hok:n.Ok) (l1:n.keys.length≤32) (l2:n.vals.length=n.keys.length) (l3:n.kids= []∨n.kids.length=n.keys.length+1):
 Mid N M w s t F bl b2 vb H P q most last G D x b6 b12 b13 B W' R st n vk vv vi:=by
 have hb:Below B W W' :=⟨hg.os,hg.tape,hg.output,hg.size,fun k hk=>hg.block k (by have:=hR.size;omega) (fun e=>by have:k=b13:=Option.some.inj e;omega)⟩
 have h4:Below B w4 W' :=hR.low.trans hb
 refine⟨hD,hE.low (h4.mono hMB),hT.low (h4.mono hwB),hR.own.off fun b hbb=>hg.block b ?_ fun e=>hR.off b hbb (by rw [show b=b13 from Option.some.inj e];exact hbn),x13,box_low x6 h4 l6,box_low x12 h4 l12,fun b hbb e=>hR.off b hbb (by rw [e];exact hbn),hok,l1,l2,l3⟩
 rcases hbb with h1|h1|h1
 · exact rows_lt hR.own.r1 b h1
 · exact rows_lt hR.own.r2 b h1
 · exact rows_lt hR.own.r3 b h1
def spC:Option (Nat × Nat × Nat)→List Value
 |none=> [.bool false, .int .u64 0, .int .u64 0, .int .u64 0]
 |some (a,b,r)=> [.bool true, .int .u64 (a:Nat), .int .u64 (b:Nat), .int .u64 (r:Nat)]
structure Up(N M:Nat)(w4:World)(s t:Nat)(F:Nat→Prop)(bl b2:Nat)(vb:Option Nat)(H:List Nat)(P q most last G:Nat)(rec:(Nat→Option (List Nat)) × List Nat × Option (Nat × Nat × Nat))(b17:Nat)(o:Option (Nat × Nat × Nat))(wc:World)(R' :Nat→Option (List Nat))(st' :List Nat):Prop where
 req:rec=(R',st'.reverse,o)
 e:InE N M wc s t F bl b2 vb H P q most last G R' st'
 turn:Turn w4 (FB F bl) wc (FB F bl)
 x17:Box wc b17 88 (spC o)
 ge:w4.heap.size≤b17
 w64: ∀a b r,o=some (a,b,r)→a<18446744073709551616∧b<18446744073709551616∧r<18446744073709551616
section
variable {A W W' :World} {B vb x:Nat} {bn:Nat→Prop} {v1 v2 v3 v' :Value} {l1 l2 l3 l:List Nat}
theorem Rows.callN(h:Rows A B bn W v1 l1 v2 l2 v3 l3)(hB:B≤A.heap.size)(hv:Hv W vb x v1 v2 v3)(k:Nat)(hk:k≤l1.length)(hl:l1.length≤100000)(e:l=l1.take k++x::l1.drop k):
 Calls Tryz.prog 62 #[v1, .int .i64 (k:Nat), .slice (some ⟨vb,0,none⟩) 1 1] W (RowC A B bn W v1 v2 v3 l l2 l3):=by
 subst e
 exact h.call hB hv k hk hl
def RowC2(A:World)(B:Nat)(bn:Nat→Prop)(v1 v3:Value)(l1:List Nat)(l2:List Nat)(l3:List Nat)(e:Ending)(w' :World):Prop:=
 ∃A' c',e= .returned (.slice A' l2.length c')∧Rows A B bn w' v1 l1 (.slice A' l2.length c') l2 v3 l3
theorem Rows.call2(h:Rows A B bn W v1 l1 v2 l2 v3 l3)(hB:B≤A.heap.size)(hv:Hv W vb x v1 v2 v3)(k:Nat)(hk:k≤l2.length)(hl:l2.length≤100000)(e:l=l2.take k++x::l2.drop k):
 Calls Tryz.prog 62 #[v2, .int .i64 (k:Nat), .slice (some ⟨vb,0,none⟩) 1 1] W (RowC2 A B bn v1 v3 l1 l l3):=by
 subst e
 refine(h.flip12.call hB hv.flip12 k hk hl).mono ?_
 rintro e w' ⟨A',c',e1,h1,_⟩
 exact⟨A',c',e1,h1.flip12⟩
end
structure Nine(A:World)(B b13 b17:Nat)(vk:Value)(lk:List Nat)(vv:Value)(lv:List Nat)(vi:Value)(li:List Nat)(sz a b r:Nat)(W:World):Prop where
 own:Own3 W B vk lk vv lv vi li
 low:Below B A W
 x13:Box W b13 48 [vk,vv,vi, .int .u64 (sz:Nat)]
 x17:Box W b17 88 (spC (some (a,b,r)))
 off: ∀z,vk.ownBlock=some z∨vv.ownBlock=some z∨vi.ownBlock=some z→z≠b13
 ge:A.heap.size≤W.heap.size
theorem nine_of{A W W' :World}{B b13 b17:Nat}{bn:Nat→Prop}{vk:Value}{lk:List Nat}{vv:Value}{lv:List Nat}{vi:Value}{li:List Nat}{sz a b r:Nat}(h13:bn b13)(h17:bn b17)(hne:b17≠b13)
 (hR:Rows A B bn W vk lk vv lv vi li) (hg:W.grownBy W' (some b13)) (hB:B≤b13) (hBA:B≤A.heap.size) (x13:Box W' b13 48 [vk,vv,vi, .int .u64 (sz:Nat)]) (x17:Box A b17 88 (spC (some (a,b,r)))):
 Nine A B b13 b17 vk lk vv lv vi li sz a b r W' :=by
 have hb:Below B W W' :=⟨hg.os,hg.tape,hg.output,hg.size,fun k hk=>hg.block k (by have:=hR.size;omega) (fun e=>by have:k=b13:=Option.some.inj e;omega)⟩
 refine⟨hR.own.off fun z hz=>hg.block z ?_ fun e=>hR.off z hz (by rw [show z=b13 from Option.some.inj e];exact h13),hR.low.trans hb,x13,x17.block ((hg.block b17 (Nat.lt_of_lt_of_le (hR.blt b17 h17) hR.size) (fun e=>hne (Option.some.inj e))).trans (hR.box b17 h17)),fun z hz e=>hR.off z hz (by rw [e];exact h13),Nat.le_trans hR.size hg.size⟩
 rcases hz with h1|h1|h1
 · exact rows_lt hR.own.r1 z h1
 · exact rows_lt hR.own.r2 z h1
 · exact rows_lt hR.own.r3 z h1
theorem exw_turn{F:Nat→Prop}{w W:World}(h:Turn w F W F): ∃X:Exw F w,W=X.W:=⟨⟨W,h.size,fun k hk hn=>h.keep k hk hn⟩,rfl⟩
theorem Turn.grown{F:Nat→Prop}{w W W' :World}(h:Turn w F W F){b:Nat}(hb:w.heap.size≤b)(hg:W.grownBy W' (some b)):Turn w F W' F:=
 ⟨hg.os.trans h.os,hg.tape.trans h.tape,hg.output.trans h.output,Nat.le_trans h.size hg.size,fun k hk hn=>(hg.block k (Nat.lt_of_lt_of_le hk h.size) (fun e=>by have:k=b:=Option.some.inj e;omega)).trans (h.keep k hk hn),fun _ h=> .inl h⟩
theorem InE.grow{N M:Nat}{W W' :World}{s t:Nat}{F:Nat→Prop}{bl b2:Nat}{vb:Option Nat}{H:List Nat}{P q most last G:Nat}{R:Nat→Option (List Nat)}{st:List Nat}(h:InE N M W s t F bl b2 vb H P q most last G R st){b:Nat}(hb:M≤b)(hM:M≤W.heap.size)(hg:W.grownBy W' (some b)):InE N M W' s t F bl b2 vb H P q most last G R st:=
 h.low ⟨hg.os,hg.tape,hg.output,hg.size,fun k hk=>hg.block k (by omega) (fun e=>by have:k=b:=Option.some.inj e;omega)⟩
theorem bin_none{N M:Nat}{w W:World}{s t:Nat}{F:Nat→Prop}{bl b2:Nat}{vb:Option Nat}{H:List Nat}{P q most last G:Nat}{D:(Nat→Option (List Nat)) × List Nat × Option (Nat × Nat × Nat)}{R:Nat→Option (List Nat)}{st:List Nat}(hE:InE N M w s t F bl b2 vb H P q most last G R st)(hM:M≤w.heap.size)(hD:D=(R,st.reverse,none))(hb:Below w.heap.size w W):
 BInR N M w s t F bl b2 vb H P q most last G D (.returned (.agg #[.bool false, .int .u64 0, .int .u64 0, .int .u64 0])) W:=by
 subst hD
 refine⟨rfl, ?_,Turn.below hb,fun a b r h=>by cases h⟩
 simp only [List.reverse_reverse]
 exact hE.low (hb.mono hM)
theorem below_four{w W:World}{m b:Nat}(h:Below m w W)(hb:m≤b)(v0 v1 v2 v3:Value):Below m w ((((W.setCell ⟨b,0,none⟩ v0).setCell ⟨b,1,none⟩ v1).setCell ⟨b,2,none⟩ v2).setCell ⟨b,3,none⟩ v3):=
 (((h.setCell (p:=⟨b,0,none⟩) hb v0).setCell (p:=⟨b,1,none⟩) hb v1).setCell (p:=⟨b,2,none⟩) hb v2).setCell (p:=⟨b,3,none⟩) hb v3
theorem CellsF.takeN{w:World}{F:Nat→Prop}{A:Option Addr}{l:List Nat}(h:CellsF w F A (hsV l))(k:Nat):CellsF w F A (hsV (l.take k)):=by
 rcases h with h|⟨b,o,h1,h2,h3,h4⟩
 · have:l= []:=by cases l with|nil=>rfl|cons a l=>simp [hsV] at h
   subst this
   exact .inl (by simp [hsV])
 · refine .inr ⟨b,o,h1,h2,h3,fun j u hu=>h4 j u ?_⟩
   have hj:j<(hsV (l.take k)).length:=(List.getElem?_eq_some_iff.1 hu).1
   rw [hsV_len,List.length_take] at hj
   rw [←hu]
   unfold hsV
   rw [List.map_take,List.getElem?_take,if_pos (by omega)]
theorem CellsF.drop{w:World}{F:Nat→Prop}{g o:Nat}{l:List Nat}(h:CellsF w F (some ⟨g,o,none⟩) (hsV l))(k:Nat):CellsF w F (some ⟨g,o+k,none⟩) (hsV (l.drop k)):=by
 rcases h with h|⟨b,o',h1,h2,h3,h4⟩
 · have:l= []:=by cases l with|nil=>rfl|cons a l=>simp [hsV] at h
   subst this
   exact .inl (by simp [hsV])
 · cases h1
   refine .inr ⟨g,o+k,rfl,h2,h3,fun j u hu=> ?_⟩
   have:=h4 (k+j) u (by rw [←hu];unfold hsV;rw [List.map_drop,List.getElem?_drop])
   rwa [←Nat.add_assoc] at this
theorem row_capN{W:World}{B:Nat}{A:Option Addr}{c:Nat}{l:List Nat}(h:W.ownsRow B 23 1 (.slice A l.length c) l.length (hsV l)):l.length≤c∧c≤maxLen∨(l= []∧c=0):=by
 rcases h.2 with ⟨h1,h2⟩|⟨g,cap,cur,h1,h2,h3,h4,h5,h6⟩
 · simp only [Value.slice.injEq] at h1;exact .inr ⟨List.eq_nil_of_length_eq_zero h2,h1.2.2⟩
 · cases h1;exact .inl ⟨by omega,h5⟩
theorem more_wrap{n:BN}(h:n.size<18446744073709551616):IntKind.u64.wrap ((n.size:Int)+1)=((n.more.size:Nat):Int):=by
 rw [wrapU]
 unfold toU
 show((((n.size:Int)+1)%18446744073709551616).toNat:Int)=(((n.size+1)%18446744073709551616:Nat):Int)
 omega
theorem left_wrap(a b:Nat)(ha:a<18446744073709551616)(hb:b<18446744073709551616): ∃z:Nat,IntKind.u64.wrap ((a:Int)-(b:Int))=(z:Int)∧z<18446744073709551616∧IntKind.u64.wrap ((z:Int)-1)=(((a+36893488147419103232-b-1)%18446744073709551616:Nat):Int):=by
 refine⟨toU ((a:Int)-b),wrapU _,toU_lt _, ?_⟩
 rw [wrapU]
 unfold toU
 omega
theorem bsz_step(R:Nat→Option (List Nat))(t x b:Nat)(hx:(bnG R t x).size<18446744073709551616):IntKind.u64.wrap ((b:Int)+IntKind.u64.wrap (bszR R t x))=(((b+(bnG R t x).size)%18446744073709551616:Nat):Int):=by
 unfold bszR
 rw [wrapU,wrapU]
 unfold toU wrap64
 omega
theorem rsum_lt(R:Nat→Option (List Nat))(t:Nat): ∀(l:List Nat) (b:Nat),b<18446744073709551616→rsum R t l b<18446744073709551616
 | [],b,h=>h
 |x::l,b,h=>rsum_lt R t l _ (Nat.mod_lt _ (by decide))
theorem rsum_step(R:Nat→Option (List Nat))(t:Nat)(l:List Nat)(b j:Nat)(hj:j<l.length):rsum R t (l.take (j+1)) b=(rsum R t (l.take j) b+(bnG R t l[j]).size)%18446744073709551616:=by
 unfold rsum
 rw [List.take_succ_eq_append_getElem hj,List.foldl_append]
 rfl
theorem BNV.sized{w:World}{F:Nat→Prop}{v1 v2 v3:Value}{k v i:List Nat}{s s' :Nat}(h:BNV w F (.agg #[v1,v2,v3, .int .u64 (s:Nat)]) ⟨k,v,i,s⟩):BNV w F (.agg #[v1,v2,v3, .int .u64 (s' :Nat)]) ⟨k,v,i,s'⟩:=by
 obtain⟨⟨Ak,ck,Av,cv,Ai,ci,e,k1,k2,k3⟩,ll⟩:=h
 refine⟨⟨Ak,ck,Av,cv,Ai,ci, ?_,k1,k2,k3⟩,ll⟩
 simp only [Value.agg.injEq] at e ⊢
 simpa using e
def bsplit.proj(R:Nat→Option (List Nat))(t x:Nat)(st:List Nat)(n:BN)(ls rs:Nat):(Nat→Option (List Nat)) × List Nat × Option (Nat × Nat × Nat):=
 let p:=btake (bputR R t x ⟨n.keys.take t,n.vals.take t,n.kids.take (t+1),ls⟩) t st.reverse ⟨n.keys.drop (t+1),n.vals.drop (t+1),n.kids.drop (t+1),rs⟩
 (p.1,p.2.1,some (n.keys.getD t 0,n.vals.getD t 0,p.2.2))
structure Halves(A W:World)(FF:Nat→Prop)(b18 b19 t:Nat)(n:BN)(l1 l2 l3 r1 r2 r3:Value):Prop where
 low:Below A.heap.size A W
 x18:Box W b18 48 [l1,l2,l3, .int .u64 0]
 x19:Box W b19 48 [r1,r2,r3, .int .u64 0]
 g18:A.heap.size≤b18
 g19:A.heap.size≤b19
 ne:b18≠b19
 vl:BNV A FF (.agg #[l1,l2,l3, .int .u64 (0:Nat)]) ⟨n.keys.take t,n.vals.take t,n.kids.take (t+1),0⟩
 vr:BNV A FF (.agg #[r1,r2,r3, .int .u64 (0:Nat)]) ⟨n.keys.drop (t+1),n.vals.drop (t+1),n.kids.drop (t+1),0⟩
theorem sl_h(w:World)(g c len k:Nat)(hk:k≤c):(Instr.slice 43 (.slice (some ⟨g,0,none⟩) len c) none (some (.int .i64 (k:Nat))) none).run Tryz.prog w= .ok (.slice (some ⟨g,0,none⟩) k c) w:=by
 rw [run_slice_h (P:=Tryz.prog) w 43 (some ⟨g,0,none⟩) len c (by kernel_rfl) .i64 (k:Nat) (by omega) (by omega)]
 simp [go_sem]
theorem sl_l(w:World)(g c len k l2:Nat)(hk:k+1≤len)(hc:len≤c)(hlt:k+1<len)(h2:l2=len-(k+1)):(Instr.slice 43 (.slice (some ⟨g,0,none⟩) len c) (some (.int .i64 ((k:Nat)+1))) none none).run Tryz.prog w= .ok (.slice (some ⟨g,k+1,none⟩) l2 (c-(k+1))) w:=by
 rw [run_slice_l (P:=Tryz.prog) w 43 (some ⟨g,0,none⟩) len c (by kernel_rfl) .i64 ((k:Nat)+1) (by omega) (by omega)]
 have e:((k:Int)+1).toNat=k+1:=by omega
 have hne:c≠k+1:=by omega
 subst h2
 simp [go_sem,e,hne]
theorem InE.take{N M:Nat}{W W' :World}{s t:Nat}{F:Nat→Prop}{bl b2:Nat}{vb:Option Nat}{H:List Nat}{P q most last G:Nat}{R:Nat→Option (List Nat)}{st:List Nat}{v' :Value}{st' :List Nat}{n:BN}{p:(Nat→Option (List Nat)) × List Nat × Nat}(h:InE N M W s t F bl b2 vb H P q most last G R st)(ht:BN.Deg t)(hp:p=btake R t st.reverse n)
 (h1:v'.ownBlock=vb) (h2:st'.reverse=p.2.1) (h3:StoreIs W' s F p.1 H P q most last G) (h4:Turn W (FB F bl) W' (FB F bl)) (h5:Tk N W' s t F bl b2 v' st'):InE N M W' s t F bl b2 vb H P q most last G p.1 p.2.1.reverse∧p.2.2<18446744073709551616:=by
 have hst:p.2.1.reverse=st' :=by rw [←h2,List.reverse_reverse]
 have hpp:(Short p.1∧(∀x∈st',x∈st)∧st'.length≤st.length)∧p.2.2<18446744073709551616:=by
  rcases List.eq_nil_or_concat st with e|⟨l,x,e⟩
  · subst e
    subst hp
    have:st' = []:=by rw [←hst];rfl
    subst this
    exact⟨⟨h.sh,fun x hx=>hx,Nat.le_refl _⟩,by show 0<_;decide⟩
  · rw [List.concat_eq_append] at e
    subst e
    have e2:btake R t (l++ [x]).reverse n=(bputR R t x n,l.reverse,x):=by simp [btake]
    rw [e2] at hp
    subst hp
    have:st' =l:=by rw [←hst];simp
    subst this
    exact⟨⟨fits_short ht h.sh,fun x hx=>by simp [hx],by simp⟩,h.w64 x (by simp)⟩
 obtain⟨⟨q1,q2,q3⟩,q4⟩:=hpp
 refine⟨?_,q4⟩
 rw [hst]
 exact { h with
  str:=h3
  lo:=h.lo.keep (h4.keep s h.str.s_lt (fun hf=>by rcases hf with hf|hf;exact h.str.s_off hf;have:=h.hN.1;have:=h.hbN;omega))
  tk:=⟨v',h1,h5⟩
  sh:=q1
  w64:=fun x hx=>h.w64 x (q2 x hx)
  len:=Nat.le_trans q3 h.len }
structure Lp(A W:World)(b18 b19:Nat)(l1 l2 l3 r1 r2 r3:Value)(z:Nat):Prop where
 low:Below A.heap.size A W
 x18:Box W b18 48 [l1,l2,l3, .int .u64 0]
 x19:Box W b19 48 [r1,r2,r3, .int .u64 (z:Nat)]
end Go.Proofs.YthcmecokejemcaaGreatDoor
