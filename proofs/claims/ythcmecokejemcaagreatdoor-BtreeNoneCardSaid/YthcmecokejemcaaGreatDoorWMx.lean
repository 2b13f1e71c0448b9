/-
  The seat's own texts, part x: SlI, BtWD, BtWE, BtWF, BsP, BtWG.
-/
import Derived.Test.YthcmecokejemcaaGreatDoorWMw
import Derived.Shelf.Spec.SlicesInsert
import Derived.Lib.AppendZerosOnto
import Derived.Laws.NewBlocks
import Derived.Laws.OwnMore
set_option linter.unusedSimpArgs false
set_option linter.unusedVariables false
set_option maxHeartbeats 16000000
namespace Go.Proofs.YthcmecokejemcaaGreatDoor
open Go.RowKit Go.Shelf Go.Lib
def putA(cur:Array Value):Nat→List Value→Array Value
 |_,[]=>cur
 |o,v::vs=>putA (cur.setIfInBounds o v) (o+1) vs
theorem putA_size: ∀(vs:List Value) (o:Nat) (cur:Array Value),(putA cur o vs).size=cur.size
 | [],_,_=>rfl
 |v::vs,o,cur=>by unfold putA;rw [putA_size vs,Array.size_setIfInBounds]
theorem putA_list: ∀(vs:List Value) (o:Nat) (cur:Array Value),o+vs.length≤cur.size→(putA cur o vs).toList=cur.toList.take o++(vs++cur.toList.drop (o+vs.length))
 | [],o,cur,_=>by simp [putA]
 |v::vs,o,cur,h=>by
  simp only [List.length_cons] at h
  unfold putA
  rw [putA_list vs (o+1) _ (by rw [Array.size_setIfInBounds];omega),Array.toList_setIfInBounds]
  have hlt:o<cur.toList.length:=by rw [Array.length_toList];omega
  rw [List.take_set,List.drop_set_of_lt (by omega),List.take_succ_eq_append_getElem hlt,List.set_append_right _ _ (by rw [List.length_take];omega)]
  rw [List.length_take,Nat.min_eq_left (by omega),Nat.sub_self]
  simp only [List.set_cons_zero,List.append_assoc,List.cons_append,List.nil_append,List.length_cons]
  rw [show o+(vs.length+1)=o+1+vs.length by omega]
theorem setCell_heap{w:World}{g o:Nat}{cur:Array Value}{e:TypeId}{fr:Nat × Nat}(h:w.heap[g]? =some (.cells cur e fr))(v:Value):(w.setCell ⟨g,o,none⟩ v).heap[g]? =some (.cells (cur.setIfInBounds o v) e fr):=by
 simp [World.setCell,Array.getElem?_modify,h]
theorem setCells_heap: ∀(vs:List Value) (o:Nat) (w:World) {g:Nat} {cur:Array Value} {e:TypeId} {fr:Nat × Nat},w.heap[g]? =some (.cells cur e fr)→(w.setCells g o vs).heap[g]? =some (.cells (putA cur o vs) e fr)
 | [],_,_,_,_,_,_,h=>h
 |v::vs,o,w,g,cur,e,fr,h=>setCells_heap vs (o+1) _ (setCell_heap h v)
theorem setCells_far: ∀(vs:List Value) (o:Nat) (w:World) (g k:Nat),k≠g→(w.setCells g o vs).heap[k]? =w.heap[k]?
 | [],_,_,_,_,_=>rfl
 |v::vs,o,w,g,k,h=>(setCells_far vs (o+1) _ g k h).trans (Below.heap_setCell w ⟨g,o,none⟩ v k h)
theorem setCells_same: ∀(vs:List Value) (o:Nat) (w:World) (g:Nat),(w.setCells g o vs).heap.size=w.heap.size∧(w.setCells g o vs).os=w.os∧(w.setCells g o vs).tape=w.tape∧(w.setCells g o vs).output=w.output
 | [],_,_,_=>⟨rfl,rfl,rfl,rfl⟩
 |v::vs,o,w,g=>by
  obtain⟨h1,h2,h3,h4⟩:=setCells_same vs (o+1) (w.setCell ⟨g,o,none⟩ v) g
  exact⟨by rw [World.setCells,h1];simp [World.setCell],h2,h3,h4⟩
theorem cell_in{w:World}{g j:Nat}{cur:Array Value}{e:TypeId}{fr:Nat × Nat}(h:w.heap[g]? =some (.cells cur e fr)):w.cell? ⟨g,j,none⟩=cur[j]? :=by simp [World.cell?,h]
theorem frozen_in{w:World}{g j:Nat}{cur:Array Value}{e:TypeId}(h:w.heap[g]? =some (.cells cur e (0,0))):w.frozen? ⟨g,j,none⟩=false:=by simp [World.frozen?,h]
theorem cell_one_in{w:World}{g:Nat}{u:Value}{e:TypeId}{fr:Nat × Nat}(h:w.heap[g]? =some (.cells #[u] e fr)): ∀j u',[u][j]? =some u' →w.cell? ((⟨g,0,none⟩:Addr).add j)=some u' :=by
 intro j u' hj
 cases j with
 |zero=>rw [Addr.add_lit,cell_in h];simpa using hj
 |succ j=>simp at hj
def InsR(B:Nat)(w:World)(r:Option Nat)(l:List Nat)(e:Ending)(w' :World):Prop:=
 ∃v',e= .returned v' ∧w'.ownsRow B 23 1 v' l.length (hsV l)∧Rw w w' r v'.ownBlock
theorem hsV_app(a b:List Nat):hsV (a++b)=hsV a++hsV b:=by unfold hsV;simp
theorem hsV_one{l:List Nat}: ∀v∈hsV l,v.oneCell' =true:=by
 intro v hv
 unfold hsV at hv
 obtain⟨x,_,rfl⟩:=List.mem_map.1 hv
 rfl
theorem Tryz.info_handle1:(Tryz.prog.info? 23).map (·.size)=some 1:=by kernel_rfl
set_option maxRecDepth 100000 in
theorem slInsEnd_at{w:World}{B:Nat}{v:Value}{l:List Nat}(hB:B≤w.heap.size)(hrow:w.ownsRow B 23 1 v l.length (hsV l))(hl:l.length≤100000){vb x:Nat}(hvb:w.heap[vb]? =some (.cells #[.int .u64 (x:Nat)] 23 (0,0))):
 Calls Tryz.prog 62 #[v, .int .i64 (l.length:Nat), .slice (some ⟨vb,0,none⟩) 1 1] w (InsR B w v.ownBlock (l++ [x])):=by
 obtain⟨i0,hi,hz0,hz1',hz2⟩:=info_parts Tryz.info_handle
 have hrw:Hid (∀v' w',w'.ownsRow B 23 1 v' (l.length+1) (hsV l++ [.int .u64 (x:Nat)])→w.grownBy w' v.ownBlock→(v'.ownBlock=v.ownBlock∨v'.ownBlock=some w.heap.size)→InsR B w v.ownBlock (l++ [x]) (.returned v') w'):=Lib.hid (fun v' w' h1 h2 h3=>by
  refine⟨v',rfl,by rw [List.length_append,hsV_app];exact h1,h2, ?_⟩
  rcases h3 with h3|h3
  · exact .inl h3
  · exact .inr fun k hk=>by rw [h3] at hk;simp at hk;omega)
 have hvbH:=Lib.hid hvb
 clear hvb
 rcases hrow.2 with ⟨rfl,h2⟩|⟨g,cap,cur,rfl,h2,h3,h4,h5,h6⟩
 · obtain rfl:l= []:=List.eq_nil_of_length_eq_zero h2
   have hrowH:=Lib.hid hrow
   clear hrow h2
   go_enter Tryz.func62,Tryz.ntmps62
   go_wp2_with (at_builtin;refine wpList_append_own_at _ rfl _ _ 43 rfl B 23 i0 (.int .u64 0) 1 8 Tryz.under_handles hi hz0 hz1' hz2 rfl (by decide) _ _ _ rfl hrowH.out ⟨vb,0,none⟩ 1 1 [.int .u64 (x:Nat)] rfl rfl (cell_one_in hvbH.out) (by simp [Value.oneCell']) (by unfold maxLen;omega) (by omega) hB ?_;intro v' w4 hown' hgrow _ hblk)
   all_goals
    go_ret
    exact hrw.out _ _ hown' hgrow hblk
 · have hc2:=h5
   unfold maxLen at hc2
   have hrowH:=Lib.hid hrow
   clear hrow h3 h5 h6
   have hrw2:Hid (∀c v' w',w'.ownsRow B 23 1 v' (l.length+1) (hsV l++ [.int .u64 (x:Nat)])→w.grownBy w' (some g)→(v'.ownBlock=some g∨v'.ownBlock=some w.heap.size)→InsR B w (Value.slice (some ⟨g,0,none⟩) l.length c).ownBlock (l++ [x]) (.returned v') w'):=Lib.hid (fun _=>hrw.out)
   go_enter Tryz.func62,Tryz.ntmps62
   go_wp2_with (at_builtin;refine wpList_append_own_at _ rfl _ _ 43 rfl B 23 i0 (.int .u64 0) 1 8 Tryz.under_handles hi hz0 hz1' hz2 rfl (by decide) _ _ _ rfl hrowH.out ⟨vb,0,none⟩ 1 1 [.int .u64 (x:Nat)] rfl rfl (cell_one_in hvbH.out) (by simp [Value.oneCell']) (by unfold maxLen;omega) (by omega) hB ?_;intro v' w4 hown' hgrow _ hblk)
   all_goals
    go_ret
    exact hrw2.out _ _ _ hown' hgrow hblk
theorem copy_hs{W:World}{g o:Nat}{cur:Array Value}{T:TypeId}{cs:List Value}(hW:W.heap[g]? =some (.cells cur T (0,0)))(hroom:o+cs.length≤cur.size)(h1: ∀v∈cs,v.oneCell' =true){a:Addr}{sLen dLen:Nat}(hn:cs.length=Nat.min sLen dLen)(hsrc: ∀j v,cs[j]? =some v→W.cell? (a.add j)=some v)(ty:TypeId)(dc sc:Nat):
 (Builtin.copy_ #[43,43] ty #[.slice (some ⟨g,o,none⟩) dLen dc, .slice (some a) sLen sc]).run Tryz.prog W= .ok (goInt cs.length) (W.setCells g o cs):=
 run_copy_cells W _ _ ty 23 g o dLen dc a sLen sc cs Tryz.under_handles Tryz.info_handle1 hn hsrc (fun j hj=>by rw [cell_in hW,Array.getElem?_eq_getElem (by omega)];rfl) (fun j hj=>frozen_in hW) h1
theorem shape_in{w:World}{g:Nat}{cur:Array Value}{e:TypeId}{fr:Nat × Nat}(h:w.heap[g]? =some (.cells cur e fr)):w.shape? g=some (e,cur.size):=by simp [World.shape?,h]
set_option maxRecDepth 100000 in
theorem slInsRoom_at{w:World}{B g cap:Nat}{cur:Array Value}{l:List Nat}{T:TypeId}(hT:T=23)(hg:w.heap[g]? =some (.cells cur T (0,0)))(hBg:B≤g)(hcs:cur.size=cap)(hcm:cap≤maxLen)(hcl:cur.toList.take l.length=hsV l)(k:Nat)(hk:k<l.length)(hroom:l.length+1≤cap){vb x:Nat}(hvb:w.heap[vb]? =some (.cells #[.int .u64 (x:Nat)] 23 (0,0)))(hne:vb≠g):
 Calls Tryz.prog 62 #[.slice (some ⟨g,0,none⟩) l.length cap, .int .i64 (k:Nat), .slice (some ⟨vb,0,none⟩) 1 1] w (InsR B w (some g) (l.take k++x::l.drop k)):=by
 have hmo:Tryz.prog.follows .mixedOrders=true:=by kernel_rfl
 subst hT
 have hlen:(hsV l).length=l.length:=hsV_len l
 have hdl:((hsV l).drop k).length=l.length-k:=by rw [List.length_drop,hlen]
 have hget: ∀j v,(hsV l)[j]? =some v→cur[j]? =some v:=fun j v hj=>by
  rw [←hcl,List.getElem?_take] at hj
  split at hj
  · rw [←Array.getElem?_toList];exact hj
  · cases hj
 obtain⟨W1,hW1⟩: ∃W1,W1=w.drew.setCells g (k+1) ((hsV l).drop k):=⟨_,rfl⟩
 have hgd:w.drew.heap[g]? =some (.cells cur 23 (0,0)):=hg
 have hg1:W1.heap[g]? =some (.cells (putA cur (k+1) ((hsV l).drop k)) 23 (0,0)):=by rw [hW1];exact setCells_heap _ _ _ hgd
 have hv1:W1.heap[vb]? =some (.cells #[.int .u64 (x:Nat)] 23 (0,0)):=by rw [hW1,setCells_far _ _ _ _ _ hne];exact hvb
 obtain⟨W2,hW2⟩: ∃W2,W2=W1.setCells g k [.int .u64 (x:Nat)]:=⟨_,rfl⟩
 have hg2:W2.heap[g]? =some (.cells (putA (putA cur (k+1) ((hsV l).drop k)) k [.int .u64 (x:Nat)]) 23 (0,0)):=by rw [hW2];exact setCells_heap _ _ _ hg1
 have hcp1:=fun ty dc sc=>copy_hs (W:=w.drew) (g:=g) (o:=k+1) (cs:=(hsV l).drop k) (a:=⟨g,k,none⟩) (sLen:=l.length+1-k) (dLen:=l.length-k) hgd (by rw [hdl];omega) (fun v hv=>hsV_one v (List.mem_of_mem_drop hv)) (by rw [hdl];simp only [Nat.min_def];split<;>omega) (fun j v hj=>by rw [Addr.add_lit,cell_in hgd];exact hget _ v (by rwa [List.getElem?_drop] at hj)) ty dc sc
 rw [←hW1] at hcp1
 have hcp2:=fun ty dc=>copy_hs (W:=W1) (g:=g) (o:=k) (cs:= [.int .u64 (x:Nat)]) (a:=⟨vb,0,none⟩) (sLen:=1) (dLen:=l.length+1-k) hg1 (by rw [putA_size];simp;omega) (by simp [Value.oneCell']) (by simp only [List.length_singleton,Nat.min_def];split<;>omega) (cell_one_in hv1) ty dc 1
 rw [←hW2] at hcp2
 have hfin:Hid (InsR B w (some g) (l.take k++x::l.drop k) (.returned (.slice (some ⟨g,0,none⟩) (l.length+1) cap)) W2):=Lib.hid (by
  have hl9:(l.take k++x::l.drop k).length=l.length+1:=by simp;omega
  obtain⟨s1,s2,s3,s4⟩:=setCells_same ((hsV l).drop k) (k+1) w.drew g
  obtain⟨r1,r2,r3,r4⟩:=setCells_same [.int .u64 (x:Nat)] k W1 g
  rw [←hW1] at s1 s2 s3 s4
  rw [←hW2] at r1 r2 r3 r4
  refine⟨_,rfl,⟨by rw [hsV_len,Nat.mul_one], .inr ⟨g,cap,_,by rw [hl9],hBg,hg2,by rw [hl9];exact hroom,hcm,by rw [putA_size,putA_size,Nat.mul_one];exact hcs, ?_⟩⟩,⟨⟨by rw [r2,s2];rfl,by rw [r3,s3];rfl,by rw [r4,s4];rfl,by rw [r1,s1];exact Nat.le_refl _,fun j hj hn=> ?_⟩, .inl rfl⟩⟩
  · rw [hl9,Nat.mul_one,putA_list _ _ _ (by rw [putA_size];simp;omega),putA_list _ _ _ (by rw [hdl];omega),hdl,hsV_app]
    have e2:(cur.toList.take (k+1)).length=k+1:=by rw [List.length_take,Array.length_toList];omega
    have e1: ∀Z:List Value,(cur.toList.take (k+1)++Z).take k=(hsV l).take k:=fun Z=>by
     rw [List.take_append_of_le_length (by omega),←hcl,List.take_take,List.take_take];congr 1;omega
    have e3:hsV (x::l.drop k)=(Value.int .u64 (x:Nat))::(hsV l).drop k:=by unfold hsV;simp
    have e4:hsV (l.take k)=(hsV l).take k:=by unfold hsV;simp
    have e8: ∀Z:List Value,(cur.toList.take (k+1)++Z).drop (k+1)=Z:=fun Z=>List.drop_left' e2
    rw [e1,e3,e4,List.length_singleton,e8]
    generalize cur.toList.drop (k+1+(l.length-k))=Tl
    have e5:((hsV l).take k++([Value.int .u64 (x:Nat)]++(hsV l).drop k)).length=l.length+1:=by simp [hlen];omega
    have e6:(hsV l).take k++([Value.int .u64 (x:Nat)]++((hsV l).drop k++Tl))=((hsV l).take k++([Value.int .u64 (x:Nat)]++(hsV l).drop k))++Tl:=by simp
    rw [e6,List.take_left' e5]
    rfl
  · have hjg:j≠g:=fun e=>hn (by rw [e])
    rw [hW2,setCells_far _ _ _ _ _ hjg,hW1,setCells_far _ _ _ _ _ hjg]
    rfl)
 have hov: ∀lb cb,(callFunc 93 #[.slice (some ⟨vb,0,none⟩) 1 1, .slice (some ⟨g,k+1,none⟩) lb cb]).run Tryz.prog w= .ok (.value (.bool false)) w:=fun lb cb=>by
  rw [run_callFunc_extern Tryz.func93 (by kernel_rfl) (by kernel_rfl) (by kernel_rfl) (e:=Extern.SlicesOverlaps.overlaps #[43,43] #[4]) (by kernel_rfl),
   Lib.run_overlaps_apart w 43 4 23 Tryz.under_handles 1 (by intro w;exact Tryz.sizeOf23 w) ⟨vb,0,none⟩ ⟨g,k+1,none⟩ 1 1 lb cb hne _ _ _ _ (shape_in hvb) (shape_in hg) (by rw [hcs];omega) (frozen_in hvb) (frozen_in hvb)]
  rfl
 have hw1:IntKind.i64.wrap ((k:Int)+1)=(k:Int)+1:=by unfold maxLen at hcm;rw [IntKind.wrap_i64];omega
 have hcm2:=hcm
 unfold maxLen at hcm2
 have hkn:((k:Int)==(l.length:Int))=false:=by simp;omega
 have hb2: ¬(cap=k+1):=by omega
 have hb4: ¬(cap=k):=by omega
 have hb1:(0:Int)≤(k:Int)+1:=by omega
 have htn:((k:Int)+1).toNat=k+1:=by omega
 have hb3:(k:Int)≤(l.length:Int)+1:=by omega
 have hb5:(k:Int)+1≤(l.length:Int)+1:=by omega
 have dc9:decide ((l.length:Int)+1>(cap:Int))=false:=decide_eq_false (by omega)
 have hcp1H:=Lib.hid hcp1
 have hcp2H:=Lib.hid hcp2
 have hovH:=hov
 clear hcp1 hcp2 hov hg1 hg2 hv1 hgd hW1 hW2 hget hdl hlen hcl hcs hg hvb
 go_enter Tryz.func62,Tryz.ntmps62
 go_wp2_with (simp only [hovH])
 refine wp_region_steps (fun _=>True) [.r 0, .r 1, .r 2, .r 3, .r 4, .r 5, .r 6, .r 7, .a 8] hmo (by kernel_rfl) rfl (by kernel_rfl) trivial (fun _ _ d _ _ h=>by cases d<;>exact h) ?_
 iterate 8 (refine wpSteps_r _ _ rfl rfl (by rintro W _;go_simp;exact rfl) ?_;go_simp)
 refine wpSteps_a _ rfl (fun K1 hK1=> ?_)
 refine wpList_copy_runI _ rfl _ _ 43 43 rfl _ _ rfl rfl (hcp1H.out _ _ _) ?_
 go_wp2
 refine hK1 _ _ trivial ?_
 clear hK1 K1
 refine wpSteps_nil ?_
 have hcp2:=hcp2H.out
 go_wp2
 go_ret
 exact hfin.out
set_option maxRecDepth 100000 in
theorem slInsGrow_at{w:World}{B g cap:Nat}{cur:Array Value}{l:List Nat}{T:TypeId}(hB:B≤w.heap.size)(hT:T=23)(hg:w.heap[g]? =some (.cells cur T (0,0)))(hcs:cur.size=cap)(hcl:cur.toList.take l.length=hsV l)(hl:l.length≤100000)(k:Nat)(hk:k<l.length)(hroom:cap<l.length+1)(hcap:l.length≤cap){vb x:Nat}(hvb:w.heap[vb]? =some (.cells #[.int .u64 (x:Nat)] 23 (0,0))):
 Calls Tryz.prog 62 #[.slice (some ⟨g,0,none⟩) l.length cap, .int .i64 (k:Nat), .slice (some ⟨vb,0,none⟩) 1 1] w (InsR B w (some g) (l.take k++x::l.drop k)):=by
 have hmo:Tryz.prog.follows .mixedOrders=true:=by kernel_rfl
 obtain⟨i0,hi,hz0,hzs,hzb⟩:=info_parts Tryz.info_handle
 subst hT
 have hlen:(hsV l).length=l.length:=hsV_len l
 have hdl:((hsV l).drop k).length=l.length-k:=by rw [List.length_drop,hlen]
 have htl:((hsV l).take k).length=k:=by rw [List.length_take,hlen];omega
 have hget: ∀j v,(hsV l)[j]? =some v→cur[j]? =some v:=fun j v hj=>by
  rw [←hcl,List.getElem?_take] at hj
  split at hj
  · rw [←Array.getElem?_toList];exact hj
  · cases hj
 have hgw:g<w.heap.size:=(Array.getElem?_eq_some_iff.1 hg).1
 have hvw:vb<w.heap.size:=(Array.getElem?_eq_some_iff.1 hvb).1
 obtain⟨bN,hbN⟩: ∃b,b=w.heap.size:=⟨_,rfl⟩
 obtain⟨G,hG⟩: ∃G,G=grownCap w (l.length+1) cap 23:=⟨_,rfl⟩
 have hGn:l.length+1≤G:=by rw [hG];exact grownCap_ge w _ _ _
 have hGm:G≤maxLen:=by rw [hG];exact grownCap_le_maxLen w _ _ _ (by unfold maxLen;omega)
 have hold:(Builtin.firstCells i0.size k (.slice (some ⟨g,0,none⟩) k cap)).run Tryz.prog w.drew= .ok ((hsV l).take k).toArray w.drew:=by
  rw [hzs]
  exact run_firstCells_some w.drew 1 k ⟨g,0,none⟩ k cap ((hsV l).take k) (by rw [htl];omega) (fun j v hj=>by
   rw [Addr.add_lit,Nat.zero_add,cell_in (w:=w.drew) hg]
   rw [List.getElem?_take] at hj
   split at hj
   · exact hget j v hj
   · cases hj)
 obtain⟨ROW,hROW⟩: ∃ROW:Array Value,ROW=((hsV l).take k).toArray++Builtin.zeroCells (Value.int .u64 0).cells (l.length+1-k)++Builtin.zeroCells (Value.int .u64 0).cells (G-(l.length+1)):=⟨_,rfl⟩
 have hRs:ROW.size=G:=by rw [hROW];simp [Builtin.zeroCells,Value.cells,hlen];omega
 have hRt:ROW.toList.take k=(hsV l).take k:=by rw [hROW];simp only [Array.toList_append,List.append_assoc];exact List.take_left' htl
 obtain⟨W1,hW1⟩: ∃W1,W1=w.drew.alloc (.cells ROW 23):=⟨_,rfl⟩
 have hrz: ∀ty,(Builtin.append_ #[43,3] ty #[.slice (some ⟨g,0,none⟩) k cap, .int .i64 ((l.length:Int)+1-(k:Int))]).run Tryz.prog w= .ok (.slice (some ⟨bN,0,none⟩) (l.length+1) G) W1:=fun ty=>by
  have hik:k+(l.length+1-k)=l.length+1:=by omega
  have hkk:(l.length:Int)+1-(k:Int)=((l.length+1-k:Nat):Int):=by omega
  have h:=Lib.run_append_grow_zeros w 43 3 ty 23 i0 (.int .u64 0) .i64 .i64 Tryz.under_handles Tryz.underlying3 hi hz0 (some ⟨g,0,none⟩) k cap ((hsV l).take k) hold (l.length+1-k) (by omega) (by omega) (by omega) (by omega) (by rw [hzb];omega) (by rw [hzb,hik];exact growslice_fits hroom (by omega))
  rw [hik] at h
  rw [hkk,h,hbN,hG,hW1,hROW,hG]
 have h1N:W1.heap[bN]? =some (.cells ROW 23 (0,0)):=by rw [hW1,hbN];exact Array.getElem?_push_size
 have h1o: ∀j,j<w.heap.size→W1.heap[j]? =w.heap[j]? :=fun j hj=>by rw [hW1];exact Below.heap_alloc w.drew _ j hj
 obtain⟨W2,hW2⟩: ∃W2,W2=W1.setCells bN k [.int .u64 (x:Nat)]:=⟨_,rfl⟩
 have h2N:W2.drew.heap[bN]? =some (.cells (putA ROW k [.int .u64 (x:Nat)]) 23 (0,0)):=by rw [hW2];exact setCells_heap _ _ _ h1N
 have h2o: ∀j,j<w.heap.size→W2.drew.heap[j]? =w.heap[j]? :=fun j hj=>by
  rw [←h1o j hj,hW2];exact setCells_far _ _ _ _ _ (by omega)
 obtain⟨W3,hW3⟩: ∃W3,W3=W2.drew.setCells bN (k+1) ((hsV l).drop k):=⟨_,rfl⟩
 have h3N:W3.heap[bN]? =some (.cells (putA (putA ROW k [.int .u64 (x:Nat)]) (k+1) ((hsV l).drop k)) 23 (0,0)):=by rw [hW3];exact setCells_heap _ _ _ h2N
 have hcpA:=fun ty dc=>copy_hs (W:=W1) (g:=bN) (o:=k) (cs:= [.int .u64 (x:Nat)]) (a:=⟨vb,0,none⟩) (sLen:=1) (dLen:=l.length+1-k) h1N (by rw [hRs];simp;omega) (by simp [Value.oneCell']) (by simp only [List.length_singleton,Nat.min_def];split<;>omega) (cell_one_in ((h1o vb hvw).trans hvb)) ty dc 1
 rw [←hW2] at hcpA
 have hcpB:=fun ty dc sc=>copy_hs (W:=W2.drew) (g:=bN) (o:=k+1) (cs:=(hsV l).drop k) (a:=⟨g,k,none⟩) (sLen:=l.length-k) (dLen:=l.length-k) h2N (by rw [putA_size,hdl,hRs];omega) (fun v hv=>hsV_one v (List.mem_of_mem_drop hv)) (by rw [hdl];simp) (fun j v hj=>by rw [Addr.add_lit,cell_in ((h2o g hgw).trans hg)];exact hget _ v (by rwa [List.getElem?_drop] at hj)) ty dc sc
 rw [←hW3] at hcpB
 have hfin:Hid (InsR B w (some g) (l.take k++x::l.drop k) (.returned (.slice (some ⟨bN,0,none⟩) (l.length+1) G)) W3):=Lib.hid (by
  have hl9:(l.take k++x::l.drop k).length=l.length+1:=by simp;omega
  obtain⟨s1,s2,s3,s4⟩:=setCells_same ((hsV l).drop k) (k+1) W2.drew bN
  obtain⟨r1,r2,r3,r4⟩:=setCells_same [.int .u64 (x:Nat)] k W1 bN
  rw [←hW3] at s1 s2 s3 s4
  rw [←hW2] at r1 r2 r3 r4
  refine⟨_,rfl,⟨by rw [hsV_len,Nat.mul_one], .inr ⟨bN,G,_,by rw [hl9],by omega,h3N,by rw [hl9];exact hGn,hGm,by rw [putA_size,putA_size,Nat.mul_one];exact hRs, ?_⟩⟩,⟨⟨?_, ?_, ?_, ?_,fun j hj hn=> ?_⟩, .inr fun j hj=> ?_⟩⟩
  · rw [hl9,Nat.mul_one,putA_list _ _ _ (by rw [putA_size,hdl,hRs];omega),putA_list _ _ _ (by rw [hRs];simp;omega),hsV_app,hRt]
    have e3:hsV (x::l.drop k)=(Value.int .u64 (x:Nat))::(hsV l).drop k:=by unfold hsV;simp
    have e4:hsV (l.take k)=(hsV l).take k:=by unfold hsV;simp
    generalize ROW.toList.drop (k+ [Value.int .u64 (x:Nat)].length)=Z
    have e1:((hsV l).take k++([Value.int .u64 (x:Nat)]++Z)).take (k+1)=(hsV l).take k++ [Value.int .u64 (x:Nat)]:=by
     rw [←List.append_assoc];exact List.take_left' (by simp [htl])
    rw [e1,e3,e4]
    generalize ((hsV l).take k++([Value.int .u64 (x:Nat)]++Z)).drop (k+1+((hsV l).drop k).length)=Y
    have e6:(hsV l).take k++ [Value.int .u64 (x:Nat)]++((hsV l).drop k++Y)=((hsV l).take k++([Value.int .u64 (x:Nat)]++(hsV l).drop k))++Y:=by simp
    rw [e6,List.take_left' (by simp [hlen];omega)]
    rfl
  · rw [s2];show W2.os=_;rw [r2,hW1];rfl
  · rw [s3];show W2.tape=_;rw [r3,hW1];rfl
  · rw [s4];show W2.output=_;rw [r4,hW1];rfl
  · rw [s1];show _≤W2.heap.size;rw [r1,hW1];simp [World.alloc]
  · rw [hW3,setCells_far _ _ _ _ _ (by omega)];exact h2o j hj
  · have:bN=j:=by simpa [Value.ownBlock] using hj
    omega)
 have hkn:((k:Int)==(l.length:Int))=false:=by simp;omega
 have hG63:=hGm
 unfold maxLen at hG63
 have hw1:IntKind.i64.wrap ((k:Int)+1)=(k:Int)+1:=by rw [IntKind.wrap_i64];omega
 have hb1:(0:Int)≤(k:Int)+1:=by omega
 have htn:((k:Int)+1).toNat=k+1:=by omega
 have hb3:(k:Int)≤(l.length:Int):=by omega
 have hGi: ¬(G=k):=by omega
 have hGim: ¬(G=k+1):=by omega
 have hci: ¬(cap=k):=by omega
 have dc9:decide ((l.length:Int)+1>(cap:Int))=true:=decide_eq_true (by omega)
 have hcpBH:=Lib.hid hcpB
 clear hcpB hold h1N h2N h3N h1o h2o hW1 hW2 hW3 hget hdl htl hlen hcl hcs hg hvb hbN hG hROW hRs hRt hi hz0 hzs hzb
 go_enter Tryz.func62,Tryz.ntmps62
 go_wp2_with (at_builtin;refine Lib.wpList_append_run _ rfl _ _ _ _ rfl _ _ rfl rfl _ _ (hrz _) ?_)
 refine wp_region_steps (fun _=>True) [.r 0, .r 1, .r 2, .r 3, .r 4, .r 5, .r 6, .r 7, .a 8] hmo (by kernel_rfl) rfl (by kernel_rfl) trivial (fun _ _ d _ _ h=>by cases d<;>exact h) ?_
 iterate 8 (refine wpSteps_r _ _ rfl rfl (by rintro W _;go_simp;exact rfl) ?_;go_simp)
 refine wpSteps_a _ rfl (fun K1 hK1=> ?_)
 have hcpB:=hcpBH.out
 go_wp2
 refine hK1 _ _ trivial ?_
 clear hK1 K1
 refine wpSteps_nil ?_
 go_wp2
 go_ret
 exact hfin.out
theorem slIns_at{w:World}{B:Nat}{v:Value}{l:List Nat}(hB:B≤w.heap.size)(hrow:w.ownsRow B 23 1 v l.length (hsV l))(k:Nat)(hk:k≤l.length)(hl:l.length≤100000){vb x:Nat}(hvb:w.heap[vb]? =some (.cells #[.int .u64 (x:Nat)] 23 (0,0)))(hne:v.ownBlock≠some vb):
 Calls Tryz.prog 62 #[v, .int .i64 (k:Nat), .slice (some ⟨vb,0,none⟩) 1 1] w (InsR B w v.ownBlock (l.take k++x::l.drop k)):=by
 by_cases he:k=l.length
 · subst he
   rw [List.take_length,List.drop_length]
   exact slInsEnd_at hB hrow hl hvb
 · have hlt:k<l.length:=by omega
   rcases hrow.2 with ⟨h1,h2⟩|⟨g,cap,cur,rfl,h2,h3,h4,h5,h6,h7⟩
   · omega
   · rw [Nat.mul_one] at h6 h7
     have hvg:vb≠g:=fun e=>hne (by rw [e];rfl)
     by_cases hr:l.length+1≤cap
     · exact slInsRoom_at rfl h3 h2 h6 h5 h7 k hlt hr hvb hvg
     · exact slInsGrow_at hB rfl h3 h6 h7 hl k hlt (by omega) h4 hvb
end Go.Proofs.YthcmecokejemcaaGreatDoor
namespace Go.Proofs.YthcmecokejemcaaGreatDoor
open Go.RowKit Go.Shelf
section
variable {s:Nat} {F F' :Nat→Prop} {R R' :Nat→Option (List Nat)} {H H' :List Nat} {P q most last G:Nat}
theorem StoreIs.grown{A B:World}{row:Option Nat}(h:StoreIs A s F R H P q most last G)(hg:A.grownBy B row)(hr: ∀k,row=some k→s<k∧1<k∧ ¬F k∧ ∀p,A.cell? ⟨k,0,none⟩≠some (.pointer p)):StoreIs B s F R H P q most last G:=
 h.kb (Cs:=fun k=>row=some k) ⟨hg.size,fun k o hk _ hn=>(hg.block k (Array.getElem?_eq_some_iff.1 hk).1 (fun e=>hn e.symm)).trans hk⟩ (fun k hk=>(hr k hk).2.2.1) (fun hk=>Nat.lt_irrefl _ (hr s hk).1) (fun k hk=>(hr k hk).2.2.2) (fun hk=>Nat.lt_irrefl _ (hr _ hk).2.1)
theorem grown_set(W:World)(b j:Nat)(v:Value):W.grownBy (W.setCell ⟨b,j,none⟩ v) (some b):=
 ⟨rfl,rfl,rfl,by simp [World.setCell],fun k _ hn=>Below.heap_setCell W ⟨b,j,none⟩ v k (fun e=>hn (by rw [e]))⟩
theorem grownBy_below{A B:World}(hb:Below A.heap.size A B)(row:Option Nat):A.grownBy B row:=⟨hb.os,hb.tape,hb.output,hb.size,fun k hk _=>hb.block k hk⟩
theorem grown_trans{A B C:World}{row:Option Nat}(h:A.grownBy B row)(g:B.grownBy C row):A.grownBy C row:=⟨g.os.trans h.os,g.tape.trans h.tape,g.output.trans h.output,Nat.le_trans h.size g.size,fun k hk hn=>(g.block k (Nat.lt_of_lt_of_le hk h.size) hn).trans (h.block k hk hn)⟩
theorem row_cell0{W:World}{B:Nat}{v:Value}{l:List Nat}(h:W.ownsRow B 23 1 v l.length (hsV l))(hl:l≠ []): ∀k,v.ownBlock=some k→ ∀p,W.cell? ⟨k,0,none⟩≠some (.pointer p):=by
 intro k hk p hc
 cases l with
 |nil=>exact hl rfl
 |cons x l=>
  have h1:=h.cells hk 0 (.int .u64 (x:Nat)) rfl
  rw [Addr.add_lit] at h1
  have h2:W.cell? ⟨k,0,none⟩=some (.int .u64 (x:Nat)):=h1
  rw [h2] at hc
  cases hc
structure Mk(N:Nat)(W:World)(s t:Nat)(F:Nat→Prop)(bl b2:Nat)(v:Value)(st:List Nat):Prop where
 bx:Box W bl 43 [v]
 b2x:Box W b2 74 [.pointer (some ⟨s,0,none⟩), .int .i64 (t:Nat)]
 row:W.ownsRow N 23 1 v st.length (hsV st)
 nil:st= []→v= .slice none 0 0
 fl: ¬F bl
 f2: ¬F b2
 fr: ∀k,v.ownBlock=some k→k≠bl∧k≠b2∧ ¬F k
theorem Mk.turn{N t bl b2:Nat}{W W' :World}{v:Value}{st:List Nat}(h:Mk N W s t F bl b2 v st)(ht:Turn W F W' F'):Mk N W' s t F' bl b2 v st:=
 ⟨h.bx.turn ht h.fl,h.b2x.turn ht h.f2,rows_keep h.row fun k hk=>ht.keep k (rows_lt h.row k hk) (h.fr k hk).2.2,h.nil,ht.not h.bx.lt h.fl,ht.not h.b2x.lt h.f2,fun k hk=>⟨(h.fr k hk).1,(h.fr k hk).2.1,ht.not (rows_lt h.row k hk) (h.fr k hk).2.2⟩⟩
theorem Mk.below{N t bl b2:Nat}{W W' :World}{v:Value}{st:List Nat}(h:Mk N W s t F bl b2 v st)(hF: ∀b,F b→b<W.heap.size)(hb:Below W.heap.size W W'):Mk N W' s t F bl b2 v st:=h.turn (Turn.below hb)
theorem Mk.more{N t bl b2:Nat}{W w3:World}{tmp:Obj}{v v' :Value}{st:List Nat}{x:Nat}(h:Mk N W s t F bl b2 v st)(hne:bl≠b2)(hF: ∀b,F b→b<W.heap.size)(ho:w3.ownsRow N 23 1 v' (st++ [x]).length (hsV (st++ [x])))(hg:(W.alloc tmp).grownBy w3 v.ownBlock)(hb:v'.ownBlock=v.ownBlock∨v'.ownBlock=some (W.alloc tmp).heap.size):
 Mk N (w3.setCell ⟨bl,0,none⟩ v') s t F bl b2 v' (st++ [x]):=by
 have hbl:some bl≠v.ownBlock:=fun e=>(h.fr bl e.symm).1 rfl
 have hb2:some b2≠v.ownBlock:=fun e=>(h.fr b2 e.symm).2.1 rfl
 have k1:Box w3 bl 43 [v]:=h.bx.block ((hg.block bl (by have:=h.bx.lt;simp;omega) hbl).trans (Below.heap_alloc W tmp bl h.bx.lt))
 have k2:Box w3 b2 74 _:=h.b2x.block ((hg.block b2 (by have:=h.b2x.lt;simp;omega) hb2).trans (Below.heap_alloc W tmp b2 h.b2x.lt))
 have hnew: ∀k,v'.ownBlock=some k→k≠bl∧k≠b2∧ ¬F k:=fun k hk=>by
  rcases hb with hb|hb
  · exact h.fr k (by rw [←hb];exact hk)
  · rw [hb] at hk
    have:W.heap.size+1=k:=by simpa using hk
    refine⟨fun e=> ?_,fun e=> ?_,fun hf=> ?_⟩
    · have:=h.bx.lt;omega
    · have:=h.b2x.lt;omega
    · have:=hF k hf;omega
 refine⟨k1.set 0 v',k2.other (p:=⟨bl,0,none⟩) (Ne.symm hne) v',rows_keep ho fun k hk=>Below.heap_setCell w3 ⟨bl,0,none⟩ v' k (hnew k hk).1,fun e=>by simp at e,h.fl,h.f2,hnew⟩
theorem Mk.store{N t bl b2:Nat}{W w3:World}{tmp:Obj}{v v' :Value}{st:List Nat}{x:Nat}(h:Mk N W s t F bl b2 v st)(hs:StoreIs W s F R H P q most last G)(hN:s<N∧1<N)(hbN:N≤bl)(hg:(W.alloc tmp).grownBy w3 v.ownBlock):StoreIs (w3.setCell ⟨bl,0,none⟩ v') s F R H P q most last G:=by
 have hba:Below W.heap.size W (W.alloc tmp):=(Below.refl _ W).alloc (Nat.le_refl _) _
 have h1:StoreIs w3 s F R H P q most last G:=(hs.below hba).grown hg (fun k hk=>by
  have hkN:=(row_ge h.row hk).1
  refine⟨by omega,by omega,(h.fr k hk).2.2,fun p hc=> ?_⟩
  have hst:st≠ []:=fun e=>by rw [h.nil e] at hk;simp [Value.ownBlock] at hk
  rw [World.cell?_of_block (Below.heap_alloc W tmp k (rows_lt h.row k hk))] at hc
  exact row_cell0 h.row hst k hk p hc)
 have hbl:some bl≠v.ownBlock:=fun e=>(h.fr bl e.symm).1 rfl
 have k1:Box w3 bl 43 [v]:=h.bx.block ((hg.block bl (by have:=h.bx.lt;simp;omega) hbl).trans (Below.heap_alloc W tmp bl h.bx.lt))
 refine h1.grown (grown_set w3 bl 0 v') (fun k hk=> ?_)
 obtain rfl:bl=k:=Option.some.inj hk
 refine⟨by omega,by omega,h.fl,fun p hc=> ?_⟩
 rw [k1.at' (i:=0) rfl] at hc
 obtain⟨A,c,hv⟩:=ownsRow_form h.row
 rw [hv] at hc
 cases hc
theorem Bt.Fresh.snoc{t:Nat}{st:List Nat}{x:Nat}{n:BN}(h:Bt.Fresh R R' t st)(hx:R' x=none)(h0:x≠0):Bt.Fresh R (updR R' x (some (n.wd t))) t (st++ [x]):=by
 have hxs:x∉st:=fun hm=>by obtain⟨_,_,ws,h1,_⟩:=h.new x hm;rw [hx] at h1;cases h1
 refine⟨fun y hy=> ?_, ?_,fun z hz=> ?_⟩
 · rcases List.mem_append.1 hy with hy|hy
   · exact⟨(h.new y hy).1,(h.new y hy).2.1,Bt.upd_rec (h.new y hy).2.2⟩
   · rw [List.mem_singleton] at hy
     subst hy
     exact⟨by rw [←h.old y hxs];exact hx,h0,⟨_,updR_same _ _ _,BN.wd_len _ _⟩⟩
 · rw [List.nodup_append]
   exact⟨h.nodup,by simp,fun a ha b hb e=>by rw [List.mem_singleton] at hb;exact hxs (by rw [←hb,←e];exact ha)⟩
 · rw [List.mem_append,List.mem_singleton,not_or] at hz
   rw [updR_other hz.2];exact h.old z hz.1
theorem Bt.Fresh.start{t:Nat}:Bt.Fresh R R t []:=⟨fun x hx=>absurd hx (by simp),List.nodup_nil,fun _ _=>rfl⟩
def MkR(w:World)(s:Nat)(F:Nat→Prop)(R:Nat→Option (List Nat))(H:List Nat)(P q most last G t n:Nat)(e:Ending)(w' :World):Prop:=
 (∃st F' R' bl b2 v,e= .returned (.tuple #[.func (.func 61) #[] #[.pointer (some ⟨bl,0,none⟩), .pointer (some ⟨b2,0,none⟩)], .int .i64 0])∧st.length=n∧Bt.Fresh R R' t st∧(∀x∈st,R' x=some (BN.zero.wd t)∧x<18446744073709551616)∧
  StoreIs w' s F' R' (st.reverse++H) (P+n*pgsN (6*t+2)) q most last (G+n)∧Turn w F w' F' ∧Mk w.heap.size w' s t F' bl b2 v st∧w.heap.size≤bl∧w.heap.size≤b2∧bl≠b2)∨
 (∃er F',e= .returned (.tuple #[.nilFunc, .int .i64 (er:Nat)])∧((er=3∧q<(P+n*pgsN (6*t+2))*64)∨(er=10∧(most<H.length+n∨last<G+n)))∧StoreIs w' s F' R H (P+n*pgsN (6*t+2)) q most last (G+n)∧Turn w F w' F')
def dropF(R:Nat→Option (List Nat))(st:List Nat):Nat→Option (List Nat):=fun y=>if y∈st then none else R y
theorem dropF_nil:dropF R []=R:=by funext y;simp [dropF]
theorem dropF_snoc(l:List Nat)(x:Nat):updR (dropF R l) x none=dropF R (l++ [x]):=by
 funext y
 unfold updR dropF
 by_cases h:y=x
 · subst h;simp
 · simp [h]
theorem dropF_fresh{t:Nat}{st:List Nat}(h:Bt.Fresh R R' t st):dropF R' st=R:=by
 funext y
 unfold dropF
 by_cases hy:y∈st
 · rw [if_pos hy];exact(h.new y hy).1.symm
 · rw [if_neg hy];exact h.old y hy
theorem erase_one{st H:List Nat}{x:Nat}(hx:x∉st):((x::st).reverse++H).erase x=st.reverse++H:=by
 rw [List.reverse_cons,List.append_assoc,List.erase_append_right _ (by simpa using hx)]
 simp
end
theorem bnv_zero(w:World)(F:Nat→Prop):BNV w F (.agg #[.slice none 0 0, .slice none 0 0, .slice none 0 0, .int .u64 0]) BN.zero:=
 ⟨⟨none,0,none,0,none,0,rfl, .inl rfl, .inl rfl, .inl rfl⟩,by simp [BN.zero]⟩
theorem bn_zero_ok:BN.zero.Ok:=⟨fun x h=>by simp [BN.zero] at h,fun x h=>by simp [BN.zero] at h,fun x h=>by simp [BN.zero] at h,by simp [BN.zero]⟩
theorem bn_zero_fits(t:Nat):BN.zero.Fits t:=⟨by simp [BN.zero],rfl, .inl rfl⟩
section
variable {s:Nat} {F:Nat→Prop} {R:Nat→Option (List Nat)} {H:List Nat} {P q most last G:Nat}
set_option maxRecDepth 100000 in
theorem btMaker_at{w:World}(h:StoreIs w s F R H P q most last G)(t:Nat)(ht:BN.Deg t)(n:Nat)(hn:n≤1000):
 Calls Tryz.prog 31 #[.agg #[.pointer (some ⟨s,0,none⟩), .int .i64 (t:Nat)], .int .i64 (n:Nat)] w (MkR w s F R H P q most last G t n):=by
 have hsN:=h.s_lt
 have htN:1<w.heap.size:=by
  obtain⟨nn,hrd,_⟩:=h.rd
  obtain⟨_,_,_,_,_,_,_,_,_,_,_,_,_,_,_,_,_,_,_,h4⟩:=hrd
  exact h4.2
 obtain⟨i0,hi,hz0,hz1,hz2⟩:=info_parts Tryz.info_handle
 obtain⟨W0,hW0⟩: ∃W,W=(w.alloc (Obj.cells #[.pointer (some ⟨s,0,none⟩), .int .i64 (t:Nat)] 74)).alloc (Obj.cells #[.slice none 0 0] 43):=⟨_,rfl⟩
 have hb0:Below w.heap.size w W0:=by rw [hW0];exact((Below.refl _ w).alloc (Nat.le_refl _) _).alloc (by simp) _
 obtain⟨b2,hb2⟩: ∃b,b=w.heap.size:=⟨_,rfl⟩
 obtain⟨bl,hbl⟩: ∃b,b=w.heap.size+1:=⟨_,rfl⟩
 have x2:Box W0 b2 74 [.pointer (some ⟨s,0,none⟩), .int .i64 (t:Nat)]:=by rw [hW0,hb2];exact(Box.new w 74 [.pointer (some ⟨s,0,none⟩), .int .i64 (t:Nat)]).alloc _
 have xl:Box W0 bl 43 [.slice none 0 0]:=by
  rw [hW0,hbl]
  have:=Box.new (w.alloc (Obj.cells #[.pointer (some ⟨s,0,none⟩), .int .i64 (t:Nat)] 74)) 43 [.slice none 0 0]
  rwa [show(w.alloc (Obj.cells #[.pointer (some ⟨s,0,none⟩), .int .i64 (t:Nat)] 74)).heap.size=w.heap.size+1 by simp] at this
 have g2:w.heap.size≤b2:=by omega
 have gl:w.heap.size≤bl:=by omega
 have hne:bl≠b2:=by omega
 have hF0: ∀b,F b→b<w.heap.size:=fun b hb=>h.lt hb
 have hmk0:Mk w.heap.size W0 s t F bl b2 (.slice none 0 0) []:=⟨xl,x2,World.ownsRow_nil _ _ _ _,fun _=>rfl,fun hf=>by have:=hF0 _ hf;omega,fun hf=>by have:=hF0 _ hf;omega,fun k hk=>by simp [Value.ownBlock] at hk⟩
 obtain⟨pg,hpg⟩: ∃pg,pg=pgsN (6*t+2):=⟨_,rfl⟩
 have hst0:Hid (Bt.Fresh R R t []∧(∀x∈([]:List Nat),R x=some (BN.zero.wd t)∧x<18446744073709551616)∧StoreIs W0 s F R H (P+0*pg) q most last (G+0)∧Turn w F W0 F∧Mk w.heap.size W0 s t F bl b2 (.slice none 0 0) []):=Lib.hid ⟨Bt.Fresh.start,fun x hx=>absurd hx (by simp),by rw [Nat.zero_mul];exact h.below hb0,Turn.below hb0,hmk0⟩
 have hdef:Hid (∀e W,((∃st F' R' bl b2 v,e= .returned (.tuple #[.func (.func 61) #[] #[.pointer (some ⟨bl,0,none⟩), .pointer (some ⟨b2,0,none⟩)], .int .i64 0])∧st.length=n∧Bt.Fresh R R' t st∧(∀x∈st,R' x=some (BN.zero.wd t)∧x<18446744073709551616)∧StoreIs W s F' R' (st.reverse++H) (P+n*pg) q most last (G+n)∧Turn w F W F' ∧Mk w.heap.size W s t F' bl b2 v st∧w.heap.size≤bl∧w.heap.size≤b2∧bl≠b2)∨
  (∃er F',e= .returned (.tuple #[.nilFunc, .int .i64 (er:Nat)])∧((er=3∧q<(P+n*pg)*64)∨(er=10∧(most<H.length+n∨last<G+n)))∧StoreIs W s F' R H (P+n*pg) q most last (G+n)∧Turn w F W F'))→MkR w s F R H P q most last G t n e W):=Lib.hid (fun e W h=>by unfold MkR;rw [←hpg];exact h)
 have hWH:=Lib.hid (And.intro hW0 (And.intro hb2 hbl))
 have hpgH:=Lib.hid hpg
 have hF0H:=Lib.hid hF0
 clear h hW0 hb0 hb2 hbl x2 xl hmk0 hpg hF0
 go_enter Tryz.func31,Tryz.ntmps31
 go_wp2
 rw [←hWH.out.1,←hWH.out.2.2,←hWH.out.2.1]
 go_loopw [12] (fun iv wr=> ∃(i:Nat) (st:List Nat) (v:Value) (F1:Nat→Prop) (R1:Nat→Option (List Nat)),i≤n∧iv= .int .i64 (i:Nat)∧st.length=i∧Hid (Bt.Fresh R R1 t st∧(∀x∈st,R1 x=some (BN.zero.wd t)∧x<18446744073709551616)∧StoreIs wr s F1 R1 (st.reverse++H) (P+i*pg) q most last (G+i)∧Turn w F wr F1∧Mk w.heap.size wr s t F1 bl b2 v st)) (fun iv _=>n-(intOf iv).toNat)
 case atStart=>exact⟨0,[], .slice none 0 0,F,R,Nat.zero_le _,rfl,rfl,hst0⟩
 case round=>
  obtain⟨i,st,v,F1,R1,hi1,rfl,hsl,hst⟩:=hrel
  have hslH:=Lib.hid hsl
  clear hsl
  by_cases hlt:i<n
  · obtain⟨k1,k2,k3,k4,k5⟩:=hst.out
    have e20:=k5.b2x.at' (i:=0) rfl
    have e21:=k5.b2x.at' (i:=1) rfl
    have hMk:=bnMake_at k3 t ht (bnv_zero wr F1) bn_zero_ok (bn_zero_fits t)
    unfold MadeW at hMk
    rw [BN.wd_len,←hpgH.out] at hMk
    have hMkH:=Lib.hid hMk
    have k1H:=Lib.hid (And.intro k1 k2)
    have k3H:=Lib.hid k3
    have k4H:=Lib.hid k4
    have k5H:=Lib.hid k5
    clear hMk k1 k2 k3 k4 k5 hst
    go_wp2_with fail
    refine hMkH.out.mono ?_
    rintro e w1 (⟨x,F2,hRx,hx0,hx64,rfl,hS,hT⟩|⟨er,F2,rfl,her,hS,hT⟩)
    · have m1:=k5H.out.turn hT
      obtain⟨A,c,hv⟩:=ownsRow_form m1.row
      have hfr:=k1H.out.1.snoc (n:=BN.zero) hRx hx0
      have hnext:Hid (∀v' w4,w4.ownsRow w.heap.size 23 1 v' (st++ [x]).length (hsV (st++ [x]))→ ∀tmp,(w1.alloc tmp).grownBy w4 v.ownBlock→(v'.ownBlock=v.ownBlock∨v'.ownBlock=some (w1.alloc tmp).heap.size)→
       (Bt.Fresh R (updR R1 x (some (BN.zero.wd t))) t (st++ [x])∧(∀y∈st++ [x],(updR R1 x (some (BN.zero.wd t))) y=some (BN.zero.wd t)∧y<18446744073709551616)∧StoreIs (w4.setCell ⟨bl,0,none⟩ v') s F2 (updR R1 x (some (BN.zero.wd t))) ((st++ [x]).reverse++H) (P+(i+1)*pg) q most last (G+(i+1))∧Turn w F (w4.setCell ⟨bl,0,none⟩ v') F2∧Mk w.heap.size (w4.setCell ⟨bl,0,none⟩ v') s t F2 bl b2 v' (st++ [x]))):=Lib.hid (fun v' w4 h1 tmp h2 h3=>by
       have hba:Below w1.heap.size w1 (w1.alloc tmp):=(Below.refl _ w1).alloc (Nat.le_refl _) _
       refine⟨hfr,fun y hy=> ?_, ?_, ?_,m1.more hne (fun b hb=>hS.lt hb) h1 h2 h3⟩
       · by_cases e:y=x
         · subst e;exact⟨updR_same _ _ _,hx64⟩
         · rw [updR_other e]
           rcases List.mem_append.1 hy with hy|hy
           · exact k1H.out.2 y hy
           · exact absurd (List.mem_singleton.1 hy) e
       · have:=m1.store (v' :=v') (x:=x) hS ⟨hsN,htN⟩ gl h2
         rw [List.reverse_append,Nat.succ_mul,←Nat.add_assoc]
         exact this
       · have hTw:=(k4H.out.trans hT).trans (Turn.below (F:=F2) hba)
         have h9:=hTw.own (Nat.le_refl _) h2 (fun r hr=>(row_ge m1.row hr).1)
         exact h9.own (Nat.le_refl _) (grown_set w4 bl 0 v') (fun r hr=>by obtain rfl:bl=r:=Option.some.inj hr;exact gl))
      have hcl:Hid (∀tmp w4,(w1.alloc tmp).grownBy w4 v.ownBlock→w4.cell? ⟨bl,0,none⟩=some v∧w4.frozen? ⟨bl,0,none⟩=false):=Lib.hid (fun tmp w4 hg=>by
       have hbl2:some bl≠v.ownBlock:=fun e=>(m1.fr bl e.symm).1 rfl
       have k1:Box w4 bl 43 [v]:=m1.bx.block ((hg.block bl (by have:=m1.bx.lt;simp;omega) hbl2).trans (Below.heap_alloc w1 tmp bl m1.bx.lt))
       exact⟨k1.at' (i:=0) rfl,k1.free 0⟩)
      have hrow1:=m1.row
      have cbl:=m1.bx.at' (i:=0) rfl
      have fbl:=m1.bx.free 0
      have hsz1:w.heap.size≤w1.heap.size:=Nat.le_trans k4H.out.size hT.size
      have hlen:=hslH.out
      subst hv
      have hrow1H:=Lib.hid hrow1
      rw [hlen] at hrow1
      have hlenH:=Lib.hid hlen
      clear hfr m1 hS hT hrow1 hlen e20 e21
      go_wp2_with (at_builtin;refine wpList_append_own_at _ rfl _ _ 43 rfl w.heap.size 23 i0 (.int .u64 0) 1 8 Tryz.under_handles hi hz0 hz1 hz2 rfl (by decide) _ _ _ rfl (hrow1H.out.alloc _) ⟨w1.heap.size,0,none⟩ 1 1 [.int .u64 (x:Int)] rfl rfl (cell_one_new _ _ _) (by simp [Value.oneCell']) (by rw [hlenH.out];unfold maxLen;omega) (by rw [hlenH.out];omega) (by simp;omega) ?_;intro v' w4 hown' hgrow _ hblk;obtain⟨A9,c9,rfl⟩:=ownsRow_form hown';obtain⟨hc4,hf4⟩:=hcl.out _ _ hgrow;have hnx:=Lib.hid (hnext.out _ _ (by rw [hsV_snoc,List.length_append];exact hown') _ hgrow hblk);clear hown' hgrow hblk)
      go_roundw
      case rel=>exact⟨i+1,st++ [x],_,F2,_,by omega,by go_num,by rw [List.length_append,hlenH.out];rfl,hnx⟩
      case measure=>simp [intOf];omega
    · have m1:=k5H.out.turn hT
      have her0:((er:Int) !=0)=true:=by rcases her with ⟨rfl,_⟩|⟨rfl,_⟩<;>rfl
      have hmul:i*pg+pg≤n*pg:=by rw [←Nat.succ_mul];exact Nat.mul_le_mul_right pg hlt
      have hS2:=hS.more (P' :=P+n*pg) (G' :=G+n) (by omega) (by omega)
      have hcau:Hid ((er=3∧q<(P+n*pg)*64)∨(er=10∧(most<H.length+n∨last<G+n))):=Lib.hid (by
       rcases her with ⟨h1,h2⟩|⟨h1,h2⟩
       · exact .inl ⟨h1,Nat.lt_of_lt_of_le h2 (Nat.mul_le_mul_right 64 (by omega))⟩
       · refine .inr ⟨h1, ?_⟩
         have h9:=hslH.out
         rw [List.length_append,List.length_reverse] at h2
         rcases h2 with h2|h2
         · exact .inl (by omega)
         · exact .inr (by omega))
      obtain⟨A,c,hv⟩:=ownsRow_form m1.row
      have cbl:=m1.bx.at' (i:=0) rfl
      have hl9:st.length≤1000:=by have:=hslH.out;omega
      have hst2:Hid (StoreIs w1 s F2 (dropF R1 (st.take 0)) ((st.drop 0).reverse++H) (P+n*pg) q most last (G+n)∧Turn w F w1 F2∧Mk w.heap.size w1 s t F2 bl b2 v st):=Lib.hid ⟨by rw [List.take_zero,dropF_nil];exact hS2,k4H.out.trans hT,m1⟩
      subst hv
      clear m1 her hmul hS hS2 hT e20 e21
      go_wp2
      go_loopw [27] (fun kv wr2=> ∃(k:Nat) (F3:Nat→Prop),k≤st.length∧kv= .int .i64 (k:Nat)∧Hid (StoreIs wr2 s F3 (dropF R1 (st.take k)) ((st.drop k).reverse++H) (P+n*pg) q most last (G+n)∧Turn w F wr2 F3∧Mk w.heap.size wr2 s t F3 bl b2 (.slice A st.length c) st)) (fun kv _=>st.length-(intOf kv).toNat)
      case atStart=>exact⟨0,F2,Nat.zero_le _,rfl,hst2⟩
      case round=>
       obtain⟨k,F3,hk,rfl,hr⟩:=hrel
       by_cases hlk:k<st.length
       · obtain⟨r1,r2,r3⟩:=hr.out
         obtain⟨A',c',e1,hC⟩:=row_cellsF (F:=fun _=>False) r3.row (fun _ h=>h.elim)
         cases e1
         obtain⟨b,o,hA,hbl9,hcell⟩:=hC.num hlk
         have hck:=hcell _ (Below.refl _ _)
         have hmem:st[k]∈st:=List.getElem_mem hlk
         have hsplit:st.drop k=st[k]::st.drop (k+1):=List.drop_eq_getElem_cons hlk
         have hndp:=k1H.out.1.nodup
         have hnin:st[k]∉st.drop (k+1):=by
          have:=List.Nodup.sublist (List.drop_sublist k st) hndp
          rw [hsplit] at this
          exact(List.nodup_cons.1 this).1
         have hnin2:st[k]∉st.take k:=by
          have h9:(st.take k++st.drop k).Nodup:=by rw [List.take_append_drop];exact hndp
          intro hm
          exact(List.nodup_append.1 h9).2.2 _ hm _ (by rw [hsplit];exact List.mem_cons_self) rfl
         have hRx:dropF R1 (st.take k) st[k]=some (BN.zero.wd t):=by
          unfold dropF
          rw [if_neg hnin2]
          exact(k1H.out.2 _ hmem).1
         have hD:=sdrop_at r1 hRx
         rw [hsplit,erase_one hnin,dropF_snoc,show st.take k++ [st[k]]=st.take (k+1) from(List.take_succ_eq_append_getElem hlk).symm] at hD
         obtain⟨x,hx⟩: ∃x,st[k]=x:=⟨_,rfl⟩
         rw [hx] at hD hck
         have hDH:=Lib.hid hD
         have r2H:=Lib.hid r2
         have r3H:=Lib.hid r3
         have e20:=r3.b2x.at' (i:=0) rfl
         subst hA
         clear hD r1 r2 r3 hr hC hcell hmem hsplit hndp hnin hnin2 hRx hx
         go_wp2_with fail
         refine hDH.out.mono ?_
         rintro e w5 ⟨F4,rfl,hS5,hT5⟩
         have hnx:=Lib.hid (And.intro hS5 (And.intro (r2H.out.trans hT5) (r3H.out.turn hT5)))
         clear hS5 hT5 e20
         go_wp2
         go_roundw
         case rel=>exact⟨k+1,F4,by omega,by go_num,hnx⟩
         case measure=>simp [intOf];omega
       · obtain rfl:k=st.length:=by omega
         have hd:=hdef.out
         obtain⟨r1,r2,r3⟩:=hr.out
         rw [List.take_length,dropF_fresh k1H.out.1,List.drop_length,List.reverse_nil,List.nil_append] at r1
         have hf:=Lib.hid (fun e he=>hd e wr (.inr ⟨er,F3,he,hcau.out,r1,r2⟩))
         clear hd hr r1 r2 r3
         go_wp2
         go_ret2
         exact hf.out _ rfl
  · obtain rfl:i=n:=by omega
    have hd:=hdef.out
    obtain⟨k1,k2,k3,k4,k5⟩:=hst.out
    have hf:=Lib.hid (fun e he=>hd e wr (.inl ⟨st,F1,R1,bl,b2,v,he,hslH.out,k1,k2,k3,k4,k5,gl,g2,hne⟩))
    clear hd hst k1 k2 k3 k4 k5
    go_wp2
    go_ret2
    exact hf.out _ rfl
end
def FB(F:Nat→Prop)(bl:Nat):Nat→Prop:=fun b=>F b∨b=bl
theorem Turn.minus{w W W' :World}{F F1:Nat→Prop}{bl:Nat}(h:Turn w F W F1)(g:Turn W (FB F1 bl) W' (FB F1 bl))(hb:w.heap.size≤bl):Turn w F W' F1:=
 ⟨g.os.trans h.os,g.tape.trans h.tape,g.output.trans h.output,Nat.le_trans h.size g.size,fun k hk hn=>(g.keep k (Nat.lt_of_lt_of_le hk h.size) (fun hf=>by
  rcases hf with hf|hf
  · rcases h.grow k hf with h1|h1
    · exact hn h1
    · omega
  · omega)).trans (h.keep k hk hn),h.grow⟩
theorem Turn.fb{w w' :World}{F:Nat→Prop}{bl:Nat}(h:Turn w F w' F):Turn w (FB F bl) w' (FB F bl):=⟨h.os,h.tape,h.output,h.size,fun k hk hn=>h.keep k hk fun hf=>hn (.inl hf),fun _ hf=> .inl hf⟩
theorem Turn.set_fb(W:World)(F:Nat→Prop)(bl j:Nat)(v:Value):Turn W (FB F bl) (W.setCell ⟨bl,j,none⟩ v) (FB F bl):=
 ⟨rfl,rfl,rfl,by simp [World.setCell],fun k hk hn=>Below.heap_setCell W ⟨bl,j,none⟩ v k (fun e=>hn (.inr e)),fun _ h=> .inl h⟩
theorem CellsF.less{w:World}{F F' :Nat→Prop}{A:Option Addr}{vs:List Value}(h:CellsF w F A vs)(hF: ∀b,F' b→F b):CellsF w F' A vs:=by
 rcases h with h|⟨b,o,h1,h2,h3,h4⟩
 · exact .inl h
 · exact .inr ⟨b,o,h1,h2,fun hf=>h3 (hF b hf),h4⟩
theorem BNV.less{w:World}{F F' :Nat→Prop}{v:Value}{n:BN}(h:BNV w F v n)(hF: ∀b,F' b→F b):BNV w F' v n:=by
 obtain⟨⟨Ak,ck,Av,cv,Ai,ci,e,k1,k2,k3⟩,ll⟩:=h
 exact⟨⟨Ak,ck,Av,cv,Ai,ci,e,k1.less hF,k2.less hF,k3.less hF⟩,ll⟩
structure Tk(N:Nat)(W:World)(s t:Nat)(F:Nat→Prop)(bl b2:Nat)(v:Value)(st:List Nat):Prop where
 bx:Box W bl 43 [v]
 b2x:Box W b2 74 [.pointer (some ⟨s,0,none⟩), .int .i64 (t:Nat)]
 row:W.ownsRow N 23 1 v st.length (hsV st)
 fl: ¬F bl
 f2: ¬F b2
 fr: ∀k,v.ownBlock=some k→k≠bl∧k≠b2∧ ¬F k
 ne:bl≠b2
section
variable {s:Nat} {F:Nat→Prop} {R:Nat→Option (List Nat)} {H:List Nat} {P q most last G:Nat} {N t bl b2:Nat} {v:Value} {st:List Nat}
theorem Mk.tk{W:World}(h:Mk N W s t F bl b2 v st)(hne:bl≠b2):Tk N W s t F bl b2 v st:=⟨h.bx,h.b2x,h.row,h.fl,h.f2,h.fr,hne⟩
theorem Tk.turn{W W' :World}{F' :Nat→Prop}(h:Tk N W s t F bl b2 v st)(ht:Turn W F W' F'):Tk N W' s t F' bl b2 v st:=
 ⟨h.bx.turn ht h.fl,h.b2x.turn ht h.f2,rows_keep h.row fun k hk=>ht.keep k (rows_lt h.row k hk) (h.fr k hk).2.2,ht.not h.bx.lt h.fl,ht.not h.b2x.lt h.f2,fun k hk=>⟨(h.fr k hk).1,(h.fr k hk).2.1,ht.not (rows_lt h.row k hk) (h.fr k hk).2.2⟩,h.ne⟩
theorem Tk.below{W W' :World}(h:Tk N W s t F bl b2 v st)(hb:Below W.heap.size W W'):Tk N W' s t F bl b2 v st:=h.turn (Turn.below hb)
theorem rows_cut{W:World}{A:Option Addr}{c x:Nat}{st:List Nat}(h:W.ownsRow N 23 1 (.slice A (st++ [x]).length c) (st++ [x]).length (hsV (st++ [x]))):W.ownsRow N 23 1 (.slice A st.length c) st.length (hsV st):=by
 refine⟨by rw [hsV_len,Nat.mul_one], ?_⟩
 rcases h.2 with ⟨h1,h2⟩|⟨g,cap,cur,h1,h2,h3,h4,h5,h6,h7⟩
 · simp at h2
 · cases h1
   refine .inr ⟨g,c,cur,rfl,h2,h3,by rw [List.length_append] at h4;omega,h5,h6, ?_⟩
   rw [Nat.mul_one] at h7 ⊢
   have h8:=congrArg (List.take st.length) h7
   rw [List.take_take,List.length_append,Nat.min_eq_left (by omega)] at h8
   rw [h8,hsV_app]
   exact List.take_left' (hsV_len st)
def TakeR(N:Nat)(w:World)(s t:Nat)(F:Nat→Prop)(bl b2:Nat)(vb:Option Nat)(R:Nat→Option (List Nat))(H:List Nat)(P q most last G:Nat)(p:(Nat→Option (List Nat)) × List Nat × Nat)(e:Ending)(w' :World):Prop:=
 ∃v' st',v'.ownBlock=vb∧e= .returned (.int .u64 (p.2.2:Nat))∧st'.reverse=p.2.1∧StoreIs w' s F p.1 H P q most last G∧Turn w (FB F bl) w' (FB F bl)∧Tk N w' s t F bl b2 v' st'
set_option maxRecDepth 100000 in
theorem btTake_at{w:World}(hs:StoreIs w s F R H P q most last G)(ht:BN.Deg t)(hT:Tk N w s t F bl b2 v st)(hN:s<N∧1<N)(hbN:N≤bl)(h64: ∀x∈st,x<18446744073709551616)(hsl:st.length≤100000){nv:Value}{n:BN}(hv:BNV w (FB F bl) nv n)(hok:n.Ok):
 Calls Tryz.prog 61 #[nv, .pointer (some ⟨bl,0,none⟩), .pointer (some ⟨b2,0,none⟩)] w (TakeR N w s t F bl b2 v.ownBlock R H P q most last G (btake R t st.reverse n)):=by
 obtain⟨⟨Ak,ck,Av,cv,Ai,ci,hnv,k1,k2,k3⟩,ll⟩:=hv
 have hV:BNV w (FB F bl) nv n:=⟨⟨Ak,ck,Av,cv,Ai,ci,hnv,k1,k2,k3⟩,ll⟩
 subst hnv
 obtain⟨W1,hW1⟩: ∃W,W=w.alloc (Obj.cells #[.slice Ak n.keys.length ck, .slice Av n.vals.length cv, .slice Ai n.kids.length ci, .int .u64 (n.size:Nat)] 48):=⟨_,rfl⟩
 have hb1:Below w.heap.size w W1:=by rw [hW1];exact(Below.refl _ w).alloc (Nat.le_refl _) _
 obtain⟨b3,hb3⟩: ∃b,b=w.heap.size:=⟨_,rfl⟩
 have x3:Box W1 b3 48 [.slice Ak n.keys.length ck, .slice Av n.vals.length cv, .slice Ai n.kids.length ci, .int .u64 (n.size:Nat)]:=by rw [hW1,hb3];exact Box.new w _ _
 have T1:=hT.below hb1
 obtain⟨A,c,hvf⟩:=ownsRow_form T1.row
 have cbl:=T1.bx.at' (i:=0) rfl
 have fbl:=T1.bx.free 0
 have hWH:=Lib.hid (And.intro hW1 hb3)
 rw [hW1] at cbl fbl
 rcases List.eq_nil_or_concat st with rfl|⟨st0,x,hst⟩
 · subst hvf
   have hfin:Hid (TakeR N w s t F bl b2 (Value.slice A ([]:List Nat).length c).ownBlock R H P q most last G (btake R t ([]:List Nat).reverse n) (.returned (.int .u64 0)) W1):=Lib.hid ⟨_,[],rfl,rfl,rfl,hs.below hb1,(Turn.below hb1).fb,T1⟩
   clear hs ht hT hV k1 k2 k3 hb1 x3 T1 hW1
   go_enter Tryz.func61,Tryz.ntmps61
   go_wp2
   rw [←hWH.out.1]
   go_ret
   exact hfin.out
 · rw [List.concat_eq_append] at hst
   subst hst
   subst hvf
   have hlen:(st0++ [x]).length=st0.length+1:=by simp
   have hr1:=T1.row
   have hcut:=rows_cut hr1
   obtain⟨A',c',e1,hC⟩:=row_cellsF (F:=fun _=>False) hr1 (fun _ h=>h.elim)
   cases e1
   obtain⟨b,o,hA,hbl9,hcell⟩:=hC.num (k:=st0.length) (by omega)
   have hck:=hcell _ (Below.refl _ _)
   rw [List.getElem_concat_length (by rfl)] at hck
   have hcap:st0.length+1≤c∧c≤maxLen:=by
    rcases hr1.2 with ⟨h1,h2⟩|⟨g,cap,cur,h1,h2,h3,h4,h5,h6⟩
    · omega
    · cases h1;exact⟨by omega,h5⟩
   unfold maxLen at hcap
   have hx64:x<18446744073709551616:=h64 x (by simp)
   obtain⟨hc1,hc2⟩:=hcap
   have hsl1:st0.length+1≤100000:=by omega
   have hfr:=T1.fr
   have hnb: ∀k,(Value.slice A st0.length c).ownBlock=some k→k≠bl∧k≠b2∧ ¬F k:=fun k hk=>hfr k (by cases A with|none=>simp [Value.ownBlock] at hk|some a=>exact hk)
   have hS1:=hs.below hb1
   have hFin:Hid (∀(W2 w3:World),W2=W1.setCell ⟨bl,0,none⟩ (.slice A st0.length c)→StoreIs w3 s F (bputR R t x n) H P q most last G→Turn W2 F w3 F→TakeR N w s t F bl b2 (Value.slice A (st0++ [x]).length c).ownBlock R H P q most last G (btake R t (st0++ [x]).reverse n) (.returned (.int .u64 (x:Nat))) w3):=Lib.hid (fun W2 w3 hW2 h1 h2=>by
    have hbt:btake R t (st0++ [x]).reverse n=(bputR R t x n,st0.reverse,x):=by simp [btake]
    rw [hbt]
    have hTk2:Tk N W2 s t F bl b2 (.slice A st0.length c) st0:=by
     rw [hW2]
     refine⟨T1.bx.set 0 _,T1.b2x.other (p:=⟨bl,0,none⟩) (Ne.symm T1.ne) _,rows_keep hcut fun k hk=>Below.heap_setCell W1 ⟨bl,0,none⟩ _ k (hnb k hk).1,T1.fl,T1.f2,hnb,T1.ne⟩
    refine⟨_,st0,by cases A<;>rfl,rfl,rfl,h1,((Turn.below hb1).fb.trans (by rw [hW2];exact Turn.set_fb W1 F bl 0 _)).trans h2.fb,hTk2.turn h2⟩)
   obtain⟨W2,hW2⟩: ∃W,W=W1.setCell ⟨bl,0,none⟩ (.slice A st0.length c):=⟨_,rfl⟩
   have hS2:StoreIs W2 s F R H P q most last G:=by
    rw [hW2]
    refine hS1.grown (grown_set W1 bl 0 _) (fun k hk=> ?_)
    obtain rfl:bl=k:=Option.some.inj hk
    refine⟨by omega,by omega,T1.fl,fun p hc=> ?_⟩
    rw [T1.bx.at' (i:=0) rfl] at hc
    cases hc
   have hV2:BNV W2 F (.agg #[.slice Ak n.keys.length ck, .slice Av n.vals.length cv, .slice Ai n.kids.length ci, .int .u64 (n.size:Nat)]) n:=by
    rw [hW2]
    exact((hV.turn (Turn.below hb1)).turn (Turn.set_fb W1 F bl 0 _)).less fun b hb=> .inl hb
   have hPut:=bnPut_at hS2 t ht x hx64 hV2 hok
   unfold BPut at hPut
   have y3:=x3.other (p:=⟨bl,0,none⟩) (fun e=>by have h8:=hT.bx.lt;have h9:b3=bl:=e;omega) (.slice A st0.length c)
   have y2:=T1.b2x.other (p:=⟨bl,0,none⟩) (Ne.symm T1.ne) (.slice A st0.length c)
   rw [←hW2] at y3 y2
   have a30:=y3.at' (i:=0) rfl
   have a31:=y3.at' (i:=1) rfl
   have a32:=y3.at' (i:=2) rfl
   have a33:=y3.at' (i:=3) rfl
   have a20:=y2.at' (i:=0) rfl
   have a21:=y2.at' (i:=1) rfl
   have hPutH:=Lib.hid hPut
   have hW2H:=Lib.hid hW2
   rw [hWH.out.1] at hck
   rw [hlen] at cbl
   rw [hWH.out.1] at hW2
   have hW2r:=Lib.hid hW2
   subst hA
   clear hb3 hPut hW2 hS2 hV2 y3 y2 hs ht hT hV k1 k2 k3 hb1 x3 T1 hW1 hr1 hcut hC hcell hfr hnb hS1 hlen h64 hsl hN
   go_enter Tryz.func61,Tryz.ntmps61
   go_upto_region 5 with (fail)
   rw [←hW2r.out,←hWH.out.2]
   go_wp2_with fail
   refine hPutH.out.mono ?_
   rintro e w3 ⟨rfl,hS3,hT3⟩
   have hf:=Lib.hid (hFin.out W2 w3 hW2H.out hS3 hT3)
   clear hS3 hT3
   go_wp2
   go_ret
   exact hf.out
end
def BN.setKV(n:BN)(k a b:Nat):BN:=⟨n.keys.set k a,n.vals.set k b,n.kids,n.size⟩
def bswap(R:Nat→Option (List Nat))(t:Nat)(key:ByteArray)(ak av:Nat):Nat→Nat→(Nat→Option (List Nat)) × Option (Nat × Nat)
 |0,_=>(R,none)
 |f+1,h=>
  if bnE R t h≠0 then (R,none) else
  swGo (bnG R t h) h (plK R (bnG R t h).keys key) (plH R (bnG R t h).keys key) (bswap R t key ak av f)
where
 swGo (n:BN) (h k:Nat) (b:Bool) (rec:Nat→(Nat→Option (List Nat)) × Option (Nat × Nat)):(Nat→Option (List Nat)) × Option (Nat × Nat):=
  cond b (bputR R t h (n.setKV k ak av),some (n.keys.getD k 0,n.vals.getD k 0)) (if n.kids= [] then (R,none) else rec (n.kids.getD k 0))
namespace Bt
def setI(l:List It)(it:It):List It:=l.map fun i=>if i.k=it.k then it else i
theorem setI_len(l:List It)(it:It):(setI l it).length=l.length:=by simp [setI]
theorem setI_append(a b:List It)(it:It):setI (a++b) it=setI a it++setI b it:=by simp [setI]
theorem setI_none{l:List It}{it:It}(h: ∀i∈l,i.k≠it.k):setI l it=l:=by
 unfold setI
 conv=>rhs;rw [←List.map_id l]
 exact List.map_congr_left fun i hi=>if_neg (h i hi)
theorem low_ne{a b:List It}{x:It}(hr:Rising (prs (a++x::b))):(∀i∈a,i.k≠x.k)∧ ∀i∈b,i.k≠x.k:=by
 rw [prs_append,prs_cons] at hr
 obtain⟨h1,h2,h3⟩:=List.pairwise_append.1 hr
 refine⟨fun i hi e=> ?_,fun i hi e=> ?_⟩
 · have:=h3 i.pr (List.mem_map.2 ⟨i,hi,rfl⟩) x.pr (by simp)
   rw [show i.pr.1=x.pr.1 from e,(cmp_zero.2 rfl:Tx.cmp x.pr.1 x.pr.1=0)] at this
   omega
 · have:=(List.pairwise_cons.1 h2).1 i.pr (List.mem_map.2 ⟨i,hi,rfl⟩)
   rw [show i.pr.1=x.pr.1 from e,(cmp_zero.2 rfl:Tx.cmp x.pr.1 x.pr.1=0)] at this
   omega
theorem setI_mid{a b:List It}{x it:It}(hr:Rising (prs (a++x::b)))(he:x.k=it.k):setI (a++x::b) it=a++it::b:=by
 obtain⟨h1,h2⟩:=low_ne hr
 rw [he] at h1 h2
 rw [setI_append,setI_none h1]
 show a++(if x.k=it.k then it else x)::setI b it=_
 rw [if_pos he,setI_none h2]
theorem setI_set{l:List It}{it:It}{k:Nat}(hk:k<l.length)(hr:Rising (prs l))(he:l[k].k=it.k):setI l it=l.set k it:=by
 have e:l=l.take k++l[k]::l.drop (k+1):=by rw [←List.drop_eq_getElem_cons hk,List.take_append_drop]
 rw [List.set_eq_take_append_cons_drop,if_pos hk]
 conv=>lhs;rw [e]
 rw [e] at hr
 exact setI_mid hr he
theorem setI_prs{l:List It}{it x:It}(hr:Rising (prs l))(hf:findI l it.k=some x):prs (setI l it)=putL (prs l) it.pr:=by
 obtain⟨h1,h2⟩:=(findI_has hr).2 x hf
 obtain⟨hlt,h3⟩:=List.getElem?_eq_some_iff.1 h1
 have hr2:=hr
 rw [setI_set hlt hr (by rw [h3];exact h2)]
 have hp:(prs l)[rankL (prs l) it.k]? =some x.pr:=by unfold prs at h1 ⊢;rw [List.getElem?_map,h1];rfl
 unfold putL
 show prs (l.set (rankL (prs l) it.k) it)=_
 rw [show it.pr.1=it.k from rfl,hp]
 generalize rankL (prs l) it.k=r at*
 rw [List.set_eq_take_append_cons_drop,if_pos hlt]
 simp only [Option.map_some,show x.pr.1=x.k from rfl,h2]
 simp [prs,List.map_take,List.map_drop]
section
variable {R:Nat→Option (List Nat)} {t:Nat}
theorem swap_node{key:ByteArray}{ak av f x k:Nat}{n:BN}{b:Bool}(e1:bnG R t x=n)(e2:bnE R t x=0)(hk:plK R n.keys key=k)(hb:plH R n.keys key=b):bswap R t key ak av (f+1) x=bswap.swGo R t ak av n x k b (bswap R t key ak av f):=by
 subst e1 hk hb
 conv=>lhs;unfold bswap
 rw [if_neg (by rw [e2];simp)]
theorem swap_right(ht:BN.Deg t)(it old:It): ∀(a lo f:Nat) (s:Sb),At R t a lo s→R 0=none→s.ns.Nodup→(∀i∈s.its,i.At R)→Rising (prs s.its)→findI s.its it.k=some old→a<f→
 ∃R',bswap R t it.k it.kh it.vh f s.h=(R',some (old.kh,old.vh))∧At R' t a lo ⟨s.h,setI s.its it,s.ns⟩∧(∀z,z∉s.ns→R' z=R z):=by
 intro a
 induction a with
 |zero=>
  intro lo f s h hz hnd hA hr hfi hf
  obtain⟨f,rfl⟩: ∃g,f=g+1:=⟨f-1,by omega⟩
  obtain⟨e1,e2⟩:=h.2.2.get ht
  obtain⟨g1,g2⟩:=(findI_has hr).2 old hfi
  obtain⟨hlt,g3⟩:=List.getElem?_eq_some_iff.1 g1
  rw [swap_node e1 e2 (place_items hA hr) (here_items hA hr),hfi]
  have hn:(leafOf s.its).setKV (rankL (prs s.its) it.k) it.kh it.vh=leafOf (setI s.its it):=by
   rw [setI_set hlt hr (by rw [g3];exact g2)]
   simp [BN.setKV,leafOf,List.map_set]
  have hfit:(leafOf (setI s.its it)).Fits t:=leaf_fits (by rw [setI_len];have:=h.2.2.2.1;simpa [leafOf] using this)
  refine⟨updR R s.h (some ((leafOf (setI s.its it)).wd t)), ?_,⟨h.1,by show lo≤(setI s.its it).length;rw [setI_len];exact h.2.1,updR_same _ _ _,hfit⟩,fun z hzn=>updR_other fun e=>hzn (by rw [h.1,e];simp)⟩
  unfold bswap.swGo
  rw [Option.isSome_some,cond_true,hn,bputR_same hfit h.2.2.1 (BN.wd_len _ _)]
  simp [leafOf,hlt,g3]
 |succ a ih=>
  intro lo f s h hz hnd hA hr hfi hf
  obtain⟨f,rfl⟩: ∃g,f=g+1:=⟨f-1,by omega⟩
  have hzs:=h.ns_zero hz
  obtain⟨c,l,h1,h2,h3,h4,h5,h6⟩:=h
  obtain⟨e1,e2⟩:=h4.get ht
  obtain⟨s_h,s_its,s_ns⟩:=s
  dsimp only at h1 h2 h4 hA hr hfi hnd e1 e2 hzs ⊢
  subst h1 h2
  obtain⟨nh,nn⟩:=List.nodup_cons.1 hnd
  have hkr:=keys_rising hr
  have hkA: ∀i∈l.map (·.1),i.At R:=fun i hi=>hA i (keys_in hi)
  have hsp:=spot_of (key:=it.k) hkr
  have hpl:=place_items (key:=it.k) hkA hkr
  have hhe:=here_items (key:=it.k) hkA hkr
  rw [List.map_map] at hpl hhe
  have hfh:=fun i=>(findI_has (key:=it.k) hkr).2 i
  generalize rankL (prs (l.map (·.1))) it.k=k at hsp hpl hfh
  have hkl:=hsp.le
  rw [swap_node e1 e2 hpl hhe]
  have hfit:=h4.2
  cases hfk:findI (l.map (·.1)) it.k with
  |some i=>
   obtain⟨g1,g2⟩:=hfh i hfk
   rw [List.getElem?_map] at g1
   by_cases hlt:k<l.length
   · rw [List.getElem?_eq_getElem hlt] at g1
     simp only [Option.map_some,Option.some.injEq] at g1
     have hke:l[k].1.k=it.k:=by rw [g1];exact g2
     have ho:l[k].1=old:=by
      have:=hsp.here hr hlt hke
      rw [hfi] at this
      exact(Option.some.inj this).symm
     obtain⟨l',hl'⟩: ∃l',l' =l.set k (it,l[k].2):=⟨_,rfl⟩
     have hlen:l'.length=l.length:=by rw [hl'];simp
     have hk2:l'.map (·.2.h)=l.map (·.2.h):=by
      rw [hl',List.map_set]
      refine List.ext_getElem (by simp) fun j q1 q2=> ?_
      rw [List.getElem_set]
      split
      · next e=>subst e;simp
      · rfl
     have hits:itsOf c l' =setI (itsOf c l) it:=by
      have e1:itsOf c l=(pre c l k++(kid c l k).its)++l[k].1::(l[k].2.its++rest (l.drop (k+1))):=by
       rw [parts_at c l k hkl,List.drop_eq_getElem_cons hlt,rest_cons];simp
      have hpk: ∀(l l' :List Lk) (c:Sb) (k:Nat),k≤l.length→l'.take k=l.take k→pre c l' k=pre c l k∧kid c l' k=kid c l k:=by
       intro l
       induction l with
       |nil=>intro l' c k h1 h2;obtain rfl:k=0:=by simpa using h1
             cases l' <;>exact⟨rfl,rfl⟩
       |cons p l ih=>
        intro l' c k h1 h2
        cases k with
        |zero=>cases l' <;>exact⟨rfl,rfl⟩
        |succ k=>
         cases l' with
         |nil=>simp at h2
         |cons p' l' =>
          simp only [List.take_succ_cons,List.cons.injEq] at h2
          obtain⟨rfl,h2⟩:=h2
          obtain⟨q1,q2⟩:=ih l' p'.2 k (by simpa using h1) h2
          exact⟨by simp only [pre,q1],by simp only [kid,q2]⟩
      obtain⟨q1,q2⟩:=hpk l l' c k hkl (by rw [hl',List.take_set_of_le (Nat.le_refl _)])
      have hlt' :k<l'.length:=by rw [hlen];exact hlt
      have e2:itsOf c l' =(pre c l k++(kid c l k).its)++it::(l[k].2.its++rest (l.drop (k+1))):=by
       rw [parts_at c l' k (by omega),q1,q2,List.drop_eq_getElem_cons hlt',rest_cons]
       have q3:l'[k]=(it,l[k].2):=by simp [hl']
       have q4:l'.drop (k+1)=l.drop (k+1):=by rw [hl',List.drop_set_of_lt (by omega)]
       rw [q3,q4];simp
      rw [e2]
      rw [e1] at hr ⊢
      exact(setI_mid hr hke).symm
     have hn:(nodeOf c l).setKV k it.kh it.vh=nodeOf c l' :=by
      have:(itsOf c l').length=(itsOf c l).length:=by rw [hits,setI_len]
      unfold nodeOf
      rw [hk2,this]
      simp [BN.setKV,hl',List.map_set]
     have hfit' :(nodeOf c l').Fits t:=node_fits (by rw [hlen];have:=hfit.1;rwa [(node_keys c l).1] at this) (by
      rw [hk2]
      rcases hfit.2.2 with h|h
      · exact absurd h (by simp [nodeOf])
      · exact h.2)
     have hns:nsOf c l' =nsOf c l:=by
      unfold nsOf
      congr 1
      rw [←List.flatMap_map (f:=fun p:Lk=>p.2) (g:=fun s:Sb=>s.ns),←List.flatMap_map (f:=fun p:Lk=>p.2) (g:=fun s:Sb=>s.ns)]
      congr 1
      rw [hl',List.map_set]
      refine List.ext_getElem (by simp) fun j q1 q2=> ?_
      rw [List.getElem_set]
      split
      · next e=>subst e;simp
      · rfl
     have h6' : ∀p∈l',At R t a (t-1) p.2:=fun p hp=>by
      rw [hl'] at hp
      rcases List.mem_or_eq_of_mem_set hp with hp|rfl
      · exact h6 p hp
      · exact h6 l[k] (List.getElem_mem hlt)
     have h6n: ∀p∈l',s_h∉p.2.ns:=fun p hp hm=>nh (by rw [←hns];exact mem_ns hp hm)
     refine⟨updR R s_h (some ((nodeOf c l').wd t)), ?_,⟨c,l',hits.symm,by rw [hns],by rw [hlen];exact h3,⟨updR_same _ _ _,hfit'⟩,upd_at h5 (fun hm=>nh (List.mem_append.2 (.inl hm))),fun p hp=>upd_at (h6' p hp) (h6n p hp)⟩,fun z hzn=>updR_other fun e=>hzn (by rw [e];simp)⟩
     unfold bswap.swGo
     rw [Option.isSome_some,cond_true,hn,bputR_same hfit' h4.1 (BN.wd_len _ _),←ho]
     simp [nodeOf,hlt]
   · rw [List.getElem?_eq_none (Nat.le_of_not_lt hlt)] at g1
     cases g1
  |none=>
   have hno: ∀hk' :k<l.length,l[k].1.k≠it.k:=fun hk' e=>by
    unfold findI at hfk
    rw [List.find?_eq_none] at hfk
    exact absurd (hfk l[k].1 (List.mem_map.2 ⟨l[k],List.getElem_mem hk',rfl⟩)) (by simpa using e)
   have hkid:=kid_all k h5 h6
   have hkg:=kid_get c l k hkl
   rw [hsp.gone hr hno] at hfi
   obtain⟨R',g1,g2,g3⟩:=ih (t-1) f (kid c l k) hkid hz (kid_nodup hkl nn) (fun i hi=>hA i (kid_its hkl hi)) (kid_rising hkl hr) hfi (by omega)
   have hat:=setKid_at (a:=a) (lo:=t-1) hkl nn h5 h6 (fun z _ hz2=>g3 z hz2) g2
   have hlen:=setKid_len c l k ⟨(kid c l k).h,setI (kid c l k).its it,(kid c l k).ns⟩ hkl
   have hhs:=setKid_hs c l k ⟨(kid c l k).h,setI (kid c l k).its it,(kid c l k).ns⟩ hkl rfl
   have hits:=setKid_its c l k ⟨(kid c l k).h,setI (kid c l k).its it,(kid c l k).ns⟩ hkl
   have hkeys:=setKid_keys c l k ⟨(kid c l k).h,setI (kid c l k).its it,(kid c l k).ns⟩ hkl
   have hnsq:nsOf (setKid c l k ⟨(kid c l k).h,setI (kid c l k).its it,(kid c l k).ns⟩).1 (setKid c l k ⟨(kid c l k).h,setI (kid c l k).its it,(kid c l k).ns⟩).2=nsOf c l:=by
    have: ∀(c:Sb) (l:List Lk) (k:Nat) (s:Sb),k≤l.length→s.ns=(kid c l k).ns→nsOf (setKid c l k s).1 (setKid c l k s).2=nsOf c l:=by
     intro c l
     induction l generalizing c with
     |nil=>intro k s hk hs;obtain rfl:k=0:=by simpa using hk
           simpa [setKid,nsOf,kid] using hs
     |cons p l ih=>
      intro k s hk hs
      cases k with
      |zero=>simp only [setKid,nsOf];rw [hs];rfl
      |succ k=>
       have:=ih p.2 k s (by simpa using hk) hs
       simp only [setKid]
       rw [nsOf_cons,nsOf_cons,this]
    exact this c l k _ hkl rfl
   have hits2:itsOf (setKid c l k ⟨(kid c l k).h,setI (kid c l k).its it,(kid c l k).ns⟩).1 (setKid c l k ⟨(kid c l k).h,setI (kid c l k).its it,(kid c l k).ns⟩).2=setI (itsOf c l) it:=by
    rw [hits,parts_at c l k hkl,setI_append,setI_append,setI_none (not_key_low (hsp.pre hr))]
    congr 2
    symm
    refine setI_none fun i hi e=> ?_
    have hp:=hsp.post hr i.pr (List.mem_map.2 ⟨i,hi,rfl⟩)
    by_cases hlt:k<l.length
    · have hh:=hsp.high k hlt (Nat.le_refl _)
      have hne:=hno hlt
      rw [List.drop_eq_getElem_cons hlt,rest_cons] at hi
      rcases List.mem_cons.1 hi with rfl|hi
      · exact hne e
      · have hr9:=hr
        rw [parts_at c l k hkl,List.drop_eq_getElem_cons hlt,rest_cons,←List.append_assoc,prs_append,prs_cons] at hr9
        have h1:=(List.pairwise_cons.1 (List.pairwise_append.1 hr9).2.1).1 i.pr (List.mem_map.2 ⟨i,hi,rfl⟩)
        have h2:Tx.cmp l[k].1.k it.k<0:=by rw [←e];exact h1
        exact hh h2
    · rw [List.drop_eq_nil_of_le (by omega)] at hi
      simp [rest] at hi
   generalize setKid c l k ⟨(kid c l k).h,setI (kid c l k).its it,(kid c l k).ns⟩=cl at hat hlen hhs hits hkeys hnsq hits2
   obtain⟨c',l'⟩:=cl
   dsimp only at hat hlen hhs hits hkeys hnsq hits2
   have hn:nodeOf c' l' =nodeOf c l:=by
    unfold nodeOf
    rw [hits2,setI_len,map_kh,map_vh,hkeys,←map_kh,←map_vh,hhs]
   have hsk:s_h∉(kid c l k).ns:=fun hm=>nh (kid_ns hkl hm)
   refine⟨R', ?_,⟨c',l',hits2.symm,by rw [hnsq],by rw [hlen];exact h3,by rw [hn];exact⟨(g3 s_h hsk).trans h4.1,h4.2⟩,hat.1,hat.2⟩,fun z hzn=>g3 z fun hm=>hzn (List.mem_cons_of_mem _ (kid_ns hkl hm))⟩
   unfold bswap.swGo
   rw [Option.isSome_none,cond_false,if_neg (by simp [nodeOf])]
   show bswap R t it.k it.kh it.vh f ((c.h::l.map (·.2.h)).getD k 0)=_
   rw [List.getD_eq_getElem?_getD,hkg]
   exact g1
end
end Bt
section
variable {W:World} {B:Nat} {v1 v2 v3:Value} {l1 l2 l3:List Nat}
theorem hsV_set(l:List Nat)(k x:Nat):(hsV l).set k (.int .u64 (x:Nat))=hsV (l.set k x):=by unfold hsV;rw [List.map_set]
theorem Own3.put1{g c:Nat}(h:Own3 W B (.slice (some ⟨g,0,none⟩) l1.length c) l1 v2 l2 v3 l3)(k x:Nat):
 Own3 (W.setCell ⟨g,k,none⟩ (.int .u64 (x:Nat))) B (.slice (some ⟨g,0,none⟩) l1.length c) (l1.set k x) v2 l2 v3 l3:=by
 have hk: ∀b,b≠g→(W.setCell ⟨g,k,none⟩ (.int .u64 (x:Nat))).heap[b]? =W.heap[b]? :=fun b hb=>Below.heap_setCell W ⟨g,k,none⟩ _ b hb
 refine⟨?_,row_keep h.r2 fun b hb=>hk b (fun e=>h.a12 g rfl (e▸hb)),row_keep h.r3 fun b hb=>hk b (fun e=>h.a13 g rfl (e▸hb)),h.a12,h.a13,h.a23⟩
 rw [List.length_set,←hsV_set]
 exact(h.r1.stored k (.int .u64 (x:Nat))).1
theorem Own3.put2{g c:Nat}(h:Own3 W B v1 l1 (.slice (some ⟨g,0,none⟩) l2.length c) l2 v3 l3)(k x:Nat):
 Own3 (W.setCell ⟨g,k,none⟩ (.int .u64 (x:Nat))) B v1 l1 (.slice (some ⟨g,0,none⟩) l2.length c) (l2.set k x) v3 l3:=(h.flip12.put1 k x).flip12
theorem row_some{v:Value}{l:List Nat}(h:W.ownsRow B 23 1 v l.length (hsV l))(hl:l≠ []): ∃g c,v= .slice (some ⟨g,0,none⟩) l.length c∧B≤g∧g<W.heap.size:=by
 rcases h.2 with ⟨h1,h2⟩|⟨g,cap,cur,h1,h2,h3,h4⟩
 · exact absurd (List.eq_nil_of_length_eq_zero h2) hl
 · exact⟨g,cap,h1,h2,(Array.getElem?_eq_some_iff.1 h3).1⟩
end
def SwapR(w:World)(s:Nat)(F:Nat→Prop)(H:List Nat)(P q most last G:Nat)(p:(Nat→Option (List Nat)) × Option (Nat × Nat))(e:Ending)(w' :World):Prop:=
 e= .returned (itV p.2)∧StoreIs w' s F p.1 H P q most last G∧Turn w F w' F
section
variable {w w' :World} {s:Nat} {F:Nat→Prop} {R:Nat→Option (List Nat)} {H:List Nat} {P q most last G:Nat}
set_option maxRecDepth 100000 in
theorem btSwap_at(hs:StoreIs w s F R H P q most last G)(hsh:Short R){t:Nat}(ht:BN.Deg t)(x:Nat)(hx:x<18446744073709551616)(key:ByteArray)(ak av:Nat)(hak:ak<18446744073709551616)(hav:av<18446744073709551616):
 Calls Tryz.prog 30 #[.agg #[.pointer (some ⟨s,0,none⟩), .int .i64 (t:Nat)], .int .u64 (x:Nat), .string key, .agg #[.int .u64 (ak:Nat), .int .u64 (av:Nat)]] w (SwapR w s F H P q most last G (bswap R t key ak av 40 x)):=by
 have hmo:Tryz.prog.follows .mixedOrders=true:=by kernel_rfl
 obtain⟨N0,h,hwr⟩:=hs.rd
 have hH:=Lib.hid h
 have htH:=Lib.hid ht
 have hsH:=Lib.hid hs
 have hakH:=Lib.hid (And.intro hak hav)
 obtain⟨W0,hW0⟩: ∃W,W=((w.alloc (Obj.cells #[.pointer (some ⟨s,0,none⟩), .int .i64 (t:Nat)] 74)).alloc (Obj.cells #[.int .u64 (ak:Nat), .int .u64 (av:Nat)] 31)).alloc (Obj.cells #[.int .u64 0, .int .u64 0] 31):=⟨_,rfl⟩
 have hb0:Below w.heap.size w W0:=by rw [hW0];exact(((Below.refl _ w).alloc (Nat.le_refl _) _).alloc (by simp) _).alloc (by simp;omega) _
 obtain⟨b4,hb4⟩: ∃b,b=w.heap.size:=⟨_,rfl⟩
 obtain⟨b7,hb7⟩: ∃b,b=w.heap.size+1:=⟨_,rfl⟩
 obtain⟨b8,hb8⟩: ∃b,b=w.heap.size+1+1:=⟨_,rfl⟩
 have x4:Box W0 b4 74 [.pointer (some ⟨s,0,none⟩), .int .i64 (t:Nat)]:=by rw [hW0,hb4];exact((Box.new w 74 [.pointer (some ⟨s,0,none⟩), .int .i64 (t:Nat)]).alloc _).alloc _
 have x7:Box W0 b7 31 [.int .u64 (ak:Nat), .int .u64 (av:Nat)]:=by
  rw [hW0,hb7]
  have:=Box.new (w.alloc (Obj.cells #[.pointer (some ⟨s,0,none⟩), .int .i64 (t:Nat)] 74)) 31 [.int .u64 (ak:Nat), .int .u64 (av:Nat)]
  rw [show(w.alloc (Obj.cells #[.pointer (some ⟨s,0,none⟩), .int .i64 (t:Nat)] 74)).heap.size=w.heap.size+1 by simp] at this
  exact this.alloc _
 have x8:Box W0 b8 31 [.int .u64 0, .int .u64 0]:=by
  rw [hW0,hb8]
  have:=Box.new ((w.alloc (Obj.cells #[.pointer (some ⟨s,0,none⟩), .int .i64 (t:Nat)] 74)).alloc (Obj.cells #[.int .u64 (ak:Nat), .int .u64 (av:Nat)] 31)) 31 [.int .u64 0, .int .u64 0]
  rwa [show((w.alloc (Obj.cells #[.pointer (some ⟨s,0,none⟩), .int .i64 (t:Nat)] 74)).alloc (Obj.cells #[.int .u64 (ak:Nat), .int .u64 (av:Nat)] 31)).heap.size=w.heap.size+1+1 by simp] at this
 have g4:w.heap.size≤b4:=by omega
 have g7:w.heap.size≤b7:=by omega
 have g8:w.heap.size≤b8:=by omega
 have hW0H:=Lib.hid (And.intro hW0 (And.intro hb4 (And.intro hb7 hb8)))
 have hb0H:=Lib.hid hb0
 have x4H:=Lib.hid x4
 have x7H:=Lib.hid x7
 have x8H:=Lib.hid x8
 have hnone:Hid (∀W,bswap R t key ak av 40 x=(R,none)→Below w.heap.size w W→SwapR w s F H P q most last G (bswap R t key ak av 40 x) (.returned (.agg #[.int .u64 0, .int .u64 0])) W):=Lib.hid (fun W h1 h2=>by
  rw [h1];exact⟨rfl,hs.below h2,Turn.below h2⟩)
 obtain⟨D,hD⟩: ∃D,D=bswap R t key ak av 40 x:=⟨_,rfl⟩
 have hDH:=Lib.hid hD
 clear h ht hs hak hav hW0 hb4 hb7 hb8 x4 x7 x8 hb0 hD
 go_enter Tryz.func30,Tryz.ntmps30
 go_wp2
 rw [←hW0H.out.1,←hW0H.out.2.2.2,←hW0H.out.2.2.1,←hW0H.out.2.1]
 go_loopw [1,14] (fun hv iv wr=> ∃(i x' :Nat),i≤40∧x' <18446744073709551616∧hv= .int .u64 x' ∧iv= .int .i64 i∧Hid (D=bswap R t key ak av (40-i) x')∧Hid (Below W0.heap.size W0 wr)) (fun _ iv _=>40-(intOf iv).toNat)
 case atStart=>exact⟨0,x,by omega,hx,rfl,rfl,hDH,Lib.hid (Below.refl _ _)⟩
 case round=>
  obtain⟨i,y,hi,hy,rfl,rfl,hd,hb⟩:=hrel
  have hbw:=hb0H.out.trans (hb.out.mono hb0H.out.size)
  have hbwH:=Lib.hid hbw
  have y4:=Lib.hid (x4H.out.below hb.out)
  have y7:=Lib.hid (x7H.out.below hb.out)
  have y8:=Lib.hid (x8H.out.below hb.out)
  have e40:=y4.out.at' (i:=0) rfl
  have e41:=y4.out.at' (i:=1) rfl
  by_cases hlt:i<40
  · have hGt:=Lib.hid (btGet_at (hH.out.below hbw) t htH.out y hy)
    obtain⟨m,hm⟩: ∃m,40-i=m+1:=⟨39-i,by omega⟩
    clear hbw
    go_wp2_with fail
    refine hGt.out.mono ?_
    rintro e w2 ⟨v1,v2,v3,rfl,hown,hb2⟩
    obtain⟨A1,q1,rfl⟩:=ownN_form hown.r1
    obtain⟨A2,q2,rfl⟩:=ownN_form hown.r2
    obtain⟨A3,q3,rfl⟩:=ownN_form hown.r3
    obtain⟨n,hn⟩: ∃n,n=bnG R t y:=⟨_,rfl⟩
    have hd2:D=bswap R t key ak av (m+1) y:=by rw [←hm];exact hd.out
    rw [←hn] at hown
    rw [←hn]
    obtain⟨W3,hW3⟩: ∃W,W=w2.alloc (Obj.cells #[.slice A1 n.keys.length q1, .slice A2 n.vals.length q2, .slice A3 n.kids.length q3, .int .u64 (n.size:Nat)] 48):=⟨_,rfl⟩
    obtain⟨b9,hb9⟩: ∃b,b=w2.heap.size:=⟨_,rfl⟩
    have hb23:Below w2.heap.size w2 W3:=by rw [hW3];exact(Below.refl _ _).alloc (Nat.le_refl _) _
    have x9:Box W3 b9 48 [.slice A1 n.keys.length q1, .slice A2 n.vals.length q2, .slice A3 n.kids.length q3, .int .u64 (n.size:Nat)]:=by rw [hW3,hb9];exact Box.new w2 48 [.slice A1 n.keys.length q1, .slice A2 n.vals.length q2, .slice A3 n.kids.length q3, .int .u64 (n.size:Nat)]
    have hbr3:Below wr.heap.size wr W3:=hb2.trans (hb23.mono hb2.size)
    have z4:=Lib.hid (y4.out.below hbr3)
    have z7:=Lib.hid (y7.out.below hbr3)
    have z8:=Lib.hid (y8.out.below hbr3)
    have hbw3:=Lib.hid (hbwH.out.trans (hbr3.mono hbwH.out.size))
    have hsz0:=Lib.hid hb.out.size
    have hb03:=Lib.hid (hb.out.trans (hbr3.mono hb.out.size))
    have hlows:=Lib.hid (show b4<wr.heap.size∧b7<wr.heap.size∧b8<wr.heap.size∧wr.heap.size≤b9 from⟨y4.out.lt,y7.out.lt,y8.out.lt,by have:=hb2.size;omega⟩)
    have hapart:=Lib.hid (show(∀k,(Value.slice A1 n.keys.length q1).ownBlock=some k→k<b9)∧ ∀k,(Value.slice A2 n.vals.length q2).ownBlock=some k→k<b9 from⟨fun k hk=>by rw [hb9];exact rows_lt hown.r1 k hk,fun k hk=>by rw [hb9];exact rows_lt hown.r2 k hk⟩)
    have hW3H:=Lib.hid (And.intro hW3 hb9)
    have hnH:=Lib.hid hn
    have x9H:=Lib.hid x9
    have hownH:=Lib.hid (hown.below hb23)
    have hd2H:=Lib.hid hd2
    have hmH:=Lib.hid hm
    clear e40 e41 hGt hb2 hown hn hW3 hb9 hb23 hbr3 x9 hd2 hd hb y4 y7 y8 hbwH hm
    by_cases he:bnE R t y=0
    · rw [decide_eq_true he]
      have hw:=bnG_words hH.out htH.out he
      rw [←hnH.out] at hw
      obtain⟨hfit,wk,wv,wc,hsz⟩:=hw
      have t2:=htH.out.2
      obtain⟨g1,g2,g3'⟩:=hfit
      have l1:n.keys.length≤31:=by omega
      have l3:n.kids.length≤32:=by rcases g3' with h9|h9
                                   · rw [h9];simp
                                   · omega
      have hV:BNV W3 (fun _=>False) (.agg #[.slice A1 n.keys.length q1, .slice A2 n.vals.length q2, .slice A3 n.kids.length q3, .int .u64 (n.size:Nat)]) n:=hownH.out.bnv (F:=fun _=>False) (fun _ h=>h.elim) n.size (by omega) (by omega) (by omega)
      have hPl:=btPlace_at (hH.out.below hbw3.out) hsh hV t wk key
      obtain⟨k,hk⟩: ∃k,k=plK R n.keys key:=⟨_,rfl⟩
      obtain⟨hb,hhb⟩: ∃hb,hb=plH R n.keys key:=⟨_,rfl⟩
      have hkl:k≤n.keys.length:=by rw [hk];exact(bsF_le _ _ 0 _ (Nat.zero_le _)).2
      have hhl:hb=true→k<n.keys.length:=by rw [hk,hhb];unfold plH;simp;intro h1 _;exact h1
      rw [←hk,←hhb] at hPl
      have hst:D=bswap.swGo R t ak av n y k hb (bswap R t key ak av m):=by
       rw [hd2H.out]
       exact Bt.swap_node hnH.out.symm he hk.symm hhb.symm
      have hstH:=Lib.hid hst
      have hPlH:=Lib.hid hPl
      have hkids:Hid (n.kids= []∨n.kids.length=n.keys.length+1):=Lib.hid (g3'.imp id And.left)
      have hhlH:=Lib.hid hhl
      have hvl:=Lib.hid g2
      have wkH:=Lib.hid (And.intro wk (And.intro wv (And.intro wc hsz)))
      have hl13:=Lib.hid (And.intro l1 l3)
      have e40:=z4.out.at' (i:=0) rfl
      have e41:=z4.out.at' (i:=1) rfl
      rw [hW3H.out.1] at e40 e41
      clear hV hPl hk hhb hst hhl g1 g2 g3' wk wv wc hsz he hd2H l1 l3
      go_wp2_with fail
      rw [←hW3H.out.1,←hW3H.out.2]
      refine hPlH.out.mono ?_
      rintro e w4 ⟨rfl,hb4⟩
      have u4:=Lib.hid (z4.out.below hb4)
      have u7:=Lib.hid (z7.out.below hb4)
      have u8:=Lib.hid (z8.out.below hb4)
      have u9:=Lib.hid (x9H.out.below hb4)
      have uo:=Lib.hid (hownH.out.below hb4)
      have hbw4:=Lib.hid (hbw3.out.trans (hb4.mono hbw3.out.size))
      have hb04:=Lib.hid (hb03.out.trans (hb4.mono hb03.out.size))
      have hst2:=hstH.out
      unfold bswap.swGo at hst2
      have f0:=u9.out.at' (i:=0) rfl
      have f1:=u9.out.at' (i:=1) rfl
      have f2:=u9.out.at' (i:=2) rfl
      have f3:=u9.out.at' (i:=3) rfl
      clear hb4 z4 z7 z8 x9H hownH hbw3 hb03 hPlH hW3H e40 e41 hstH
      cases hb with
      |true=>
       simp only [cond_true] at hst2
       have hkk:=hhlH.out rfl
       have hvk:k<n.vals.length:=by rw [hvl.out];exact hkk
       obtain⟨gk,ck,e1,hBk,hgk⟩:=row_some uo.out.r1 (fun e=>by rw [e] at hkk;simp at hkk)
       obtain⟨gv,cv,e2,hBv,hgv⟩:=row_some uo.out.r2 (fun e=>by rw [e] at hvk;simp at hvk)
       cases e1
       cases e2
       have n9k:=hapart.out.1 gk rfl
       have n9v:=hapart.out.2 gv rfl
       have hc7:w4.cell? ⟨gk,k,none⟩=some (.int .u64 (n.keys[k]:Nat)):=(uo.out.r1.cellAt k (by omega)).trans (hsV_get hkk)
       have hc8:w4.cell? ⟨gv,k,none⟩=some (.int .u64 (n.vals[k]:Nat)):=(uo.out.r2.cellAt k (by omega)).trans (hsV_get hvk)
       have hz7:=uo.out.r1.frozenAt k
       have hz8:=uo.out.r2.frozenAt k
       rw [show n.keys.getD k 0=n.keys[k] by simp [hkk],show n.vals.getD k 0=n.vals[k] by simp [hvk]] at hst2
       obtain⟨ya,hya⟩: ∃y,n.keys[k]=y:=⟨_,rfl⟩
       obtain⟨yv,hyv⟩: ∃y,n.vals[k]=y:=⟨_,rfl⟩
       rw [hya] at hc7 hst2
       rw [hyv] at hc8 hst2
       have x1:=fun X:Exw (fun _=>False) w4=>X.cell f0 (fun h=>h)
       have x2:=fun X:Exw (fun _=>False) w4=>X.cell f1 (fun h=>h)
       have x3:=fun X:Exw (fun _=>False) w4=>X.cell hc7 (fun h=>h)
       have x4:=fun X:Exw (fun _=>False) w4=>X.cell hc8 (fun h=>h)
       go_wp2
       refine wp_region_steps (fun w' => ∃X:Exw (fun _=>False) w4,w' =X.W) [.r 0, .r 1, .r 2, .r 3, .r 4, .r 5, .r 6, .r 7, .r 8, .r 9, .r 10, .a 11, .a 12] hmo (by kernel_rfl) rfl (by kernel_rfl) (exw_start _ _) (fun _ _ d _ _ h=>by cases d<;>exact h) ?_
       iterate 11 (refine wpSteps_r _ _ rfl rfl (by rintro _ ⟨X,rfl⟩;go_simp;exact rfl) ?_;go_simp)
       clear x1 x2 x3 x4
       refine wpSteps_a _ rfl (fun K1 hK1=> ?_)
       go_wp2
       refine hK1 _ _ (exw_below (((below_drawn w4)).alloc (Nat.le_refl _) _)) ?_
       clear hK1 K1
       refine wpSteps_a _ rfl (fun K1 hK1=> ?_)
       go_wp2
       have hb45:Below w4.heap.size w4 (w4.alloc (Obj.cells #[.int .u64 (ya:Nat), .int .u64 (yv:Nat)] 31)).drew:=(((Below.refl _ w4)).alloc (Nat.le_refl _) _).drew
       refine hK1 _ _ (exw_below hb45) (wpSteps_nil ?_)
       clear hK1 K1
       obtain⟨b13,hb13⟩: ∃b,b=w4.heap.size:=⟨_,rfl⟩
       have x13:Box (w4.alloc (Obj.cells #[.int .u64 (ya:Nat), .int .u64 (yv:Nat)] 31)).drew b13 31 [.int .u64 (ya:Nat), .int .u64 (yv:Nat)]:=by rw [hb13];exact box_drew (Box.new w4 31 [.int .u64 (ya:Nat), .int .u64 (yv:Nat)])
       rw [←hb13]
       have hlt13:=Lib.hid hb13
       obtain⟨W5,hW5⟩: ∃W,W=(w4.alloc (Obj.cells #[.int .u64 (ya:Nat), .int .u64 (yv:Nat)] 31)).drew:=⟨_,rfl⟩
       rw [←hW5] at hb45 x13 ⊢
       have p4:=Lib.hid (u4.out.below hb45)
       have p7:=Lib.hid (u7.out.below hb45)
       have p8:=Lib.hid (u8.out.below hb45)
       have p9:=Lib.hid (u9.out.below hb45)
       have po:=Lib.hid (uo.out.below hb45)
       have p13:=Lib.hid x13
       have hbw5:=Lib.hid (hbw4.out.trans (hb45.mono hbw4.out.size))
       have hc7' :=hb45.cell (p:=⟨gk,k,none⟩) hgk▸hc7
       have hc8' :=hb45.cell (p:=⟨gv,k,none⟩) hgv▸hc8
       have hz7' :=po.out.r1.frozenAt k
       have hz8' :=po.out.r2.frozenAt k
       have nkv:gk≠gv:=fun e=>po.out.a12 gk rfl (by rw [e];rfl)
       have hge:=hlows.out
       have hwk:w.heap.size≤gk:=Nat.le_trans (Nat.le_trans hb0H.out.size hsz0.out) hBk
       have hwv:w.heap.size≤gv:=Nat.le_trans (Nat.le_trans hb0H.out.size hsz0.out) hBv
       have n7: ¬(b7=gk∨b7=gv):=by omega
       have n9: ¬(b9=gk∨b9=gv):=by omega
       clear hz7 hz8 hc7 hc8 f0 f1 f2 f3 x13 hW5 hb45 hb13 u4 u7 u8 u9 uo hbw4
       have f0:=p9.out.at' (i:=0) rfl
       have f1:=p9.out.at' (i:=1) rfl
       have x1:=fun X:Exw (fun b=>b=gk∨b=gv) W5=>X.cell f0 n9
       have x2:=fun X:Exw (fun b=>b=gk∨b=gv) W5=>X.cell f1 n9
       have x3:=fun X:Exw (fun b=>b=gk∨b=gv) W5=>X.cell (p7.out.at' (i:=0) rfl) n7
       have x4:=fun X:Exw (fun b=>b=gk∨b=gv) W5=>X.cell (p7.out.at' (i:=1) rfl) n7
       go_wp2
       refine wp_region_steps (fun w' => ∃X:Exw (fun b=>b=gk∨b=gv) W5,w' =X.W) [.r 0, .r 1, .r 2, .r 3, .r 4, .r 5, .r 6, .r 7, .r 8, .r 9, .r 10, .a 11, .r 12, .a 13] hmo (by kernel_rfl) rfl (by kernel_rfl) (exw_start _ _) (fun _ _ d _ _ h=>by cases d<;>exact h) ?_
       iterate 11 (refine wpSteps_r _ _ rfl rfl (by rintro _ ⟨X,rfl⟩;go_simp;exact rfl) ?_;go_simp)
       clear x1 x2 x3 x4
       refine wpSteps_a _ rfl (fun K1 hK1=> ?_)
       go_wp2
       refine hK1 _ _ (exw_then (exw_set (B:=fun b=>b=gk∨b=gv) (p:=⟨gk,k,none⟩) (exw_below (Below.refl _ _)) (.inl rfl) _) (below_drawn _)) ?_
       clear hK1 K1
       refine wpSteps_r _ _ rfl rfl (by rintro _ ⟨X,rfl⟩;go_simp;exact rfl) ?_
       go_simp
       refine wpSteps_a _ rfl (fun K1 hK1=> ?_)
       go_wp2
       have po2:Own3 ((W5.setCell ⟨gk,k,none⟩ (.int .u64 (ak:Nat))).setCell ⟨gv,k,none⟩ (.int .u64 (av:Nat))).drew wr.heap.size _ (n.keys.set k ak) _ (n.vals.set k av) _ n.kids:=((po.out.put1 k ak).put2 k av).below (below_drawn _)
       have hbw6:Below w.heap.size w ((W5.setCell ⟨gk,k,none⟩ (.int .u64 (ak:Nat))).setCell ⟨gv,k,none⟩ (.int .u64 (av:Nat))).drew:=((hbw5.out.setCell (p:=⟨gk,k,none⟩) hwk _).setCell (p:=⟨gv,k,none⟩) hwv _).drew
       have two: ∀{b:Nat} {T:TypeId} {vs:List Value},Box W5 b T vs→b≠gk→b≠gv→Box ((W5.setCell ⟨gk,k,none⟩ (.int .u64 (ak:Nat))).setCell ⟨gv,k,none⟩ (.int .u64 (av:Nat))).drew b T vs:=fun h h1 h2=>box_drew ((h.other (p:=⟨gk,k,none⟩) h1 _).other (p:=⟨gv,k,none⟩) h2 _)
       have q4:=two p4.out (by omega) (by omega)
       have q8:=two p8.out (by omega) (by omega)
       have q9:=two p9.out (by omega) (by omega)
       have q13:=two p13.out (by have:=hlt13.out;omega) (by have:=hlt13.out;omega)
       have hex6: ∃X:Exw (fun b=>b=gk∨b=gv) W5,((W5.setCell ⟨gk,k,none⟩ (.int .u64 (ak:Nat))).setCell ⟨gv,k,none⟩ (.int .u64 (av:Nat))).drew=X.W:=exw_then (exw_set (B:=fun b=>b=gk∨b=gv) (p:=⟨gv,k,none⟩) (exw_set (B:=fun b=>b=gk∨b=gv) (p:=⟨gk,k,none⟩) (exw_below (Below.refl _ _)) (.inl rfl) _) (.inr rfl) _) (below_drawn _)
       clear two
       generalize hW6:((W5.setCell ⟨gk,k,none⟩ (.int .u64 (ak:Nat))).setCell ⟨gv,k,none⟩ (.int .u64 (av:Nat))).drew=W6 at*
       refine hK1 _ _ hex6 (wpSteps_nil ?_)
       clear hK1 K1 hex6 hW6
       have hS6:=Lib.hid (hsH.out.below hbw6)
       have hT6:=Lib.hid (Turn.below (F:=F) hbw6)
       obtain⟨wk,wv,wc,hsz⟩:=wkH.out
       have hok:(n.setKV k ak av).Ok:=⟨fun z hz=>by
        rcases List.mem_or_eq_of_mem_set hz with h9|h9
        · obtain⟨j,hj,rfl⟩:=List.getElem_of_mem h9;exact wk j hj
        · rw [h9];exact hakH.out.1,fun z hz=>by
        rcases List.mem_or_eq_of_mem_set hz with h9|h9
        · obtain⟨j,hj,rfl⟩:=List.getElem_of_mem h9;exact wv j hj
        · rw [h9];exact hakH.out.2,fun z hz=>by obtain⟨j,hj,rfl⟩:=List.getElem_of_mem hz;exact wc j hj,hsz⟩
       have hl1:=hl13.out.1
       have hl3:=hl13.out.2
       have hl2:=hvl.out
       have hF0: ∀b,F b→b<w.heap.size:=fun b hb=>hsH.out.lt hb
       have hV6:=po2.bnv (F:=F) (fun b hb=>Nat.lt_of_lt_of_le (hF0 b hb) (Nat.le_trans hb0H.out.size hsz0.out)) n.size (by simp;omega) (by simp;omega) (by omega)
       rw [show(BN.mk (n.keys.set k ak) (n.vals.set k av) n.kids n.size)=n.setKV k ak av from rfl] at hV6
       have hPut:=Lib.hid (bnPut_at hS6.out t htH.out y hy hV6 hok)
       have f0:=q9.at' (i:=0) rfl
       have f1:=q9.at' (i:=1) rfl
       have f2:=q9.at' (i:=2) rfl
       have f3:=q9.at' (i:=3) rfl
       have e40:=q4.at' (i:=0) rfl
       have e41:=q4.at' (i:=1) rfl
       have n8F: ¬F b8:=fun h9=>by have:=hF0 _ h9;omega
       have n13F: ¬F b13:=fun h9=>by have:=hF0 _ h9;have:=hlt13.out;have:=hb0H.out.size;have:=hsz0.out;omega
       have q8H:=Lib.hid q8
       have q13H:=Lib.hid q13
       clear hok hl1 hl2 hl3 hV6 wk wv wc hsz po2 hbw6 q8 q13 q4 q9 hF0
       go_wp2_with fail
       refine hPut.out.mono ?_
       unfold BPut
       rintro e w7 ⟨rfl,hS7,hT7⟩
       have r8:=Lib.hid (q8H.out.turn hT7 n8F)
       have r13:=q13H.out.turn hT7 n13F
       have i0:=r13.at' (i:=0) rfl
       have i1:=r13.at' (i:=1) rfl
       have k0:=r8.out.free 0
       have k1:=r8.out.free 1
       have j0:=r8.out.at' (i:=0) rfl
       have j1:=r8.out.at' (i:=1) rfl
       have hS7H:=Lib.hid hS7
       have hT7H:=Lib.hid hT7
       have hq:=Lib.hid ((r8.out.set 0 (.int .u64 (ya:Nat))).set 1 (.int .u64 (yv:Nat)))
       clear hS7 hT7 r13
       go_wp2
       have r0:=hq.out.at' (i:=0) rfl
       have r1:=hq.out.at' (i:=1) rfl
       refine bodyPost_ret (v:= .agg #[.int .u64 (ya:Nat), .int .u64 (yv:Nat)]) (by simp [results,Tryz.f30,go_sem,r0,r1]) rfl ?_
       rw [←hDH.out,hst2]
       have hnn:s<b8∧1<b8:=by
        obtain⟨_,_,_,_,_,_,_,_,_,_,_,_,_,_,_,_,_,m2,m3,m4⟩:=hH.out
        omega
       refine⟨rfl,hS7H.out.grown (grown_trans (grown_set w7 b8 0 _) (grown_set _ b8 1 _)) (fun z hz=> ?_), ?_⟩
       · obtain rfl:b8=z:=Option.some.inj hz
         refine⟨hnn.1,hnn.2,n8F,fun p9 hc=> ?_⟩
         rw [r8.out.at' (i:=0) rfl] at hc
         cases hc
       · exact(hT6.out.trans hT7H.out).minus ((Turn.set_fb w7 F b8 0 _).trans (Turn.set_fb _ F b8 1 _)) g8
      |false=>
       simp only [cond_false] at hst2
       by_cases hk0:n.kids= []
       · have hkz:n.kids.length=0:=by rw [hk0];rfl
         rw [if_pos hk0] at hst2
         have hdd:=hDH.out.symm.trans hst2
         clear hst2
         have v8:=u8.out
         have k0:=v8.free 0
         have k1:=v8.free 1
         have j0:=v8.at' (i:=0) rfl
         have j1:=v8.at' (i:=1) rfl
         have hf:=Lib.hid (hnone.out _ hdd ((hbw4.out.setCell (p:=⟨b8,0,none⟩) g8 (.int .u64 0)).setCell (p:=⟨b8,1,none⟩) g8 (.int .u64 0)))
         have hq:=Lib.hid ((v8.set 0 (.int .u64 0)).set 1 (.int .u64 0))
         clear v8
         go_wp2
         have r0:=hq.out.at' (i:=0) rfl
         have r1:=hq.out.at' (i:=1) rfl
         refine bodyPost_ret (v:= .agg #[.int .u64 0, .int .u64 0]) (by simp [results,Tryz.f30,go_sem,r0,r1]) rfl hf.out
       · have hkz:0<n.kids.length:=List.length_pos_iff.2 hk0
         rw [if_neg hk0] at hst2
         have hkj:k<n.kids.length:=by rcases hkids.out with h9|h9
                                      · exact absurd h9 hk0
                                      · omega
         obtain⟨B3,p3,e3,hC3⟩:=row_cellsF (F:=fun _=>False) uo.out.r3 (fun _ h=>h.elim)
         cases e3
         obtain⟨b5,o5,rfl,hbl5,hcell⟩:=hC3.num hkj
         have hcq:=hcell w4 (Below.refl _ _)
         have hky:=wkH.out.2.2.1 k hkj
         rw [show n.kids.getD k 0=n.kids[k] by simp [hkj]] at hst2
         obtain⟨yk,hyk⟩: ∃yk,n.kids[k]=yk:=⟨_,rfl⟩
         rw [hyk] at hcq hky hst2
         have hrel:Hid (D=bswap R t key ak av (40-(i+1)) yk):=Lib.hid (by rw [show 40-(i+1)=m by have:=hmH.out;omega];exact hst2)
         clear hyk hcell hst2 hk0 hC3
         go_wp2
         go_roundw
         case rel=>exact⟨i+1,yk,by omega,hky,rfl,by go_num,hrel,hb04⟩
         case measure=>simp [intOf];omega
    · rw [decide_eq_false he]
      have heH:=Lib.hid he
      clear he
      have hdd:bswap R t key ak av 40 x=(R,none):=by rw [←hDH.out,hd2H.out];unfold bswap;exact if_pos heH.out
      have v8:=z8.out
      have k0:=v8.free 0
      have k1:=v8.free 1
      have j0:=v8.at' (i:=0) rfl
      have j1:=v8.at' (i:=1) rfl
      have hf:=Lib.hid (hnone.out _ hdd ((hbw3.out.setCell (p:=⟨b8,0,none⟩) g8 (.int .u64 0)).setCell (p:=⟨b8,1,none⟩) g8 (.int .u64 0)))
      have hq:=Lib.hid ((v8.set 0 (.int .u64 0)).set 1 (.int .u64 0))
      clear v8 hdd
      rw [hW3H.out.1] at k0 k1 j0 j1
      go_wp2
      rw [←hW3H.out.1]
      have r0:=hq.out.at' (i:=0) rfl
      have r1:=hq.out.at' (i:=1) rfl
      refine bodyPost_ret (v:= .agg #[.int .u64 0, .int .u64 0]) (by simp [results,Tryz.f30,go_sem,r0,r1]) rfl hf.out
  · obtain rfl:i=40:=by omega
    have hdd:bswap R t key ak av 40 x=(R,none):=by rw [←hDH.out,hd.out];rfl
    have v8:=y8.out
    have k0:=v8.free 0
    have k1:=v8.free 1
    have j0:=v8.at' (i:=0) rfl
    have j1:=v8.at' (i:=1) rfl
    have hf:=Lib.hid (hnone.out _ hdd ((hbw.setCell (p:=⟨b8,0,none⟩) g8 (.int .u64 0)).setCell (p:=⟨b8,1,none⟩) g8 (.int .u64 0)))
    have hq:=Lib.hid ((v8.set 0 (.int .u64 0)).set 1 (.int .u64 0))
    clear v8
    go_wp2
    have r0:=hq.out.at' (i:=0) rfl
    have r1:=hq.out.at' (i:=1) rfl
    refine bodyPost_ret (v:= .agg #[.int .u64 0, .int .u64 0]) (by simp [results,Tryz.f30,go_sem,r0,r1]) rfl hf.out
end
end Go.Proofs.YthcmecokejemcaaGreatDoor
