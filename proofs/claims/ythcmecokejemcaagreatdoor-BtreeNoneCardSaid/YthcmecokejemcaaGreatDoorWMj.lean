/-
  The seat's own texts, part j: Handle3, Store, Store2, Store3.
-/
import Derived.Test.YthcmecokejemcaaGreatDoorWMi
import Derived.Maps.AppendAt
set_option linter.unusedSimpArgs false
set_option linter.unusedVariables false
set_option maxHeartbeats 2000000
namespace Go.Proofs.YthcmecokejemcaaGreatDoor
open Go.RowKit Go.Shelf
theorem Tryz.under_slots:Tryz.prog.underlying 118=some (.slice 193):=by kernel_rfl
theorem Tryz.info_slot:(Tryz.prog.info? 193).map (fun i=>(i.zero,i.size,i.bytes))=some (some (.agg #[.int .i64 0, .int .u32 0, .int .i64 0]),3,24):=by kernel_rfl
structure Opened(sl:List Sl)(addr k g:Nat)(sl' :List Sl):Prop where
 hit:(∃hk:k<sl.length,sl[k].is=0∧g=sl[k].gen+1∧sl' =sl.set k ⟨1,g,addr⟩)∨(k=sl.length∧g=1∧sl' =sl++ [⟨1,1,addr⟩])
theorem HTab.setAll{w w' :World}{t most last g c:Nat}{sl:List Sl}{v:Value}(h:HTab w t v most last sl){k:Nat}{sl0:List Sl}(hk:k<sl0.length)(s:Sl)(hs:s.Ok last)(hsl: ∀x∈sl0,x∈sl∨x=⟨0,0,0⟩)(h0: ∀x∈(sl0.set k s),x∈sl∨x=s)(hlen:sl0.length≤most)
 (c0:w'.cell? ⟨t,0,none⟩=w.cell? ⟨t,0,none⟩) (c1:w'.cell? ⟨t,1,none⟩=w.cell? ⟨t,1,none⟩) (c2:w'.cell? ⟨t,2,none⟩=some (.slice (some ⟨g,0,none⟩) sl0.length c)) (f2:w'.frozen? ⟨t,2,none⟩=false) (hgt:g≠t)
 (hr:w'.ownsRow 0 193 3 (.slice (some ⟨g,0,none⟩) sl0.length c) sl0.length ((((slCells sl0).set (k*3) (.int .i64 (s.is:Nat))).set (k*3+1) (.int .u32 (s.gen:Nat))).set (k*3+2) (.int .i64 (s.addr:Nat)))):
 HTab w' t (.slice (some ⟨g,0,none⟩) sl0.length c) most last (sl0.set k s) where
 c0:=c0.trans h.c0
 c1:=c1.trans h.c1
 c2:=c2
 f2:=f2
 row:=by rw [List.length_set,slCells_set3 sl0 k hk s];exact hr
 off:=by simp [Value.ownBlock,hgt]
 m1:=h.m1
 m2:=h.m2
 l1:=h.l1
 l2:=h.l2
 len:=by rw [List.length_set];exact hlen
 ok:=fun x hx=>by
  rcases h0 x hx with h1|h1
  · exact h.ok x h1
  · rw [h1];exact hs
theorem slOk_open{last gen addr:Nat}(h:gen<last)(ha:addr<1099511627776):(⟨1,gen+1,addr⟩:Sl).Ok last:=⟨(show(1:Nat)≤2 by omega),Nat.le_add_left 1 gen,h,(fun e=>by cases e),ha⟩
theorem turn_set3{w:World}{F:Nat→Prop}(d g i j k:Nat)(u v x:Value)(hF:F g):Turn w F ((((w.drewN d).setCell ⟨g,i,none⟩ u).setCell ⟨g,j,none⟩ v).setCell ⟨g,k,none⟩ x) F:=
 (((Turn.below (drewN_below w d)).trans (turn_setCell _ _ hF)).trans (turn_setCell _ _ hF)).trans (turn_setCell _ _ hF)
theorem block_set3{w:World}(d g t i j k:Nat)(u v x:Value)(h:t≠g):((((w.drewN d).setCell ⟨g,i,none⟩ u).setCell ⟨g,j,none⟩ v).setCell ⟨g,k,none⟩ x).heap[t]? =w.heap[t]? :=
 (Below.heap_setCell _ _ _ t h).trans ((Below.heap_setCell _ _ _ t h).trans (Below.heap_setCell (w.drewN d) _ _ t h))
theorem row_set3{w:World}{e:TypeId}{g n c:Nat}{xs:List Value}(hr:w.ownsRow 0 e 3 (.slice (some ⟨g,0,none⟩) n c) n xs)(d i j k:Nat)(u v x:Value):
 ((((w.drewN d).setCell ⟨g,i,none⟩ u).setCell ⟨g,j,none⟩ v).setCell ⟨g,k,none⟩ x).ownsRow 0 e 3 (.slice (some ⟨g,0,none⟩) n c) n (((xs.set i u).set j v).set k x):=
 ((((ownsRow_drewN hr d).stored i u).1.stored j v).1.stored k x).1
theorem cells_new3(w:World)(u v x:Value)(T:TypeId): ∀(j:Nat) (y:Value),[u,v,x][j]? =some y→(w.alloc (.cells #[u,v,x] T)).cell? ((⟨w.heap.size,0,none⟩:Addr).add j)=some y:=by
 intro j y h
 have hj:j<3:=by
  by_cases hh:j<3
  · exact hh
  · rw [List.getElem?_eq_none (by simp;omega)] at h;cases h
 have:j=0∨j=1∨j=2:=by omega
 rcases this with rfl|rfl|rfl<;>(simp at h;subst h;simp only [Addr.add];go_simp)
theorem grownBy_setCell'' (W:World)(b o:Nat)(v:Value):W.grownBy (W.setCell ⟨b,o,none⟩ v) (some b):=
 ⟨rfl,rfl,rfl,by simp,fun k _ hne=>Below.heap_setCell _ _ _ k (fun e=>hne (by rw [e]))⟩
theorem grown_table{w w1:World}{t g n c:Nat}{v:Value}{tmp:Obj}(ht:t<w.heap.size)(hoff:v.ownBlock≠some t)(hg:(w.alloc tmp).grownBy w1 v.ownBlock)(hb:(Value.slice (some ⟨g,0,none⟩) n c).ownBlock=v.ownBlock∨(Value.slice (some ⟨g,0,none⟩) n c).ownBlock=some (w.alloc tmp).heap.size):
 w1.heap[t]? =w.heap[t]? ∧g≠t:=by
 refine⟨(hg.block t (by simp;omega) (fun e=>hoff e.symm)).trans (Below.heap_alloc w tmp t ht), ?_⟩
 rintro rfl
 have e:(Value.slice (some ⟨g,0,none⟩) n c).ownBlock=some g:=rfl
 rw [e] at hb
 rcases hb with h1|h1
 · exact hoff h1.symm
 · simp at h1;omega
theorem grown_turn{w w1:World}{t g n c:Nat}{v u:Value}{tmp:Obj}(ht:t<w.heap.size)(hg:(w.alloc tmp).grownBy w1 v.ownBlock)(hb:(Value.slice (some ⟨g,0,none⟩) n c).ownBlock=v.ownBlock∨(Value.slice (some ⟨g,0,none⟩) n c).ownBlock=some (w.alloc tmp).heap.size):
 Turn w (HTabF t v) (w1.setCell ⟨t,2,none⟩ u) (HTabF t (.slice (some ⟨g,0,none⟩) n c)):=by
 have hsz:=hg.size
 simp at hsz
 refine⟨hg.os,hg.tape,hg.output,by simp;omega,fun k hk hF=> ?_,fun k hk=> ?_⟩
 · have h1:k≠t:=fun e=>hF (.inl e)
   have h2:some k≠v.ownBlock:=fun e=>hF (.inr e.symm)
   exact(Below.heap_setCell _ _ _ k h1).trans ((hg.block k (by simp;omega) h2).trans (Below.heap_alloc w tmp k hk))
 · rcases hk with rfl|hk
   · exact .inl (.inl rfl)
   · rw [hk] at hb
     rcases hb with h1|h1
     · exact .inl (.inr h1.symm)
     · simp at h1;exact .inr (by omega)
set_option maxRecDepth 100000 in
theorem hopen_at{w:World}{t most last:Nat}{v:Value}{sl:List Sl}(hT:HTab w t v most last sl)(addr:Nat)(ha:addr<1099511627776):
 Calls Tryz.prog 102 #[.pointer (some ⟨t,0,none⟩), .int .i64 (addr:Nat)] w fun e w' =>
  (∃k g v' sl',Opened sl addr k g sl' ∧e= .returned (.tuple #[.int .u64 (handleN g k:Nat), .int .i64 0])∧HTab w' t v' most last sl' ∧Turn w (HTabF t v) w' (HTabF t v'))∨
  (sl.length=most∧(∀s∈sl,s.is≠0)∧e= .returned (.tuple #[.int .u64 0, .int .i64 10])∧w=w'):=by
 obtain⟨i0,hi,hz0,hz1,hz2⟩:=info_parts Tryz.info_slot
 have hN:=Lib.hid (hnone_at hT)
 have HT:=Lib.hid hT
 have h0:=hT.c0
 have h2:=hT.c2
 have hlen:=hT.len
 have hm2:=hT.m2
 have hl2:=hT.l2
 obtain⟨A,c,rfl⟩:=hT.row_form
 clear hT
 go_enter Tryz.func102,Tryz.ntmps102
 go_wp2_with fail
 refine hN.out.mono ?_
 rintro e w' ⟨rfl,rfl⟩
 go_wp2_with fail
 go_loop [6] (fun kv=> ∃k:Nat,k≤sl.length∧kv= .int .i64 k∧Hid (∀j (hj:j<sl.length),j<k→sl[j].is≠0)) (fun kv=>sl.length+1-(intOf kv).toNat)
 case atStart=>exact⟨0,by omega,rfl,Lib.hid (by intro j hj h;omega)⟩
 case round=>
  obtain⟨k,hk,rfl,hbef⟩:=hrel
  by_cases hlt:k<sl.length
  · obtain⟨g,c',hv,hg,s0,s1,s2,f0,f1,f2,hrow⟩:=HT.out.slot hlt
    cases hv
    have hok:=HT.out.ok _ (List.getElem_mem hlt)
    have hfr:=hok.free
    obtain⟨is,his⟩: ∃is,sl[k].is=is:=⟨_,rfl⟩
    rw [his] at s0 hfr
    by_cases h00:is=0
    · subst h00
      have hgl:=hfr rfl
      have d1:decide ((sl.length:Int)=(most:Int))=decide ((sl.length:Int)=(most:Int)):=rfl
      have hkm:((k:Int)==(most:Int))=false:=by simp;omega
      have hkl:((k:Int)==(sl.length:Int))=false:=by simp;omega
      obtain⟨gen,hgen⟩: ∃gen,sl[k].gen=gen:=⟨_,rfl⟩
      rw [hgen] at s1 hgl
      have hgt:g≠t:=fun e=>HT.out.off (by rw [e];rfl)
      have hgF:HTabF t (.slice (some ⟨g,0,none⟩) sl.length c) g:= .inr rfl
      have hset:Hid (∀W:World,W.heap[t]? =w.heap[t]? →W.ownsRow 0 193 3 (.slice (some ⟨g,0,none⟩) sl.length c) sl.length ((((slCells sl).set (k*3) (.int .i64 (1:Nat))).set (k*3+1) (.int .u32 (gen+1:Nat))).set (k*3+2) (.int .i64 (addr:Nat)))→
       HTab W t (.slice (some ⟨g,0,none⟩) sl.length c) most last (sl.set k ⟨1,gen+1,addr⟩)):=Lib.hid (fun W hb hr=>by
       refine HT.out.setAll hlt ⟨1,gen+1,addr⟩ (slOk_open hgl ha) (fun x hx=> .inl hx) (fun x hx=> ?_) hlen (World.cell?_of_block (a:=⟨t,0,none⟩) hb) (World.cell?_of_block (a:=⟨t,1,none⟩) hb) ((World.cell?_of_block (a:=⟨t,2,none⟩) hb).trans HT.out.c2) ((World.frozen?_of_block (a:=⟨t,2,none⟩) hb).trans HT.out.f2) hgt hr
       exact List.mem_or_eq_of_mem_set hx)
      have hgenH:=Lib.hid hgen
      have hisH:=Lib.hid his
      have hrowH:=Lib.hid hrow
      clear hgen his hfr hok hrow d1
      go_wp2_with fail
      refine wp_region_quiet_tail 17 (by kernel_rfl) (by kernel_rfl) ?_
      simp only [List.take_succ_cons,List.take_zero,List.drop_succ_cons,List.drop_zero]
      repeat (go_big_quiet_step (fail))
      refine wpQuiet_nil ?_
      rintro _ ⟨nq,rfl⟩
      have hW:=Lib.hid (hset.out _ (block_set3 nq g t (k*3) (k*3+1) (k*3+2) (.int .i64 1) (.int .u32 ((gen:Int)+1)) (.int .i64 (addr:Nat)) (Ne.symm hgt)) (row_set3 hrowH.out nq (k*3) (k*3+1) (k*3+2) (.int .i64 1) (.int .u32 ((gen:Int)+1)) (.int .i64 (addr:Nat))))
      have hTn:=Lib.hid (turn_set3 (w:=w) nq g (k*3) (k*3+1) (k*3+2) (.int .i64 1) (.int .u32 ((gen:Int)+1)) (.int .i64 (addr:Nat)) hgF)
      have hNm:=name_at hW.out (k:=k) (by rw [List.length_set];exact hlt)
      rw [List.getElem_set_self] at hNm
      have hNmH:=Lib.hid hNm
      clear hNm hset
      go_wp2_with fail
      refine hNmH.out.mono ?_
      rintro e w' ⟨rfl,rfl⟩
      go_wp2
      go_ret2
      exact .inl ⟨k,gen+1,_,_,⟨.inl ⟨hlt,hisH.out,by rw [hgenH.out],rfl⟩⟩,rfl,hW.out,hTn.out⟩
    · have d1:((is:Int) !=0)=true:=by simp;omega
      have hisH:Hid (sl[k].is≠0):=Lib.hid (by rw [his];exact h00)
      clear h00 his hok hfr hrow
      go_wp2
      go_round
      case rel=>exact⟨k+1,by omega,by go_num,Lib.hid (fun j hj hjk=>by
       rcases Nat.lt_succ_iff_lt_or_eq.1 hjk with h9|rfl
       · exact hbef.out j hj h9
       · exact hisH.out)⟩
      case measure=>simp [intOf];omega
  · obtain rfl:k=sl.length:=by omega
    by_cases hmost:sl.length=most
    · have d1:((sl.length:Int)==(most:Int))=true:=by simp [hmost]
      have hmH:=Lib.hid hmost
      clear hmost
      go_wp2
      go_ret2
      exact .inr ⟨hmH.out,fun s hs=>by
       obtain⟨j,hj,rfl⟩:=List.getElem_of_mem hs
       exact hbef.out j hj hj,rfl,rfl⟩
    · have hkm:((sl.length:Int)==(most:Int))=false:=by simp;omega
      have hkl:((sl.length:Int)==(sl.length:Int))=true:=by simp
      have hf2:=HT.out.f2
      have hrowH:=Lib.hid HT.out.row
      have hmH:=Lib.hid hmost
      have htl:t<w.heap.size:=HT.out.lt (.inl rfl)
      clear hmost
      have hoff:=Lib.hid HT.out.off
      have hgF:Hid (∀b,(Value.slice A sl.length c).ownBlock=some b→HTabF t (.slice A sl.length c) b):=Lib.hid (fun b hb=> .inr hb)
      go_wp2_with (at_builtin;go_must (refine wpList_append_own_at _ rfl _ _ 118 rfl 0 193 i0 (.agg #[.int .i64 0, .int .u32 0, .int .i64 0]) 3 24 Tryz.under_slots hi hz0 hz1 hz2 rfl (by decide) _ _ _ rfl (hrowH.out.alloc _) ⟨w.heap.size,0,none⟩ 1 1 [.int .i64 0, .int .u32 0, .int .i64 0] rfl rfl (cells_new3 w _ _ _ _) (by simp [Value.oneCell']) (by unfold maxLen;omega) (by omega) (by omega) ?_);intro v' w1 hown' hgrow _ hblk;obtain⟨g',cap',rfl⟩:=ownsRow_succ hown';obtain⟨hb1,hg't⟩:=grown_table htl hoff.out hgrow hblk;have hc2' :=(World.cell?_of_block (a:=⟨t,2,none⟩) hb1).trans h2;have hf2' :=(World.frozen?_of_block (a:=⟨t,2,none⟩) hb1).trans hf2;have hH1:=Lib.hid hown';have hH2:=Lib.hid hgrow;have hH3:=Lib.hid hblk;have hH4:=Lib.hid hb1;clear hown' hgrow hblk hb1)
      have hcW0:(w1.setCell ⟨t,2,none⟩ (.slice (some ⟨g',0,none⟩) (sl.length+1) cap')).cell? ⟨t,0,none⟩=some (.int .i64 (most:Nat)):=(World.cell?_setCell_other _ _ _ _ (by simp)).trans ((World.cell?_of_block (a:=⟨t,0,none⟩) hH4.out).trans h0)
      have hcW1:(w1.setCell ⟨t,2,none⟩ (.slice (some ⟨g',0,none⟩) (sl.length+1) cap')).cell? ⟨t,1,none⟩=w.cell? ⟨t,1,none⟩:=(World.cell?_setCell_other _ _ _ _ (by simp)).trans (World.cell?_of_block (a:=⟨t,1,none⟩) hH4.out)
      have hcW2:(w1.setCell ⟨t,2,none⟩ (.slice (some ⟨g',0,none⟩) (sl.length+1) cap')).cell? ⟨t,2,none⟩=some (.slice (some ⟨g',0,none⟩) (sl.length+1) cap'):=World.cell?_setCell_same' _ _ _ (by rw [hc2'];rfl)
      have hfW2:(w1.setCell ⟨t,2,none⟩ (.slice (some ⟨g',0,none⟩) (sl.length+1) cap')).frozen? ⟨t,2,none⟩=false:=by simpa using hf2'
      have hrW:=hH1.out.kept (w' :=w1.setCell ⟨t,2,none⟩ (.slice (some ⟨g',0,none⟩) (sl.length+1) cap')) (grownBy_setCell'' w1 t 2 (.slice (some ⟨g',0,none⟩) (sl.length+1) cap')) (.inr (by simp [Value.ownBlock,hg't]))
      rw [show slCells sl++ [Value.int IntKind.i64 0,Value.int IntKind.u32 0,Value.int IntKind.i64 0]=slCells (sl++ [⟨0,0,0⟩]) from(slCells_snoc sl ⟨0,0,0⟩).symm] at hrW
      have hlen1:(sl++ [(⟨0,0,0⟩:Sl)]).length=sl.length+1:=by simp
      have hTW:Turn w (HTabF t (.slice A sl.length c)) (w1.setCell ⟨t,2,none⟩ (.slice (some ⟨g',0,none⟩) (sl.length+1) cap')) (HTabF t (.slice (some ⟨g',0,none⟩) (sl.length+1) cap')):=grown_turn htl hH2.out hH3.out
      have hTWH:=Lib.hid hTW
      have hrWH:=Lib.hid hrW
      have x1:(w1.setCell ⟨t,2,none⟩ (.slice (some ⟨g',0,none⟩) (sl.length+1) cap')).cell? ⟨g',sl.length*3+1,none⟩=some (.int .u32 0):=by
       rw [hrW.cellAt _ (by omega)]
       have:=slCells_at (sl++ [(⟨0,0,0⟩:Sl)]) sl.length (by simp) 1 (by omega)
       rw [show sl.length*3+1=3*sl.length+1 by omega,this]
       simp
      have x0:(w1.setCell ⟨t,2,none⟩ (.slice (some ⟨g',0,none⟩) (sl.length+1) cap')).cell? ⟨g',sl.length*3,none⟩=some (.int .i64 0):=by
       rw [hrW.cellAt _ (by omega)]
       have:=slCells_at (sl++ [(⟨0,0,0⟩:Sl)]) sl.length (by simp) 0 (by omega)
       rw [show sl.length*3=3*sl.length+0 by omega,this]
       simp
      have x2:(w1.setCell ⟨t,2,none⟩ (.slice (some ⟨g',0,none⟩) (sl.length+1) cap')).cell? ⟨g',sl.length*3+2,none⟩=some (.int .i64 0):=by
       rw [hrW.cellAt _ (by omega)]
       have:=slCells_at (sl++ [(⟨0,0,0⟩:Sl)]) sl.length (by simp) 2 (by omega)
       rw [show sl.length*3+2=3*sl.length+2 by omega,this]
       simp
      have z0:=hrW.frozenAt (sl.length*3)
      have z1:=hrW.frozenAt (sl.length*3+1)
      have z2:=hrW.frozenAt (sl.length*3+2)
      have hcW1H:=Lib.hid hcW1
      clear hrW hTW hc2' hf2' hcW1
      generalize (w1.setCell ⟨t,2,none⟩ (.slice (some ⟨g',0,none⟩) (sl.length+1) cap'))=W2 at*
      have hset:Hid (∀W:World,W.heap[t]? =W2.heap[t]? →W.ownsRow 0 193 3 (.slice (some ⟨g',0,none⟩) (sl.length+1) cap') (sl.length+1) ((((slCells (sl++ [⟨0,0,0⟩])).set (sl.length*3) (.int .i64 (1:Nat))).set (sl.length*3+1) (.int .u32 (0+1:Nat))).set (sl.length*3+2) (.int .i64 (addr:Nat)))→
       HTab W t (.slice (some ⟨g',0,none⟩) (sl.length+1) cap') most last (sl++ [⟨1,0+1,addr⟩])):=Lib.hid (fun W hb hr=>by
       have hl1:=HT.out.l1
       have h8:=HT.out.setAll (w' :=W) (k:=sl.length) (sl0:=sl++ [(⟨0,0,0⟩:Sl)]) (g:=g') (c:=cap') (by simp) ⟨1,0+1,addr⟩ (slOk_open (by omega) ha) (fun x hx=>by simpa using hx) (fun x hx=>by
        rw [List.set_append_right _ _ (Nat.le_refl _)] at hx
        simpa using hx) (by rw [hlen1];have:=hmH.out;omega) (((World.cell?_of_block (a:=⟨t,0,none⟩) hb).trans hcW0).trans h0.symm) ((World.cell?_of_block (a:=⟨t,1,none⟩) hb).trans hcW1H.out) (by rw [hlen1];exact(World.cell?_of_block (a:=⟨t,2,none⟩) hb).trans hcW2) ((World.frozen?_of_block (a:=⟨t,2,none⟩) hb).trans hfW2) hg't (by rw [hlen1];exact hr)
       rw [hlen1,List.set_append_right _ _ (Nat.le_refl _)] at h8
       simpa using h8)
      have hgF2:HTabF t (.slice (some ⟨g',0,none⟩) (sl.length+1) cap') g' := .inr rfl
      have hlenH:=Lib.hid hlen1
      clear hlen1 h2 h0 hH4
      refine wp_region_quiet_tail 17 (by kernel_rfl) (by kernel_rfl) ?_
      simp only [List.take_succ_cons,List.take_zero,List.drop_succ_cons,List.drop_zero]
      repeat (go_big_quiet_step (fail))
      refine wpQuiet_nil ?_
      rintro _ ⟨nq,rfl⟩
      have hW:=Lib.hid (hset.out _ (block_set3 nq g' t (sl.length*3) (sl.length*3+1) (sl.length*3+2) (.int .i64 1) (.int .u32 1) (.int .i64 (addr:Nat)) (Ne.symm hg't)) (row_set3 hrWH.out nq (sl.length*3) (sl.length*3+1) (sl.length*3+2) (.int .i64 1) (.int .u32 1) (.int .i64 (addr:Nat))))
      have hTn:=Lib.hid (hTWH.out.trans (turn_set3 (w:=W2) nq g' (sl.length*3) (sl.length*3+1) (sl.length*3+2) (.int .i64 1) (.int .u32 1) (.int .i64 (addr:Nat)) hgF2))
      have hNm:=name_at hW.out (k:=sl.length) (by simp)
      rw [List.getElem_concat_length (by rfl)] at hNm
      have hNmH:=Lib.hid hNm
      clear hNm hset
      go_wp2_with fail
      refine hNmH.out.mono ?_
      rintro e w' ⟨rfl,rfl⟩
      go_wp2
      go_ret2
      exact .inl ⟨sl.length,1,_,_,⟨.inr ⟨rfl,rfl,rfl⟩⟩,rfl,hW.out,hTn.out⟩
structure RecAt(L:HL)(mem:Nat→Nat)(h addr:Nat)(ws:List Nat):Prop where
 blk:(addr,bszN (ws.length+2))∈blocks L
 h0:mem addr=h
 h1:mem (addr+1)=ws.length
 wd: ∀i (hi:i<ws.length),mem (addr+2+i)=ws[i]
 len:ws.length≤3998
theorem RecAt.lt{L:HL}{mem:Nat→Nat}{h addr:Nat}{ws:List Nat}(r:RecAt L mem h addr ws){i:Nat}(hi:i<ws.length+2):addr+i<addr+bszN (ws.length+2):=by
 have:=bszN_ge (ws.length+2)
 omega
structure StIn(w:World)(s:Nat)(F:Nat→Prop)(R:Nat→Option (List Nat))(H:List Nat)(P q most last G a ha t:Nat)(v:Value)(L:HL)(mem:Nat→Nat)(sl:List Sl)(Fh:Nat→Prop):Prop where
 ca:w.cell? ⟨s,2,none⟩=some (.pointer (some ⟨a,0,none⟩))
 ch:w.cell? ⟨s,3,none⟩=some (.pointer (some ⟨ha,0,none⟩))
 ct:w.cell? ⟨s,4,none⟩=some (.pointer (some ⟨t,0,none⟩))
 heap:HeapIs w ha a Fh L q mem
 tab:HTab w t v most last sl
 F_eq:F=fun b=>Fh b∨HTabF t v b
 apart: ∀b,Fh b→ ¬HTabF t v b
 soff: ¬F s
 haoff: ¬HTabF t v ha
 tboff: ∀b,HTabF t v b→1<b
 link: ∀h k (n:Names sl h k),∃ws,R h=some ws∧RecAt L mem h (sl[k]'n.lt).addr ws
 inH: ∀h,h∈H↔ ∃k,Names sl h k
 none' : ∀h,h∉H→R h=none
 perm:H.Perm ((blocks L).map fun b=>mem b.1)
 nodup:H.Nodup
 pages:(runs L).length≤P
 gens: ∀x∈sl,x.gen≤G
 ret: ∀x∈sl,x.is=2→x.gen=last
def StoreIs(w:World)(s:Nat)(F:Nat→Prop)(R:Nat→Option (List Nat))(H:List Nat)(P q most last G:Nat):Prop:=
 ∃a ha t v L mem sl Fh,StIn w s F R H P q most last G a ha t v L mem sl Fh
section
variable {w w' :World} {s:Nat} {F:Nat→Prop} {R:Nat→Option (List Nat)} {H:List Nat} {P q most last G a ha t:Nat} {v:Value} {L:HL} {mem:Nat→Nat} {sl:List Sl} {Fh:Nat→Prop}
theorem StIn.below(h:StIn w s F R H P q most last G a ha t v L mem sl Fh)(hb:Below w.heap.size w w'):StIn w' s F R H P q most last G a ha t v L mem sl Fh:=
 { h with
   ca:=(hb.cell (p:=⟨s,2,none⟩) (cell_lt h.ca)).trans h.ca
   ch:=(hb.cell (p:=⟨s,3,none⟩) (cell_lt h.ch)).trans h.ch
   ct:=(hb.cell (p:=⟨s,4,none⟩) (cell_lt h.ct)).trans h.ct
   heap:=h.heap.below hb
   tab:=h.tab.below hb }
theorem StoreIs.below(h:StoreIs w s F R H P q most last G)(hb:Below w.heap.size w w'):StoreIs w' s F R H P q most last G:=by
 obtain⟨a,ha,t,v,L,mem,sl,Fh,h⟩:=h
 exact⟨a,ha,t,v,L,mem,sl,Fh,h.below hb⟩
theorem StIn.lt(h:StIn w s F R H P q most last G a ha t v L mem sl Fh){b:Nat}(hb:F b):b<w.heap.size:=by
 have:=h.F_eq
 subst this
 rcases hb with h1|h1
 · exact h.heap.lt h1
 · exact h.tab.lt h1
theorem StoreIs.lt(h:StoreIs w s F R H P q most last G){b:Nat}(hb:F b):b<w.heap.size:=by
 obtain⟨a,ha,t,v,L,mem,sl,Fh,h⟩:=h
 exact h.lt hb
theorem StoreIs.s_lt(h:StoreIs w s F R H P q most last G):s<w.heap.size:=by
 obtain⟨a,ha,t,v,L,mem,sl,Fh,h⟩:=h
 exact cell_lt (a:=⟨s,2,none⟩) h.ca
theorem StoreIs.s_off(h:StoreIs w s F R H P q most last G): ¬F s:=by
 obtain⟨a,ha,t,v,L,mem,sl,Fh,h⟩:=h
 exact h.soff
theorem StoreIs.turn{G1 G2:Nat→Prop}(h:StoreIs w s F R H P q most last G)(ht:Turn w G1 w' G2)(hG: ∀b,b<w.heap.size→ ¬G1 b):StoreIs w' s F R H P q most last G:=
 h.below ⟨ht.os,ht.tape,ht.output,ht.size,fun k hk=>ht.keep k hk (hG k hk)⟩
theorem StIn.record(h:StIn w s F R H P q most last G a ha t v L mem sl Fh){x:Nat}{ws:List Nat}(hR:R x=some ws): ∃k,∃n:Names sl x k,RecAt L mem x (sl[k]'n.lt).addr ws:=by
 have hx:x∈H:=by
  by_cases hx:x∈H
  · exact hx
  · rw [h.none' x hx] at hR;cases hR
 obtain⟨k,n⟩:=(h.inH x).1 hx
 obtain⟨ws',h1,h2⟩:=h.link x k n
 rw [hR] at h1
 cases h1
 exact⟨k,n,h2⟩
theorem StIn.no(h:StIn w s F R H P q most last G a ha t v L mem sl Fh){x:Nat}(hR:R x=none):NoName sl x:=fun k n=>by
 obtain⟨ws,h1,_⟩:=h.link x k n
 rw [hR] at h1;cases h1
theorem snone_at(h:StIn w s F R H P q most last G a ha t v L mem sl Fh):Calls Tryz.prog 50 #[.pointer (some ⟨s,0,none⟩)] w fun e w' =>e= .returned (.bool false)∧w=w' :=by
 have hca:=h.ca
 clear h
 go_enter Tryz.func50,Tryz.ntmps50
 go_wp2
 go_ret
 exact⟨rfl,rfl⟩
theorem snone_nil(w:World):Calls Tryz.prog 50 #[.pointer none] w fun e w' =>e= .returned (.bool true)∧w=w' :=by
 go_enter Tryz.func50,Tryz.ntmps50
 go_wp2
 go_ret
 exact⟨rfl,rfl⟩
theorem StIn.R64(h:StIn w s F R H P q most last G a ha t v L mem sl Fh){x:Nat}{ws:List Nat}(hR:R x=some ws):x<18446744073709551616:=by
 obtain⟨k,n,_⟩:=h.record hR
 have h1:=n.gen n.lt
 have h2:=(h.tab.ok _ (List.getElem_mem n.lt)).hi
 have h3:=h.tab.l2
 have h4:=h.tab.len
 have h5:=h.tab.m2
 have h6:=n.lt
 unfold handleN at h1
 omega
set_option maxRecDepth 100000 in
theorem sat_hit(h:StIn w s F R H P q most last G a ha t v L mem sl Fh){x k:Nat}{ws:List Nat}(n:Names sl x k)(hr:RecAt L mem x (sl[k]'n.lt).addr ws):
 Calls Tryz.prog 71 #[.pointer (some ⟨s,0,none⟩), .int .u64 (x:Nat)] w fun e w' =>e= .returned (.tuple #[.int .i64 ((sl[k]'n.lt).addr:Nat), .int .i64 (ws.length:Nat), .int .i64 0])∧w=w' :=by
 have hN:=Lib.hid (snone_at h)
 have hA:=Lib.hid (hat_hit h.tab n n.lt)
 have hb2:=bszN_ge (ws.length+2)
 have hR:=read_is h.heap hr.blk ((sl[k]'n.lt).addr+1) (by simp) (by simp only;omega)
 rw [hr.h1] at hR
 have hRH:=Lib.hid hR
 have hca:=h.ca
 have hct:=h.ct
 have had:=(h.tab.ok _ (List.getElem_mem n.lt)).addr
 have hl:=hr.len
 generalize (sl[k]'n.lt).addr=addr at*
 clear h hr hR hb2 n
 go_enter Tryz.func71,Tryz.ntmps71
 go_wp2_with fail
 refine hN.out.mono ?_
 rintro e w' ⟨rfl,rfl⟩
 go_wp2_with fail
 refine hA.out.mono ?_
 rintro e w' ⟨rfl,rfl⟩
 go_wp2_with fail
 rw [show((addr:Int)+1)=((addr+1:Nat):Int) by push_cast;rfl]
 refine hRH.out.mono ?_
 rintro e w' ⟨rfl,rfl⟩
 go_wp2
 go_ret3
 exact⟨rfl,rfl⟩
set_option maxRecDepth 100000 in
theorem sat_miss(h:StIn w s F R H P q most last G a ha t v L mem sl Fh){x:Nat}(hx:x<18446744073709551616)(hn:NoName sl x):
 Calls Tryz.prog 71 #[.pointer (some ⟨s,0,none⟩), .int .u64 (x:Nat)] w fun e w' =>e= .returned (.tuple #[.int .i64 0, .int .i64 0, .int .i64 7])∧w=w' :=by
 have hN:=Lib.hid (snone_at h)
 have hA:=Lib.hid (hat_miss h.tab hx hn)
 have hca:=h.ca
 have hct:=h.ct
 clear h hn hx
 go_enter Tryz.func71,Tryz.ntmps71
 go_wp2_with fail
 refine hN.out.mono ?_
 rintro e w' ⟨rfl,rfl⟩
 go_wp2_with fail
 refine hA.out.mono ?_
 rintro e w' ⟨rfl,rfl⟩
 go_wp2
 go_ret3
 exact⟨rfl,rfl⟩
set_option maxRecDepth 100000 in
theorem sat_nil(x:Nat)(w:World):
 Calls Tryz.prog 71 #[.pointer none, .int .u64 (x:Nat)] w fun e w' =>e= .returned (.tuple #[.int .i64 0, .int .i64 0, .int .i64 1])∧w=w' :=by
 go_enter Tryz.func71,Tryz.ntmps71
 go_wp2_with (go_at_call 50;refine(snone_nil _).mono ?_;rintro e w' ⟨rfl,rfl⟩)
 go_ret3
 exact⟨rfl,rfl⟩
set_option maxRecDepth 100000 in
theorem slen_nil(x:Nat)(w:World):
 Calls Tryz.prog 43 #[.pointer none, .int .u64 (x:Nat)] w fun e w' =>e= .returned (.tuple #[.int .i64 0, .int .i64 1])∧w=w' :=by
 go_enter Tryz.func43,Tryz.ntmps43
 go_wp2_with (go_at_call 71;refine(sat_nil _ _).mono ?_;rintro e w' ⟨rfl,rfl⟩)
 go_ret2
 exact⟨rfl,rfl⟩
def lenR(R:Nat→Option (List Nat))(x:Nat):Value:=
 match R x with
 |some ws=> .tuple #[.int .i64 (ws.length:Nat), .int .i64 0]
 |none=> .tuple #[.int .i64 0, .int .i64 7]
set_option maxRecDepth 100000 in
theorem slen_at(h:StoreIs w s F R H P q most last G)(x:Nat)(hx:x<18446744073709551616):
 Calls Tryz.prog 43 #[.pointer (some ⟨s,0,none⟩), .int .u64 (x:Nat)] w fun e w' =>e= .returned (lenR R x)∧w=w' :=by
 obtain⟨a,ha,t,v,L,mem,sl,Fh,h⟩:=h
 unfold lenR
 cases hR:R x with
 |none=>
  have hA:=Lib.hid (sat_miss h hx (h.no hR))
  clear h hR hx
  go_enter Tryz.func43,Tryz.ntmps43
  go_wp2_with (go_at_call 71;refine hA.out.mono ?_;rintro e w' ⟨rfl,rfl⟩)
  go_ret2
  exact⟨rfl,rfl⟩
 |some ws=>
  obtain⟨k,n,hr⟩:=h.record hR
  have hA:=Lib.hid (sat_hit h n hr)
  generalize (sl[k]'n.lt).addr=addr at hA
  clear h hr n hR hx
  go_enter Tryz.func43,Tryz.ntmps43
  go_wp2_with (go_at_call 71;refine hA.out.mono ?_;rintro e w' ⟨rfl,rfl⟩)
  go_ret2
  exact⟨rfl,rfl⟩
set_option maxRecDepth 100000 in
theorem splace_at(h:StIn w s F R H P q most last G a ha t v L mem sl Fh){x k i:Nat}{ws:List Nat}(n:Names sl x k)(hr:RecAt L mem x (sl[k]'n.lt).addr ws)(hi:i<ws.length):
 Calls Tryz.prog 72 #[.pointer (some ⟨s,0,none⟩), .int .u64 (x:Nat), .int .i64 (i:Nat)] w fun e w' =>e= .returned (.tuple #[.int .i64 ((sl[k]'n.lt).addr+2+i:Nat), .int .i64 0])∧w=w' :=by
 have hA:=Lib.hid (sat_hit h n hr)
 have had:=(h.tab.ok _ (List.getElem_mem n.lt)).addr
 have hl:=hr.len
 generalize (sl[k]'n.lt).addr=addr at*
 clear h hr n
 go_enter Tryz.func72,Tryz.ntmps72
 go_wp2_with (go_at_call 71;refine hA.out.mono ?_;rintro e w' ⟨rfl,rfl⟩)
 go_ret2
 exact⟨by rw [show((addr+2+i:Nat):Int)=(addr:Int)+2+(i:Int) by push_cast;rfl];rfl,rfl⟩
set_option maxRecDepth 100000 in
theorem sget_at(h:StoreIs w s F R H P q most last G){x i:Nat}{ws:List Nat}(hR:R x=some ws)(hi:i<ws.length):
 Calls Tryz.prog 46 #[.pointer (some ⟨s,0,none⟩), .int .u64 (x:Nat), .int .i64 (i:Nat)] w fun e w' =>e= .returned (.tuple #[.int .u64 (ws[i]:Nat), .int .i64 0])∧w=w' :=by
 obtain⟨a,ha,t,v,L,mem,sl,Fh,h⟩:=h
 obtain⟨k,n,hr⟩:=h.record hR
 have hA:=Lib.hid (splace_at h n hr hi)
 have hb2:=bszN_ge (ws.length+2)
 have hRd:=read_is h.heap hr.blk ((sl[k]'n.lt).addr+2+i) (by simp only;omega) (by simp only;omega)
 rw [hr.wd i hi] at hRd
 have hRH:=Lib.hid hRd
 have hca:=h.ca
 generalize (sl[k]'n.lt).addr=addr at*
 generalize ws[i]=word at*
 clear h hr n hR hRd hb2
 go_enter Tryz.func46,Tryz.ntmps46
 go_wp2_with fail
 refine hA.out.mono ?_
 rintro e w' ⟨rfl,rfl⟩
 go_wp2_with fail
 refine hRH.out.mono ?_
 rintro e w' ⟨rfl,rfl⟩
 go_wp2
 go_ret2
 exact⟨rfl,rfl⟩
end
def updR(R:Nat→Option (List Nat))(x:Nat)(o:Option (List Nat)):Nat→Option (List Nat):=fun y=>if y=x then o else R y
theorem updR_same(R:Nat→Option (List Nat))(x:Nat)(o:Option (List Nat)):updR R x o x=o:=if_pos rfl
theorem updR_other{R:Nat→Option (List Nat)}{x y:Nat}{o:Option (List Nat)}(h:y≠x):updR R x o y=R y:=if_neg h
theorem RecAt.same{L L' :HL}{mem mem' :Nat→Nat}{h addr:Nat}{ws:List Nat}(r:RecAt L mem h addr ws)(hb:(addr,bszN (ws.length+2))∈blocks L')(hm: ∀i,addr≤i→i<addr+bszN (ws.length+2)→mem' i=mem i):RecAt L' mem' h addr ws:=by
 have h2:=bszN_ge (ws.length+2)
 refine⟨hb, ?_, ?_,fun i hi=> ?_,r.len⟩
 · rw [hm _ (Nat.le_refl _) (by omega),r.h0]
 · rw [hm _ (by omega) (by omega),r.h1]
 · rw [hm _ (by omega) (by omega),r.wd i hi]
theorem block_within_two{L:HL}(hl:Lay L){b:Nat × Nat}(hb:b∈blocks L):2≤b.2:=by
 obtain⟨y,hy,hby⟩:=mem_blocks.1 hb
 exact(block_within (hl.ok y hy) hby).2.2
theorem recs_apart{L:HL}{mem:Nat→Nat}(hl:Lay L){h h' addr addr' :Nat}{ws ws' :List Nat}(r:RecAt L mem h addr ws)(r' :RecAt L mem h' addr' ws')(hne:h≠h'):
 addr+bszN (ws.length+2)≤addr' ∨addr' +bszN (ws'.length+2)≤addr:=by
 rcases blocks_apart hl r.blk r'.blk with h1|h1|h1
 · have:addr=addr' :=congrArg Prod.fst h1
   exact absurd (r.h0.symm.trans (by rw [this];exact r'.h0)) hne
 · exact .inl h1
 · exact .inr h1
section
variable {w w' :World} {s:Nat} {F:Nat→Prop} {R:Nat→Option (List Nat)} {H:List Nat} {P q most last G a ha t:Nat} {v:Value} {L:HL} {mem:Nat→Nat} {sl:List Sl} {Fh:Nat→Prop}
theorem handleN_inj{g g' k k' :Nat}(hk:k<65536)(hk' :k' <65536)(h:handleN g k=handleN g' k'):g=g' ∧k=k' :=by
 unfold handleN at h;omega
theorem StIn.k_lt(h:StIn w s F R H P q most last G a ha t v L mem sl Fh){k:Nat}(hk:k<sl.length):k<65536:=by
 have:=h.tab.len;have:=h.tab.m2;omega
theorem StIn.name_inj(h:StIn w s F R H P q most last G a ha t v L mem sl Fh){x k k' :Nat}(n:Names sl x k)(n' :Names sl x k'):k=k' :=
 (handleN_inj (h.k_lt n.lt) (h.k_lt n'.lt) ((n.gen n.lt).symm.trans (n'.gen n'.lt))).2
theorem StIn.put(h:StIn w s F R H P q most last G a ha t v L mem sl Fh){x k i u:Nat}{ws:List Nat}(n:Names sl x k)(hR:R x=some ws)(hr:RecAt L mem x (sl[k]'n.lt).addr ws)(hi:i<ws.length)
 (hh:HeapIs w' ha a Fh L q (upd mem ((sl[k]'n.lt).addr+2+i) u)) (ht:Turn w Fh w' Fh):
 StIn w' s F (updR R x (some (ws.set i u))) H P q most last G a ha t v L (upd mem ((sl[k]'n.lt).addr+2+i) u) sl Fh∧Turn w F w' F:=by
 have hF:=h.F_eq
 subst hF
 have hsF: ¬Fh s:=fun hf=>h.soff (.inl hf)
 have hb2:=bszN_ge (ws.length+2)
 refine⟨{ h with
  ca:=ht.cell h.ca hsF
  ch:=ht.cell h.ch hsF
  ct:=ht.cell h.ct hsF
  heap:=hh
  tab:=h.tab.turn ht (fun b hb hf=>h.apart b hf hb)
  F_eq:=rfl
  link:=fun y k' n' => ?_
  none' :=fun y hy=> ?_
  perm:= ?_ },⟨ht.os,ht.tape,ht.output,ht.size,fun b hb hf=>ht.keep b hb (fun hf' =>hf (.inl hf')),fun b hb=> .inl hb⟩⟩
 · by_cases hyx:y=x
   · subst hyx
     obtain rfl:=h.name_inj n n'
     refine⟨ws.set i u,updR_same _ _ _, ?_, ?_, ?_,fun j hj=> ?_, ?_⟩
     · rw [List.length_set];exact hr.blk
     · simp only [upd];rw [if_neg (by omega)];exact hr.h0
     · simp only [upd];rw [if_neg (by omega),List.length_set];exact hr.h1
     · rw [List.length_set] at hj
       simp only [upd]
       rw [List.getElem_set]
       by_cases hij:i=j
       · rw [if_pos (by omega),if_pos hij]
       · rw [if_neg (by omega),if_neg hij];exact hr.wd j hj
     · rw [List.length_set];exact hr.len
   · obtain⟨ws',h1,h2⟩:=h.link y k' n'
     refine⟨ws',(updR_other hyx).trans h1,h2.same h2.blk (fun j hj1 hj2=> ?_)⟩
     have:=recs_apart h.heap.lay h2 hr hyx
     simp only [upd]
     rw [if_neg (by omega)]
 · by_cases hyx:y=x
   · subst hyx
     rw [h.none' y hy] at hR;cases hR
   · exact(updR_other hyx).trans (h.none' y hy)
 · have:((blocks L).map fun b=>upd mem ((sl[k]'n.lt).addr+2+i) u b.1)=(blocks L).map fun b=>mem b.1:=by
    apply List.map_congr_left
    intro b hb
    simp only [upd]
    rw [if_neg]
    intro e
    have h3:=block_within_two h.heap.lay hb
    rcases blocks_apart h.heap.lay hb hr.blk with h4|h4|h4
    · have:=congrArg Prod.fst h4;simp only at this;omega
    · simp only at h4;omega
    · simp only at h4;omega
   rw [this]
   exact h.perm
set_option maxRecDepth 100000 in
theorem sput_at(h:StoreIs w s F R H P q most last G){x i u:Nat}{ws:List Nat}(hR:R x=some ws)(hi:i<ws.length)(hu:u<18446744073709551616):
 Calls Tryz.prog 49 #[.pointer (some ⟨s,0,none⟩), .int .u64 (x:Nat), .int .i64 (i:Nat), .int .u64 (u:Nat)] w fun e w' =>e= .returned (.int .i64 0)∧StoreIs w' s F (updR R x (some (ws.set i u))) H P q most last G∧Turn w F w' F:=by
 obtain⟨a,ha,t,v,L,mem,sl,Fh,h⟩:=h
 obtain⟨k,n,hr⟩:=h.record hR
 have hA:=Lib.hid (splace_at h n hr hi)
 have hb2:=bszN_ge (ws.length+2)
 have hW:=Lib.hid (write_is h.heap hr.blk ((sl[k]'n.lt).addr+2+i) u (by simp only;omega) (by simp only;omega) hu)
 have hP:=Lib.hid (fun w' hh ht=>h.put (w' :=w') (u:=u) n hR hr hi hh ht)
 have hca:=h.ca
 generalize (sl[k]'n.lt).addr=addr at*
 clear h hr n hR hb2
 go_enter Tryz.func49,Tryz.ntmps49
 go_wp2_with fail
 refine hA.out.mono ?_
 rintro e w' ⟨rfl,rfl⟩
 go_wp2_with fail
 refine hW.out.mono ?_
 rintro e w' ⟨rfl,hh,ht⟩
 obtain⟨h1,h2⟩:=hP.out w' hh ht
 have h1H:=Lib.hid h1
 have h2H:=Lib.hid h2
 clear h1 h2 hh ht
 go_wp2
 go_ret
 exact⟨rfl,⟨_,_,_,_,_,_,_,_,h1H.out⟩,h2H.out⟩
end
theorem Turn.left{w w' :World}{A A' B:Nat→Prop}(h:Turn w A w' A'):Turn w (fun b=>A b∨B b) w' (fun b=>A' b∨B b):=
 ⟨h.os,h.tape,h.output,h.size,fun k hk hn=>h.keep k hk (fun ha=>hn (.inl ha)),fun k hk=>by
  rcases hk with h1|h1
  · rcases h.grow k h1 with h2|h2
    · exact .inl (.inl h2)
    · exact .inr h2
  · exact .inl (.inr h1)⟩
theorem Turn.right{w w' :World}{A B B' :Nat→Prop}(h:Turn w B w' B'):Turn w (fun b=>A b∨B b) w' (fun b=>A b∨B' b):=
 ⟨h.os,h.tape,h.output,h.size,fun k hk hn=>h.keep k hk (fun ha=>hn (.inr ha)),fun k hk=>by
  rcases hk with h1|h1
  · exact .inl (.inl h1)
  · rcases h.grow k h1 with h2|h2
    · exact .inl (.inr h2)
    · exact .inr h2⟩
theorem names_set{sl:List Sl}{k:Nat}{s' :Sl}(hk:k<sl.length){y k' :Nat}(hne:k' ≠k):Names (sl.set k s') y k' ↔Names sl y k' :=by
 constructor
 · intro n
   have hl:=n.lt
   rw [List.length_set] at hl
   refine⟨hl,fun h=> ?_,fun h=> ?_⟩
   · have:=n.is n.lt;rwa [List.getElem_set_ne (Ne.symm hne)] at this
   · have:=n.gen n.lt;rwa [List.getElem_set_ne (Ne.symm hne)] at this
 · intro n
   refine⟨by rw [List.length_set];exact n.lt,fun h=> ?_,fun h=> ?_⟩
   · rw [List.getElem_set_ne (Ne.symm hne)];exact n.is n.lt
   · rw [List.getElem_set_ne (Ne.symm hne)];exact n.gen n.lt
theorem names_closed{sl:List Sl}{k:Nat}{s' :Sl}(hk:k<sl.length)(hs:s'.is≠1){y k' :Nat}:Names (sl.set k s') y k' ↔Names sl y k' ∧k' ≠k:=by
 by_cases hne:k' =k
 · subst hne
   constructor
   · intro n
     have:=n.is n.lt
     rw [List.getElem_set_self] at this
     exact absurd this hs
   · intro h;exact absurd rfl h.2
 · rw [names_set hk hne]
   exact⟨fun h=>⟨h,hne⟩,fun h=>h.1⟩
theorem names_append{sl:List Sl}{s' :Sl}{y k' :Nat}(hlt:k' <sl.length):Names (sl++ [s']) y k' ↔Names sl y k' :=by
 constructor
 · intro n
   refine⟨hlt,fun h=> ?_,fun h=> ?_⟩
   · have:=n.is n.lt;rwa [List.getElem_append_left hlt] at this
   · have:=n.gen n.lt;rwa [List.getElem_append_left hlt] at this
 · intro n
   refine⟨by rw [List.length_append];omega,fun h=> ?_,fun h=> ?_⟩
   · rw [List.getElem_append_left hlt];exact n.is hlt
   · rw [List.getElem_append_left hlt];exact n.gen hlt
theorem names_opened{sl sl' :List Sl}{addr k g:Nat}(o:Opened sl addr k g sl'){y k' :Nat}:Names sl' y k' ↔Names sl y k' ∨(k' =k∧y=handleN g k):=by
 rcases o.hit with ⟨hk,h0,rfl,rfl⟩|⟨rfl,rfl,rfl⟩
 · by_cases hne:k' =k
   · subst hne
     constructor
     · intro n
       have:=n.gen n.lt
       rw [List.getElem_set_self] at this
       exact .inr ⟨rfl,this⟩
     · rintro(n|⟨_,rfl⟩)
       · have:=n.is n.lt;omega
       · refine⟨by rw [List.length_set];exact hk,fun h=> ?_,fun h=> ?_⟩<;>rw [List.getElem_set_self]
   · rw [names_set hk hne]
     exact⟨.inl,fun h=>h.resolve_right (fun h=>hne h.1)⟩
 · by_cases hlt:k' <sl.length
   · rw [names_append hlt]
     exact⟨.inl,fun h=>h.resolve_right (fun h=>by omega)⟩
   · constructor
     · intro n
       have hl:=n.lt
       rw [List.length_append] at hl
       simp at hl
       have hk' :k' =sl.length:=by omega
       subst hk'
       have:=n.gen n.lt
       rw [List.getElem_concat_length (by rfl)] at this
       exact .inr ⟨rfl,this⟩
     · rintro(n|⟨rfl,rfl⟩)
       · exact absurd n.lt hlt
       · refine⟨by simp,fun h=> ?_,fun h=> ?_⟩<;>rw [List.getElem_concat_length (by rfl)]
theorem opened_addr{sl sl' :List Sl}{addr k g:Nat}(o:Opened sl addr k g sl'): ∃h:k<sl'.length,sl'[k]=⟨1,g,addr⟩:=by
 rcases o.hit with ⟨hk,h0,rfl,rfl⟩|⟨rfl,rfl,rfl⟩
 · exact⟨by rw [List.length_set];exact hk,List.getElem_set_self _⟩
 · exact⟨by simp,List.getElem_concat_length (by rfl) _⟩
theorem opened_old{sl sl' :List Sl}{addr k g:Nat}(o:Opened sl addr k g sl'){y k' :Nat}(n:Names sl y k'): ∃h:k' <sl'.length,sl'[k']=sl[k']'n.lt:=by
 have hlt:=n.lt
 rcases o.hit with ⟨hk,h0,rfl,rfl⟩|⟨rfl,rfl,rfl⟩
 · have hne:k≠k' :=by rintro rfl;have:=n.is n.lt;omega
   exact⟨by rw [List.length_set];exact hlt,List.getElem_set_ne hne _⟩
 · exact⟨by rw [List.length_append];omega,List.getElem_append_left hlt⟩
theorem opened_mem{sl sl' :List Sl}{addr k g:Nat}(o:Opened sl addr k g sl'){x:Sl}(hx:x∈sl'):x∈sl∨x=⟨1,g,addr⟩:=by
 rcases o.hit with ⟨hk,h0,rfl,rfl⟩|⟨rfl,rfl,rfl⟩
 · exact List.mem_or_eq_of_mem_set hx
 · simpa using hx
theorem opened_gen{sl sl' :List Sl}{addr k g G:Nat}(o:Opened sl addr k g sl')(hG: ∀x∈sl,x.gen≤G):g≤G+1:=by
 rcases o.hit with ⟨hk,h0,rfl,rfl⟩|⟨rfl,rfl,rfl⟩
 · have:=hG _ (List.getElem_mem hk);omega
 · omega
section
variable {w w' :World} {s:Nat} {F:Nat→Prop} {R:Nat→Option (List Nat)} {H:List Nat} {P q most last G a ha t:Nat} {v v' :Value} {L L' :HL} {mem mem' :Nat→Nat} {sl sl' :List Sl} {Fh Fh' :Nat→Prop}
theorem StIn.reheap(h:StIn w s F R H P q most last G a ha t v L mem sl Fh)(hh:HeapIs w' ha a Fh' L' q mem')(ht:Turn w Fh w' Fh')(hp:(blocks L').Perm (blocks L))(hm: ∀c∈blocks L,∀i,c.1≤i→i<c.1+c.2→mem' i=mem i){P' :Nat}(hP:(runs L').length≤P'):
 StIn w' s (fun b=>Fh' b∨HTabF t v b) R H P' q most last G a ha t v L' mem' sl Fh' ∧Turn w F w' (fun b=>Fh' b∨HTabF t v b):=by
 have hF:=h.F_eq
 subst hF
 have hsF: ¬Fh s:=fun hf=>h.soff (.inl hf)
 have hslt:s<w.heap.size:=cell_lt (a:=⟨s,2,none⟩) h.ca
 refine⟨{ h with
  ca:=ht.cell h.ca hsF
  ch:=ht.cell h.ch hsF
  ct:=ht.cell h.ct hsF
  heap:=hh
  tab:=h.tab.turn ht (fun b hb hf=>h.apart b hf hb)
  F_eq:=rfl
  apart:=fun b hb ht' =>ht.not (h.tab.lt ht') (fun hf=>h.apart b hf ht') hb
  soff:=fun hf=>hf.elim (fun hf=>ht.not hslt hsF hf) (fun hf=>h.soff (.inr hf))
  link:=fun y k n=> ?_
  perm:= ?_
  pages:=hP },ht.left⟩
 · obtain⟨ws,h1,h2⟩:=h.link y k n
   exact⟨ws,h1,h2.same (hp.mem_iff.2 h2.blk) (hm _ h2.blk)⟩
 · have h1:((blocks L').map fun b=>mem' b.1).Perm ((blocks L).map fun b=>mem' b.1):=hp.map _
   have h2:((blocks L).map fun b=>mem' b.1)=(blocks L).map fun b=>mem b.1:=List.map_congr_left fun b hb=>hm b hb b.1 (Nat.le_refl _) (by have:=block_within_two h.heap.lay hb;omega)
   rw [h2] at h1
   exact h.perm.trans h1.symm
theorem StIn.make{X:Nat→Prop}(h:StIn w s F R H P q most last G a ha t v L mem sl Fh){w1 w2 w3:World}{addr n k g:Nat}{mem1:Nat→Nat}(hn:n≤3998)
 (t1:Turn w Fh w1 Fh') (hgot:Got L mem addr (n+2) L' mem1) (o:Opened sl addr k g sl') (hT:HTab w2 t v' most last sl') (t2:Turn w1 (HTabF t v) w2 (HTabF t v'))
 (t3:Turn w2 (fun b=>Fh' b∨X b) w3 (fun b=>Fh' b∨X b)) (hX: ∀b,X b→w.heap.size≤b∧ ¬HTabF t v' b) (hh:HeapIs w3 ha a Fh' L' q (upd (upd mem1 addr (handleN g k)) (addr+1) n)) (hlt1: ∀b,Fh' b→b<w1.heap.size):
 StIn w3 s (fun b=>Fh' b∨HTabF t v' b) (updR R (handleN g k) (some (List.replicate n 0))) (handleN g k::H) (P+pgsN (n+2)) q most last (G+1) a ha t v' L' (upd (upd mem1 addr (handleN g k)) (addr+1) n) sl' Fh' ∧
 Turn w F w3 (fun b=>Fh' b∨HTabF t v' b)∧R (handleN g k)=none:=by
 have hF:=h.F_eq
 subst hF
 have hsF: ¬Fh s:=fun hf=>h.soff (.inl hf)
 have hsT: ¬HTabF t v s:=fun hf=>h.soff (.inr hf)
 have hslt:s<w.heap.size:=cell_lt (a:=⟨s,2,none⟩) h.ca
 have hs1: ¬Fh' s:=t1.not hslt hsF
 have hs2: ¬HTabF t v' s:=t2.not (Nat.lt_of_lt_of_le hslt t1.size) hsT
 have hap: ∀b,Fh' b→ ¬HTabF t v' b:=fun b hf hb=>by
  rcases t2.grow b hb with h1|h1
  · exact t1.not (h.tab.lt h1) (fun hf=>h.apart b hf h1) hf
  · have:=hlt1 b hf;omega
 have hsX: ¬(Fh' s∨X s):=fun hf=>hf.elim hs1 (fun hx=>by have:=(hX s hx).1;omega)
 have h12:=t1.left.trans t2.right
 have ht3:Turn w (fun b=>Fh b∨HTabF t v b) w3 (fun b=>Fh' b∨HTabF t v' b):=
  ⟨t3.os.trans h12.os,t3.tape.trans h12.tape,t3.output.trans h12.output,Nat.le_trans h12.size t3.size,fun k hk hn=>by
   refine(t3.keep k (Nat.lt_of_lt_of_le hk h12.size) (fun hf=> ?_)).trans (h12.keep k hk hn)
   rcases hf with hf|hf
   · exact t1.not hk (fun hh=>hn (.inl hh)) hf
   · have:=(hX k hf).1;omega,h12.grow⟩
 have hb2:=bszN_ge (n+2)
 have hmm: ∀i,i≠addr→i≠addr+1→upd (upd mem1 addr (handleN g k)) (addr+1) n i=mem1 i:=fun i h1 h2=>by
  simp only [upd];rw [if_neg h2,if_neg h1]
 have hnew:(addr,bszN (n+2))∈blocks L' :=hgot.perm.mem_iff.2 List.mem_cons_self
 have hnd:=hgot.perm.nodup_iff.1 (blocks_nodup hh.lay)
 rw [List.nodup_cons] at hnd
 have hold: ∀c∈blocks L,c∈blocks L' ∧ ∀i,c.1≤i→i<c.1+c.2→upd (upd mem1 addr (handleN g k)) (addr+1) n i=mem i:=fun c hc=>by
  have hc' :c∈blocks L' :=hgot.perm.mem_iff.2 (List.mem_cons_of_mem _ hc)
  refine⟨hc',fun i h1 h2=> ?_⟩
  have:=blocks_apart hh.lay hc' hnew
  have hne:c≠(addr,bszN (n+2)):=fun e=>hnd.1 (e▸hc)
  rcases this with h3|h3|h3
  · exact absurd h3 hne
  · simp only at h3
    rw [hmm i (by omega) (by omega)]
    exact hgot.same c hc i h1 h2
  · simp only at h3
    rw [hmm i (by omega) (by omega)]
    exact hgot.same c hc i h1 h2
 have hkl:k<65536:=by
  obtain⟨hk,_⟩:=opened_addr o
  have:=hT.len;have:=hT.m2;omega
 have hfresh: ∀k',¬Names sl (handleN g k) k' :=fun k' n' =>by
  have h3:=handleN_inj hkl (h.k_lt n'.lt) (n'.gen n'.lt)
  have h4:=h3.2
  subst h4
  rcases o.hit with ⟨hk,h0,_,_⟩|⟨rfl,_,_⟩
  · have:=n'.is n'.lt;omega
  · exact absurd n'.lt (Nat.lt_irrefl _)
 have hfH:handleN g k∉H:=fun hm=>by
  obtain⟨k',n'⟩:=(h.inH _).1 hm
  exact hfresh k' n'
 refine⟨{
  ca:=t3.cell (t2.cell (t1.cell h.ca hsF) hsT) hsX
  ch:=t3.cell (t2.cell (t1.cell h.ch hsF) hsT) hsX
  ct:=t3.cell (t2.cell (t1.cell h.ct hsF) hsT) hsX
  heap:=hh
  tab:=hT.turn t3 (fun b hb hf=>hf.elim (fun hf=>hap b hf hb) (fun hf=>(hX b hf).2 hb))
  F_eq:=rfl
  apart:=hap
  soff:=fun hf=>hf.elim hs1 hs2
  haoff:=t2.not (Nat.lt_of_lt_of_le h.heap.off.2.1 t1.size) h.haoff
  tboff:=fun b hb=> ?_
  link:=fun y k' n' => ?_
  inH:=fun y=> ?_
  none' :=fun y hy=> ?_
  perm:= ?_
  nodup:=List.nodup_cons.2 ⟨hfH,h.nodup⟩
  pages:=by have:=hgot.pages;have:=h.pages;omega
  gens:=fun x hx=> ?_
  ret:=fun x hx h2=> ?_ },ht3,h.none' _ hfH⟩
 · rcases t2.grow b hb with h1|h1
   · exact h.tboff b h1
   · have h2:=h.heap.off
     have h3:=h2.2.2.2 a h2.2.2.1
     have h4:=h.heap.lt h2.2.2.1
     have:=t1.size
     omega
 · rcases(names_opened o).1 n' with n1|⟨rfl,rfl⟩
   · have hne:y≠handleN g k:=fun e=>hfresh k' (e▸n1)
     obtain⟨ws,h1,h2⟩:=h.link y k' n1
     obtain⟨hk',he⟩:=opened_old o n1
     refine⟨ws,(updR_other hne).trans h1, ?_⟩
     rw [he]
     exact h2.same (hold _ h2.blk).1 (hold _ h2.blk).2
   · obtain⟨hk',he⟩:=opened_addr o
     refine⟨List.replicate n 0,updR_same _ _ _, ?_⟩
     rw [he]
     refine⟨by rw [List.length_replicate];exact hnew, ?_, ?_,fun i hi=> ?_,by rw [List.length_replicate];exact hn⟩
     · simp only [upd];rw [if_neg (by omega),if_pos trivial]
     · simp only [upd];rw [if_pos trivial,List.length_replicate]
     · rw [List.length_replicate] at hi
       rw [hmm _ (by simp only;omega) (by simp only;omega),List.getElem_replicate]
       exact hgot.zero _ (by simp only;omega) (by simp only;omega)
 · rw [List.mem_cons]
   constructor
   · rintro(rfl|hy)
     · exact⟨k,(names_opened o).2 (.inr ⟨rfl,rfl⟩)⟩
     · obtain⟨k',n'⟩:=(h.inH y).1 hy
       exact⟨k',(names_opened o).2 (.inl n')⟩
   · rintro⟨k',n'⟩
     rcases(names_opened o).1 n' with n1|⟨rfl,rfl⟩
     · exact .inr ((h.inH y).2 ⟨k',n1⟩)
     · exact .inl rfl
 · rw [List.mem_cons,not_or] at hy
   exact(updR_other hy.1).trans (h.none' y hy.2)
 · have h1:((blocks L').map fun b=>upd (upd mem1 addr (handleN g k)) (addr+1) n b.1).Perm (((addr,bszN (n+2))::blocks L).map fun b=>upd (upd mem1 addr (handleN g k)) (addr+1) n b.1):=hgot.perm.map _
   rw [List.map_cons] at h1
   have h2:((blocks L).map fun b=>upd (upd mem1 addr (handleN g k)) (addr+1) n b.1)=(blocks L).map fun b=>mem b.1:=
    List.map_congr_left fun b hb=>(hold b hb).2 b.1 (Nat.le_refl _) (by have:=block_within_two h.heap.lay hb;omega)
   have h3:upd (upd mem1 addr (handleN g k)) (addr+1) n addr=handleN g k:=by simp only [upd];rw [if_neg (by omega),if_pos trivial]
   rw [h2] at h1
   simp only [h3] at h1
   exact(h.perm.cons _).trans h1.symm
 · rcases opened_mem o hx with h1|rfl
   · have:=h.gens x h1;omega
   · exact opened_gen o h.gens
 · rcases opened_mem o hx with h1|rfl
   · exact h.ret x h1 h2
   · cases h2
theorem StIn.drop(h:StIn w s F R H P q most last G a ha t v L mem sl Fh){w1 w2:World}{x k:Nat}{ws:List Nat}(n:Names sl x k)(hR:R x=some ws)(hr:RecAt L mem x (sl[k]'n.lt).addr ws)
 (hh:HeapIs w1 ha a Fh' L' q mem') (t1:Turn w Fh w1 Fh') (hf:Freed L mem ((sl[k]'n.lt).addr,bszN (ws.length+2)) L' mem')
 (hT:HTab w2 t v most last (sl.set k { (sl[k]'n.lt) with is:=closedIs (sl[k]'n.lt).gen last })) (t2:Turn w1 (HTabF t v) w2 (HTabF t v)):
 StIn w2 s (fun b=>Fh' b∨HTabF t v b) (updR R x none) (H.erase x) P q most last G a ha t v L' mem' (sl.set k { (sl[k]'n.lt) with is:=closedIs (sl[k]'n.lt).gen last }) Fh' ∧Turn w F w2 (fun b=>Fh' b∨HTabF t v b):=by
 have hF:=h.F_eq
 subst hF
 have hsF: ¬Fh s:=fun hf=>h.soff (.inl hf)
 have hsT: ¬HTabF t v s:=fun hf=>h.soff (.inr hf)
 have hslt:s<w.heap.size:=cell_lt (a:=⟨s,2,none⟩) h.ca
 have hs1: ¬Fh' s:=t1.not hslt hsF
 have hap: ∀b,Fh' b→ ¬HTabF t v b:=fun b hb ht' =>t1.not (h.tab.lt ht') (fun hf=>h.apart b hf ht') hb
 have hcl:closedIs (sl[k]'n.lt).gen last≠1:=by unfold closedIs;split<;>omega
 have hxH:x∈H:=(h.inH x).2 ⟨k,n⟩
 have hnm: ∀{y k' :Nat},Names (sl.set k { (sl[k]'n.lt) with is:=closedIs (sl[k]'n.lt).gen last }) y k' ↔Names sl y k' ∧k' ≠k:=names_closed n.lt hcl
 have hyx: ∀{y k' :Nat},Names sl y k' →(k' ≠k↔y≠x):=fun {y k'} n' =>by
  constructor
  · intro h1 e;subst e;exact h1 (h.name_inj n' n)
  · intro h1 e;subst e;exact h1 ((n'.gen n'.lt).trans (n.gen n.lt).symm)
 refine⟨{ h with
  ca:=t2.cell (t1.cell h.ca hsF) hsT
  ch:=t2.cell (t1.cell h.ch hsF) hsT
  ct:=t2.cell (t1.cell h.ct hsF) hsT
  heap:=hh.turn t2 hap (fun hf=> ?_) (fun hf=> ?_)
  tab:=hT
  F_eq:=rfl
  apart:=hap
  soff:=fun hf=>hf.elim hs1 hsT
  link:=fun y k' n' => ?_
  inH:=fun y=> ?_
  none' :=fun y hy=> ?_
  perm:= ?_
  nodup:=h.nodup.erase x
  pages:=Nat.le_trans hf.pages h.pages
  gens:=fun z hz=> ?_
  ret:=fun z hz h2=> ?_ },t1.left.trans t2.right⟩
 · exact h.haoff hf
 · exact Nat.lt_irrefl _ (h.tboff _ hf)
 · obtain⟨n1,hne⟩:=hnm.1 n'
   have hy:=(hyx n1).1 hne
   obtain⟨ws',h1,h2⟩:=h.link y k' n1
   refine⟨ws',(updR_other hy).trans h1, ?_⟩
   rw [List.getElem_set_ne (Ne.symm hne)]
   have hb' :((sl[k']'n1.lt).addr,bszN (ws'.length+2))∈blocks L' :=by
    rcases List.mem_cons.1 (hf.perm.mem_iff.1 h2.blk) with h3|h3
    · have:=congrArg Prod.fst h3
      simp only at this
      exact absurd (h2.h0.symm.trans (by rw [this];exact hr.h0)) hy
    · exact h3
   exact h2.same hb' (hf.same _ hb')
 · rw [h.nodup.mem_erase_iff]
   constructor
   · rintro⟨hy,hm⟩
     obtain⟨k',n'⟩:=(h.inH y).1 hm
     exact⟨k',hnm.2 ⟨n',(hyx n').2 hy⟩⟩
   · rintro⟨k',n'⟩
     obtain⟨n1,hne⟩:=hnm.1 n'
     exact⟨(hyx n1).1 hne,(h.inH y).2 ⟨k',n1⟩⟩
 · by_cases hy' :y=x
   · rw [hy',updR_same]
   · refine(updR_other hy').trans (h.none' y (fun hm=>hy ?_))
     exact(h.nodup.mem_erase_iff).2 ⟨hy',hm⟩
 · have h1:((blocks L).map fun b=>mem b.1).Perm (x::((blocks L').map fun b=>mem' b.1)):=by
    have h2:=hf.perm.map (fun b:Nat × Nat=>mem b.1)
    rw [List.map_cons] at h2
    have h3:((blocks L').map fun b=>mem' b.1)=(blocks L').map fun b=>mem b.1:=List.map_congr_left fun b hb=>hf.same b hb b.1 (Nat.le_refl _) (by have:=block_within_two hh.lay hb;omega)
    rw [h3]
    simp only [hr.h0] at h2
    exact h2
   have h4:=h.perm.trans h1
   have h5:=h4.erase x
   rwa [List.erase_cons_head] at h5
 · rcases List.mem_or_eq_of_mem_set hz with h1|rfl
   · exact h.gens z h1
   · exact h.gens (sl[k]'n.lt) (List.getElem_mem n.lt)
 · rcases List.mem_or_eq_of_mem_set hz with h1|rfl
   · exact h.ret z h1 h2
   · simp only at h2
     unfold closedIs at h2
     split at h2
     · assumption
     · cases h2
end
end Go.Proofs.YthcmecokejemcaaGreatDoor
