/-
  The seat's own texts, part g: Slab3.
-/
import Derived.Test.YthcmecokejemcaaGreatDoorWMf
import Derived.Shelf.SlIterI.Nil
import Derived.Shelf.SortM.Plain
import Derived.Shelf.SortM.SortNone
import Derived.Ground.GgzProg
import Derived.Ground.SlgmProg
set_option linter.unusedSimpArgs false
set_option linter.unusedVariables false
set_option maxHeartbeats 1000000
namespace Go.Proofs.YthcmecokejemcaaGreatDoor
open Go.RowKit Go.Shelf Go.Maps Go.Sort
def Tryz.keysA_ren:Go.Shelf.Ren:=⟨fun|7=>115|10=>134|n=>n,fun|23=>115|26=>3|3=>177|28=>182|0=>0|27=>181|33=>103|4=>4|n=>n,fun|n=>n⟩
theorem Tryz.keysA:Go.Proofs.SlLaysZI.n7 Tryz.prog Tryz.keysA_ren:={
 mixed:=by kernel_rfl
 f7:=⟨Tryz.f115.name,by decide,Tryz.func115.trans (congrArg some (by kernel_rfl))⟩
 f10:=⟨Tryz.f134.name,by decide,Tryz.func134.trans (congrArg some (by kernel_rfl))⟩
 t0:=Tryz.underlying0
 a0:=Tryz.isAgg0
 z0:=Tryz.sizeOf0
 v0:=Tryz.zeroValue0
 t4:=Tryz.underlying4
 a4:=Tryz.isAgg4
 z4:=Tryz.sizeOf4
 v4:=Tryz.zeroValue4
 t23:=Tryz.underlying115
 a23:=Tryz.isAgg115
 z23:=Tryz.sizeOf115
 v23:=Tryz.zeroValue115
 t26:=Tryz.underlying3
 a26:=Tryz.isAgg3
 z26:=Tryz.sizeOf3
 v26:=Tryz.zeroValue3
 t27:=Tryz.underlying181
 a27:=Tryz.isAgg181
 z27:=Tryz.sizeOf181
 v27:=Tryz.zeroValue181
 t28:=Tryz.underlying182
 a28:=Tryz.isAgg182
 z28:=Tryz.sizeOf182
 v28:=Tryz.zeroValue182
 t33:=Tryz.underlying103
 a33:=Tryz.isAgg103
 z33:=Tryz.sizeOf103
 v33:=Tryz.zeroValue103 }
def Tryz.sortedA_ren:Go.Shelf.Ren:=⟨fun|6=>114|8=>132|9=>133|11=>152|13=>123|12=>153|23=>146|24=>147|14=>162|15=>163|16=>164|17=>165|18=>166|19=>167|20=>168|21=>169|22=>170|25=>173|26=>155|27=>156|28=>174|29=>175|30=>176|31=>177|n=>n,fun|26=>3|28=>182|24=>112|0=>0|3=>3|37=>184|48=>29|50=>22|4=>4|40=>209|39=>208|45=>124|5=>5|9=>9|51=>223|55=>96|57=>235|58=>236|33=>103|n=>n,fun|n=>n⟩
theorem Tryz.sortedA:Go.Proofs.SlLaysZI.n6 Tryz.prog Tryz.sortedA_ren:={
 mixed:=by kernel_rfl
 f6:=⟨Tryz.f114.name,by decide,Tryz.func114.trans (congrArg some (by kernel_rfl))⟩
 f8:=⟨Tryz.f132.name,by decide,Tryz.func132.trans (congrArg some (by kernel_rfl))⟩
 f11:=⟨Tryz.f152.name,by decide,Tryz.func152.trans (congrArg some (by kernel_rfl))⟩
 t0:=Tryz.underlying0
 a0:=Tryz.isAgg0
 z0:=Tryz.sizeOf0
 v0:=Tryz.zeroValue0
 t24:=Tryz.underlying112
 a24:=Tryz.isAgg112
 z24:=Tryz.sizeOf112
 v24:=Tryz.zeroValue112
 t26:=Tryz.underlying3
 a26:=Tryz.isAgg3
 z26:=Tryz.sizeOf3
 v26:=Tryz.zeroValue3
 t28:=Tryz.underlying182
 a28:=Tryz.isAgg182
 z28:=Tryz.sizeOf182
 v28:=Tryz.zeroValue182
 i26:=by kernel_rfl }
def Tryz.sortA_ren:Go.Shelf.Ren:=⟨fun|5=>133|8=>123|7=>153|19=>146|20=>147|10=>162|11=>163|12=>164|13=>165|14=>166|15=>167|16=>168|17=>169|18=>170|30=>173|31=>155|32=>156|33=>174|34=>175|35=>176|40=>177|n=>n,fun|23=>112|25=>3|3=>3|32=>184|22=>112|0=>0|44=>29|46=>22|4=>4|36=>209|35=>208|41=>124|5=>5|9=>9|53=>223|57=>96|63=>235|64=>236|n=>n,fun|n=>n⟩
theorem Tryz.sortA:Go.Proofs.SlLaysM.n5 Tryz.prog Tryz.sortA_ren:={
 mixed:=by kernel_rfl
 f5:=⟨Tryz.f133.name,by decide,Tryz.func133.trans (congrArg some (by kernel_rfl))⟩
 f7:=⟨Tryz.f153.name,by decide,Tryz.func153.trans (congrArg some (by kernel_rfl))⟩
 f8:=Tryz.func123.trans (congrArg some (by kernel_rfl))
 f10:=⟨Tryz.f162.name,by decide,Tryz.func162.trans (congrArg some (by kernel_rfl))⟩
 f11:=⟨Tryz.f163.name,by decide,Tryz.func163.trans (congrArg some (by kernel_rfl))⟩
 f12:=⟨Tryz.f164.name,by decide,Tryz.func164.trans (congrArg some (by kernel_rfl))⟩
 f13:=⟨Tryz.f165.name,by decide,Tryz.func165.trans (congrArg some (by kernel_rfl))⟩
 f14:=⟨Tryz.f166.name,by decide,Tryz.func166.trans (congrArg some (by kernel_rfl))⟩
 f15:=⟨Tryz.f167.name,by decide,Tryz.func167.trans (congrArg some (by kernel_rfl))⟩
 f16:=⟨Tryz.f168.name,by decide,Tryz.func168.trans (congrArg some (by kernel_rfl))⟩
 f17:=⟨Tryz.f169.name,by decide,Tryz.func169.trans (congrArg some (by kernel_rfl))⟩
 f18:=⟨Tryz.f170.name,by decide,Tryz.func170.trans (congrArg some (by kernel_rfl))⟩
 f19:=Tryz.func146.trans (congrArg some (by kernel_rfl))
 f20:=Tryz.func147.trans (congrArg some (by kernel_rfl))
 f30:=⟨Tryz.f173.name,by decide,Tryz.func173.trans (congrArg some (by kernel_rfl))⟩
 f31:=Tryz.func155.trans (congrArg some (by kernel_rfl))
 f32:=Tryz.func156.trans (congrArg some (by kernel_rfl))
 f33:=⟨Tryz.f174.name,by decide,Tryz.func174.trans (congrArg some (by kernel_rfl))⟩
 f34:=⟨Tryz.f175.name,by decide,Tryz.func175.trans (congrArg some (by kernel_rfl))⟩
 f35:=⟨Tryz.f176.name,by decide,Tryz.func176.trans (congrArg some (by kernel_rfl))⟩
 f40:=⟨Tryz.f177.name,by decide,Tryz.func177.trans (congrArg some (by kernel_rfl))⟩
 t0:=Tryz.underlying0
 a0:=Tryz.isAgg0
 z0:=Tryz.sizeOf0
 v0:=Tryz.zeroValue0
 t3:=Tryz.underlying3
 a3:=Tryz.isAgg3
 z3:=Tryz.sizeOf3
 v3:=Tryz.zeroValue3
 t4:=Tryz.underlying4
 a4:=Tryz.isAgg4
 z4:=Tryz.sizeOf4
 v4:=Tryz.zeroValue4
 t5:=Tryz.underlying5
 a5:=Tryz.isAgg5
 z5:=Tryz.sizeOf5
 v5:=Tryz.zeroValue5
 t9:=Tryz.underlying9
 a9:=Tryz.isAgg9
 z9:=Tryz.sizeOf9
 v9:=Tryz.zeroValue9
 t22:=Tryz.underlying112
 a22:=Tryz.isAgg112
 z22:=Tryz.sizeOf112
 v22:=Tryz.zeroValue112
 t23:=Tryz.underlying112
 a23:=Tryz.isAgg112
 z23:=Tryz.sizeOf112
 v23:=Tryz.zeroValue112
 t25:=Tryz.underlying3
 a25:=Tryz.isAgg3
 z25:=Tryz.sizeOf3
 v25:=Tryz.zeroValue3
 t32:=Tryz.underlying184
 a32:=Tryz.isAgg184
 z32:=Tryz.sizeOf184
 v32:=Tryz.zeroValue184
 t35:=Tryz.underlying208
 a35:=Tryz.isAgg208
 z35:=Tryz.sizeOf208
 v35:=Tryz.zeroValue208
 t36:=Tryz.underlying209
 a36:=Tryz.isAgg209
 z36:=Tryz.sizeOf209
 v36:=Tryz.zeroValue209
 t41:=Tryz.underlying124
 a41:=Tryz.isAgg124
 z41:=Tryz.sizeOf124
 v41:=Tryz.zeroValue124
 t44:=Tryz.underlying29
 a44:=Tryz.isAgg29
 z44:=Tryz.sizeOf29
 v44:=Tryz.zeroValue29
 t46:=Tryz.underlying22
 a46:=Tryz.isAgg22
 z46:=Tryz.sizeOf22
 v46:=Tryz.zeroValue22
 t53:=Tryz.underlying223
 a53:=Tryz.isAgg223
 z53:=Tryz.sizeOf223
 v53:=Tryz.zeroValue223
 t57:=Tryz.underlying96
 a57:=Tryz.isAgg96
 z57:=Tryz.sizeOf96
 v57:=Tryz.zeroValue96
 t63:=Tryz.underlying235
 a63:=Tryz.isAgg235
 z63:=Tryz.sizeOf235
 v63:=Tryz.zeroValue235
 t64:=Tryz.underlying236
 a64:=Tryz.isAgg236
 z64:=Tryz.sizeOf236
 v64:=Tryz.zeroValue236 }
theorem sortsA(m:Nat):AnyZI.SortsIn Tryz.prog Tryz.sortedA_ren Fence.wide m:=
 ⟨fun blk off cap ss W hH hblk hsz=>callsIn_wide.2 (AnyM.slices_Sort_int Tryz.sortA blk off cap ss W hH hblk hsz),
  fun p cap W=>callsIn_wide.2 (AnyM.slices_Sort_int_none Tryz.sortA p cap W)⟩
set_option maxRecDepth 100000 in
theorem pages_at{w:World}{a mb q:Nat}{D:DW}{ps:List Nat}{mem:Nat→Nat}(h:SlabAt w a mb D ps q mem):
 Calls Tryz.prog 84 #[.pointer (some ⟨a,0,none⟩)] w fun e w' => ∃(v:Value) (ss:List Int),e= .returned v∧ss.Perm (intKeys D)∧
  w'.ownsRow w.heap.size 3 1 v ss.length ((ss.mergeSort (fun x y=>decide (x≤y))).map encZ)∧(v= .slice none 0 0↔ss= [])∧Below w.heap.size w w' :=by
 refine(callsIn_wide (n:=6)).1 ?_
 have hown:=h.own
 have hbl:=hown.lt
 have hmax:Maps.size D≤maxLen:=by have:=h.room;have:=h.quota;unfold maxLen;omega
 have hbytes:Maps.size D*8≤140737488355328:=by have:=h.room;have:=h.quota;omega
 have hseq:SeqGives Fence.wide 2 Tryz.prog 134 #[.pointer (some ⟨w.heap.size,0,none⟩)] encZ (fun ss=>ss.Perm (intKeys D)) (Maps.size D) (w.alloc (.cells #[.map (some mb)] 115)):=
  AnyZI.keys_gives (ρ:=Tryz.keysA_ren) { Tryz.keysA with } Fence.wide _ trivial rfl (by omega) w.heap.size mb _ D _ (by simp) (by simp) (by
   obtain⟨es,clock,hb,Ft,hs,hD⟩:=hown
   exact⟨es,clock,(Below.heap_alloc _ _ mb hbl).trans hb,Ft,hs,hD⟩)
 have cK: ∀mb W,CallsIn Fence.wide 5 Tryz.prog 115 #[.map mb] W fun e w' =>e= .returned (.func (.func 134) #[] #[.pointer (some ⟨W.heap.size,0,none⟩)])∧w' =W.alloc (.cells #[.map mb] 115):=fun mb W=>AnyZI.keys_in Tryz.keysA Fence.wide 5 trivial rfl mb W
 have cS:=AnyZI.sorted_in Tryz.sortedA Fence.wide 5 trivial trivial trivial trivial rfl (by omega) (sortsA _) (enters_of Tryz.func133 (by kernel_rfl) rfl) 134 #[.pointer (some ⟨w.heap.size,0,none⟩)] trivial (enters_of Tryz.func134 (by kernel_rfl) rfl) _ _ hmax hbytes _ hseq
 change CallsIn _ _ Tryz.prog 114 _ _ _ at cS
 have hN:=callsIn_wide (n:=5) |>.2 (slabNone_at h)
 have hcm:=h.cm
 have hfK:Fence.wide.fn 115:=trivial
 have hfS:Fence.wide.fn 114:=trivial
 have hNH:=Lib.hid hN
 have hfN:Fence.wide.fn 110:=trivial
 clear h hmax hbytes hbl hown hN
 refine callsIn_of_wp Tryz.func84 rfl trivial ?_ rfl
 simp only [Tryz.ntmps84,List.size_toArray,List.length_cons,List.length_nil,Nat.reduceAdd,Nat.reduceSub,Array.replicate_succ,Array.replicate_zero,List.push_toArray,List.append_toArray,List.nil_append,List.cons_append]
 gi_wp2_with (first
  |(gi_at_call 110;refine hNH.out.mono ?_;rintro e w' ⟨rfl,rfl⟩)
  |(gi_at_call 115;refine(cK _ _).mono ?_;rintro e w' ⟨rfl,rfl⟩)
  |(gi_at_call 114;refine cS.mono ?_;rintro e w' ⟨v,ss,rfl,hS,hrow,hnil,hb⟩))
 go_ret
 exact⟨v,ss,rfl,hS,ownsRow_base_a hrow (by simp),hnil,((Below.refl _ w).alloc (Nat.le_refl _) _).trans (hb.mono (by simp))⟩
theorem has_iff{w:World}{a mb q:Nat}{D:DW}{ps:List Nat}{mem:Nat→Nat}(h:SlabAt w a mb D ps q mem)(x:Int):Maps.has D (.int .i64 x)=true↔ ∃k∈ps,x=(k:Nat):=by
 rw [←h.pages x]
 refine⟨h.full x,fun hh=> ?_⟩
 cases hs:Maps.has D (.int .i64 x) with
 |true=>rfl
 |false=>exact absurd (by unfold pgOf;rw [Maps.atKey_of_not_has hs];rfl) hh
theorem pages_sorted{w:World}{a mb q:Nat}{D:DW}{ps:List Nat}{mem:Nat→Nat}(h:SlabAt w a mb D ps q mem)(hr:ps.Pairwise (· < ·)){ss:List Int}(hp:ss.Perm (intKeys D)):
 ss.length=ps.length∧(ss.mergeSort (fun x y=>decide (x≤y))).map encZ=ps.map fun p:Nat=>Value.int .i64 (p:Int):=by
 obtain⟨es,rfl,hpw⟩:=World.ownsMap.tidy h.own keyedInt
 have h1:(ps.map fun p:Nat=>(p:Int)).Perm (intKeys (.map es)):=by
  refine perm_intKeys hpw ?_ ?_ ?_
  · intro p hp
    obtain⟨x,hx⟩:=h.keys p.1 (by
     rw [Maps.has_eq,List.any_eq_true]
     refine⟨p,hp, ?_⟩
     obtain⟨es',e1,e2,e3⟩:=World.ownsMap.entries h.own keyedInt
     cases e1
     exact WideAt.sameKey_self (e3 p hp))
    exact⟨x,hx⟩
  · refine List.Pairwise.imp (S:=fun a b=>a≠b) (fun hab=> ?_) ((List.pairwise_map.2 (hr.imp (S:=fun(a b:Nat)=>(a:Int)<(b:Int)) (fun hab=>by omega))))
    omega
  · intro x
    rw [has_iff h x]
    simp only [List.mem_map]
    exact⟨fun⟨k,hk,e⟩=>⟨k,hk,e.symm⟩,fun⟨k,hk,e⟩=>⟨k,hk,e.symm⟩⟩
 have h2:ss.Perm (ps.map fun p:Nat=>(p:Int)):=hp.trans h1.symm
 have h3:ss.mergeSort (fun x y=>decide (x≤y))=ps.map fun p:Nat=>(p:Int):=by
  refine List.Perm.eq_of_pairwise (le:=fun x y=>x≤y) (fun a b _ _ h1 h2=>by omega) ?_ ?_ ((List.mergeSort_perm _ _).trans h2)
  · have:=List.pairwise_mergeSort (le:=fun x y:Int=>decide (x≤y)) (fun a b c h1 h2=>by simp at *; omega) (fun a b=>by simp;omega) ss
    exact this.imp (fun hab=>by simpa using hab)
  · exact List.pairwise_map.2 (hr.imp (fun hab=>by omega))
 refine⟨by rw [h2.length_eq,List.length_map], ?_⟩
 rw [h3,List.map_map]
 rfl
theorem pages_row{w:World}{a mb q:Nat}{D:DW}{ps:List Nat}{mem:Nat→Nat}(h:SlabAt w a mb D ps q mem)(hr:ps.Pairwise (· < ·)):
 Calls Tryz.prog 84 #[.pointer (some ⟨a,0,none⟩)] w fun e w' => ∃v,e= .returned v∧w'.ownsRow w.heap.size 3 1 v ps.length (ps.map fun p:Nat=>Value.int .i64 (p:Int))∧Below w.heap.size w w' :=
 (pages_at h).mono fun e w' ⟨v,ss,he,hp,hrow,_,hb⟩=>by
  obtain⟨h1,h2⟩:=pages_sorted h hr hp
  rw [h1,h2] at hrow
  exact⟨v,he,hrow,hb⟩
theorem slab_new(w:World)(q:Nat)(hq:q≤262144)(t:TypeId):SlabAt ((w.alloc (.map #[] 0)).alloc (.cells #[.int .i64 (q:Nat), .map (some w.heap.size)] t)) (w.heap.size+1) w.heap.size (.map []) [] q (fun _=>0):=by
 have hno: ∀p:Int,pgOf (.map []) p=none:=fun p=>rfl
 refine⟨?_, ?_, ?_, ?_, ?_,List.Pairwise.nil,rfl, ?_, ?_,hq,by simp, ?_, ?_, ?_,fun _=>by omega⟩
 · go_simp
 · go_simp
 · exact(World.ownsMap_made w _ _ _).alloc _
 · simp [Maps.size]
 · intro p;rw [hno];simp
 · intro p h;simp [Maps.has] at h
 · intro k h;simp [Maps.has] at h
 · intro p g h;rw [hno] at h;cases h
 · intro p p' g h;rw [hno] at h;cases h
 · intro p g h;rw [hno] at h;cases h
set_option maxRecDepth 100000 in
theorem slabNew_at(q:Nat)(hq:q≤262144)(w:World):
 Calls Tryz.prog 22 #[.int .i64 (q:Nat)] w fun e w' => ∃a mb,e= .returned (.tuple #[.pointer (some ⟨a,0,none⟩), .int .i64 0])∧SlabAt w' a mb (.map []) [] q (fun _=>0)∧w.heap.size≤a∧w.heap.size≤mb∧Below w.heap.size w w' :=by
 have d1:decide ((q:Int)<0)=false:=by simp
 have d2:decide ((262144:Int)<(q:Int))=false:=by simp;omega
 have hmk:=fun w=>run_makeMap (P:=Tryz.prog) 115 w
 go_enter Tryz.func22,Tryz.ntmps22
 go_wp2
 go_ret2
 exact⟨w.heap.size+1,w.heap.size,rfl,slab_new w q hq _,by omega,Nat.le_refl _,((Below.refl _ w).alloc (Nat.le_refl _) _).alloc (by simp) _⟩
def Sh(w:World)(D:DW)(w' :World)(D' :DW)(mb:Nat):Prop:=w.mapTurned w' mb∧ ∀p g:Nat,pgOf D' (p:Nat)=some g→pgOf D (p:Nat)=some g
theorem SlabAt.drop1{w:World}{a mb q:Nat}{D:DW}{ps:List Nat}{mem:Nat→Nat}{p n:Nat}(h:SlabAt w a mb D (p::ps) q mem){w' :World}
 (hown:PageMap w' mb n (D.del (.int .i64 (p:Nat)))) (hturn:w.mapTurned w' mb):SlabAt w' a mb (D.del (.int .i64 (p:Nat))) ps q mem∧Sh w D w' (D.del (.int .i64 (p:Nat))) mb:=by
 have ham:=map_block_ne h.own h.cq
 have htidy:Maps.Tidy D:=World.ownsMap.tidy h.own keyedInt
 have hgr:=hturn.grown
 have hblk: ∀k,k<w.heap.size→k≠mb→w'.heap[k]? =w.heap[k]? :=fun k hk hne=>hgr.block k hk (by simpa using hne)
 have hdel: ∀x:Int,pgOf (D.del (.int .i64 (p:Nat))) x=if x=(p:Nat) then none else pgOf D x:=fun x=>pgOf_del _ _
 have hold: ∀x g:Nat,pgOf (D.del (.int .i64 (p:Nat))) (x:Nat)=some g→pgOf D (x:Nat)=some g:=fun x g hg=>by
  rw [hdel] at hg
  by_cases hx:(x:Int)=(p:Nat)
  · rw [if_pos hx] at hg;cases hg
  · rwa [if_neg hx] at hg
 have hhas:Maps.has D (.int .i64 (p:Nat))=true:=(has_iff h _).2 ⟨p,by simp,rfl⟩
 have hnd:=List.nodup_cons.1 h.nodup
 have hsz:Maps.size (D.del (.int .i64 (p:Nat)))=ps.length:=by
  have h1:=Maps.size_del (k:= .int .i64 (p:Nat)) htidy
  rw [hhas,if_pos rfl,h.count,List.length_cons] at h1
  omega
 refine⟨⟨?_, ?_,hown.tight, ?_, ?_,hnd.2,hsz, ?_, ?_,h.quota, ?_, ?_, ?_, ?_,h.word⟩,hturn,hold⟩
 · exact(World.cell?_of_block (a:=⟨a,0,none⟩) (hblk a (cell_lt (a:=⟨a,0,none⟩) h.cq) ham)).trans h.cq
 · exact(World.cell?_of_block (a:=⟨a,1,none⟩) (hblk a (cell_lt (a:=⟨a,0,none⟩) h.cq) ham)).trans h.cm
 · have:=h.room;rw [h.count,List.length_cons] at this;rw [hsz];omega
 · intro x
   rw [hdel]
   by_cases hx:x=(p:Nat)
   · rw [if_pos hx]
     refine⟨fun hh=>absurd rfl hh, ?_⟩
     rintro⟨k,hk,rfl⟩
     obtain rfl:k=p:=by omega
     exact absurd hk hnd.1
   · rw [if_neg hx,h.pages x]
     constructor
     · rintro⟨k,hk,rfl⟩
       rcases List.mem_cons.1 hk with rfl|h1
       · exact absurd rfl hx
       · exact⟨k,h1,rfl⟩
     · rintro⟨k,hk,rfl⟩
       exact⟨k,List.mem_cons_of_mem _ hk,rfl⟩
 · intro x hx
   by_cases hxp:x=(p:Nat)
   · subst hxp;rw [Maps.has_del_same] at hx;cases hx
   · rw [Maps.has_del_other (by simpa using hxp)] at hx
     rw [hdel,if_neg hxp]
     exact h.full x hx
 · intro k hk
   by_cases hkp:k= .int .i64 (p:Nat)
   · exact⟨_,hkp⟩
   · rw [Maps.has_del_other hkp] at hk
     exact h.keys k hk
 · intro x hx;exact h.low x (List.mem_cons_of_mem _ hx)
 · intro x g hg k hk
   have hg' :=hold x g hg
   have hw:=h.words x g hg' k hk
   have hb:=hblk g (cell_lt (a:=⟨g,k,none⟩) hw.1) (map_block_ne h.own hw.1)
   exact⟨(World.cell?_of_block (a:=⟨g,k,none⟩) hb).trans hw.1,(World.frozen?_of_block (a:=⟨g,k,none⟩) hb).trans hw.2⟩
 · intro x x' g hg hg';exact h.inj x x' g (hold _ _ hg) (hold _ _ hg')
 · intro x g hg;exact h.off x g (hold _ _ hg)
theorem Sh.refl{w:World}{a mb q:Nat}{D:DW}{ps:List Nat}{mem:Nat→Nat}(h:SlabAt w a mb D ps q mem):Sh w D w D mb:=⟨World.ownsMap.turned_refl h.own,fun _ _ h=>h⟩
theorem Sh.trans{w w1 w2:World}{D D1 D2:DW}{mb:Nat}(h:Sh w D w1 D1 mb)(k:Sh w1 D1 w2 D2 mb):Sh w D w2 D2 mb:=⟨h.1.trans k.1,fun p g hp=>h.2 p g (k.2 p g hp)⟩
set_option maxRecDepth 100000 in
theorem release_at{w:World}{a mb q:Nat}{D:DW}{ps:List Nat}{mem:Nat→Nat}(f n:Nat)(h:SlabAt w a mb D (List.range' f n++ps) q mem)(hn:1≤n)(hn2:n≤4096):
 Calls Tryz.prog 117 #[.pointer (some ⟨a,0,none⟩), .int .i64 (f:Nat), .int .i64 (n:Nat)] w fun e w' => ∃D',e= .returned (.int .i64 0)∧SlabAt w' a mb D' ps q mem∧Sh w D w' D' mb:=by
 have hcm:=h.cm
 have hown:=h.own
 have hN:=Lib.hid (slabNone_at h)
 have hlow:=h.low (f+(n-1)) (List.mem_append_left _ (by rw [List.mem_range'_1];omega))
 have d1:decide ((n:Int)<1)=false:=by simp;omega
 have d2:decide ((4096:Int)<(n:Int))=false:=by simp;omega
 have d3:decide ((f:Int)<0)=false:=by simp
 have d4:decide ((1048575:Int)-(n:Int)+1<(f:Int))=false:=by simp;omega
 have hH:=Lib.hid h
 clear h
 go_enter Tryz.func117,Tryz.ntmps117
 go_wp2_with (go_at_call 110;refine hN.out.mono ?_;rintro e w' ⟨rfl,rfl⟩)
 clear d1 d2 d3 d4 hN
 go_loopw [31] (fun kv wr=> ∃k:Nat,k≤n∧kv= .int .i64 k∧wr=w) (fun kv _=>n-(intOf kv).toNat)
 case atStart=>exact⟨0,by omega,rfl,rfl⟩
 case round=>
  obtain⟨k,hk,rfl,hwr⟩:=hrel
  subst hwr
  by_cases hkn:k<n
  · obtain⟨g,hg⟩:=hH.out.page (p:=f+k) (List.mem_append_left _ (by rw [List.mem_range'_1];omega))
    have hgH:=Lib.hid hg
    clear hg
    go_wp2_with (at_lookup;refine wpList_look_page _ rfl _ _ rfl mb _ D rfl hown ((f:Int)+(k:Int)) rfl (by omega) (by omega) ?_;rw [show(f:Int)+(k:Int)=((f+k:Nat):Int) by push_cast;rfl,hgH.out];dsimp only [pgV])
    go_roundw
    case rel=>exact⟨k+1,by omega,by go_num,by trivial⟩
    case measure=>simp [intOf];omega
  · obtain rfl:k=n:=by omega
    obtain⟨wo,rfl⟩: ∃wo:World,wo=wr:=⟨_,rfl⟩
    go_wp2
    go_loopw [45] (fun jv wj=> ∃j:Nat,j≤k∧jv= .int .i64 j∧ ∃D',SlabAt wj a mb D' (List.range' (f+j) (k-j)++ps) q mem∧Sh wo D wj D' mb) (fun jv _=>k-(intOf jv).toNat)
    case atStart=>exact⟨0,by omega,rfl,D,hH.out,Sh.refl hH.out⟩
    case round=>
     obtain⟨j,hj,rfl,D',hS,hSh⟩:=hrel
     by_cases hjk:j<k
     · have hm:=hS.own
       have hcm2:=hS.cm
       have hSH:=Lib.hid hS
       have hGH:=Lib.hid hSh
       clear hS hSh hcm hown
       go_wp2_with (at_delete;refine wpList_delete_own _ rfl _ _ 115 3 rfl 177 keyedInt Tryz.underlying115 pageElem mb _ D' rfl hm _ (.int .i64 ((f+j:Nat):Int)) rfl (keyInt (p:=((f+j:Nat):Int)) (by omega) (by omega)) ?_;intro w1 hown1 hturn1)
       have hS2:=hSH.out
       rw [show k-j=(k-(j+1))+1 by omega,List.range'_succ,List.cons_append] at hS2
       have hd1:=hS2.drop1 hown1 hturn1
       go_wp2
       go_roundw
       case rel=>exact⟨j+1,by omega,by go_num,_,hd1.1,hGH.out.trans hd1.2⟩
       case measure=>simp [intOf];omega
     · obtain rfl:j=k:=by omega
       have hSH:=Lib.hid hS
       have hGH:=Lib.hid hSh
       clear hS hSh hcm hown
       go_wp2
       go_ret
       exact⟨D',rfl,by simpa using hSH.out,hGH.out⟩
end Go.Proofs.YthcmecokejemcaaGreatDoor
