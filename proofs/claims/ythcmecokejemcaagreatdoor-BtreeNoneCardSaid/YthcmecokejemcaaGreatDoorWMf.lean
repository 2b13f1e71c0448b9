/-
  The seat's own texts, part f: Slab2.
-/
import Derived.Test.YthcmecokejemcaaGreatDoorWMa
import Derived.Test.YthcmecokejemcaaGreatDoorWMe
import Derived.WalkMore
set_option linter.unusedSimpArgs false
set_option linter.unusedVariables false
set_option maxHeartbeats 1000000
namespace Go.Proofs.YthcmecokejemcaaGreatDoor
open Go.RowKit Go.Shelf
def cntB(ps:List Nat)(f:Nat):Nat:=ps.countP fun p=>decide (p<f)
theorem cntB_le(ps:List Nat)(f:Nat):cntB ps f≤ps.length:=List.countP_le_length
theorem cntB_mono(ps:List Nat){f f' :Nat}(h:f≤f'):cntB ps f≤cntB ps f' :=by
 unfold cntB
 refine List.countP_mono_left fun p _ hp=> ?_
 simp at hp ⊢;omega
theorem cntB_step(ps:List Nat){f f' p:Nat}(h1:f≤p)(h2:p<f')(hp:p∈ps):cntB ps f+1≤cntB ps f' :=by
 induction ps with
 |nil=>simp at hp
 |cons a t ih=>
  have hm:=cntB_mono t (show f≤f' by omega)
  unfold cntB at*
  rw [List.countP_cons,List.countP_cons]
  rcases List.mem_cons.1 hp with rfl|hp
  · rw [decide_eq_false (by omega),decide_eq_true h2];simp;omega
  · have:=ih hp
    by_cases ha:a<f
    · rw [decide_eq_true ha,decide_eq_true (show a<f' by omega)];simp;omega
    · rw [decide_eq_false ha];simp;omega
theorem drewN_below(w:World)(k:Nat):Below w.heap.size w (w.drewN k):=⟨rfl,rfl,rfl,Nat.le_refl _,fun _ _=>rfl⟩
theorem SlabAt.drew{w:World}{a mb q d:Nat}{D:DW}{ps:List Nat}{mem:Nat→Nat}(h:SlabAt w a mb D ps q mem):SlabAt (w.drewN d) a mb D ps q mem:=
 h.below (drewN_below w d) (fun b hb=>h.lt hb)
set_option maxRecDepth 100000 in
theorem grant_full{w:World}{a mb q:Nat}{D:DW}{ps:List Nat}{mem:Nat→Nat}(h:SlabAt w a mb D ps q mem)(n:Nat)(hn:1≤n)(hn2:n≤4096)(hq:q<(ps.length+n)*64):
 Calls Tryz.prog 125 #[.pointer (some ⟨a,0,none⟩), .int .i64 (n:Nat)] w fun e w' =>e= .returned (.tuple #[.int .i64 0, .int .i64 3])∧ ∃d,w' =w.drewN d:=by
 have hcm:=h.cm
 have hcq:=h.cq
 have hN:=Lib.hid (slabNone_at h)
 have hlen: ∀d,(Builtin.len_ #[115] 3 #[.map (some mb)]).run Tryz.prog (w.drewN d)= .ok (.int .i64 (ps.length:Nat)) (w.drewN d):=fun d=>by
  have:=(h.drew (d:=d)).own.len Tryz.underlying115 3
  rwa [h.count] at this
 have hroom:=h.room
 have hquota:=h.quota
 rw [h.count] at hroom
 have d1:decide ((n:Int)<1)=false:=by simp;omega
 have d2:decide ((4096:Int)<(n:Int))=false:=by simp;omega
 have d3:decide ((q:Int)<((ps.length:Int)+(n:Int))*64)=true:=by simp;omega
 clear h
 go_enter Tryz.func125,Tryz.ntmps125
 go_wp2
 go_step3
 go_wp2_with (go_at_call 110;refine hN.out.mono ?_;rintro e w' ⟨rfl,rfl⟩)
 go_quiet (fail)
 go_wp2
 rw [Exit.noGoto_ret]
 go_ret2
 exact⟨rfl,_,rfl⟩
def Gr(w:World)(D:DW)(w' :World)(D' :DW)(mb:Nat):Prop:=w.grownBy w' (some mb)∧ ∀p g:Nat,pgOf D' (p:Nat)=some g→pgOf D (p:Nat)=some g∨w.heap.size≤g
theorem Gr.refl(w:World)(D:DW)(mb:Nat):Gr w D w D mb:=⟨⟨rfl,rfl,rfl,Nat.le_refl _,fun _ _ _=>rfl⟩,fun _ _ h=> .inl h⟩
theorem Gr.trans{w w1 w2:World}{D D1 D2:DW}{mb:Nat}(h:Gr w D w1 D1 mb)(k:Gr w1 D1 w2 D2 mb):Gr w D w2 D2 mb:=by
 refine⟨⟨k.1.os.trans h.1.os,k.1.tape.trans h.1.tape,k.1.output.trans h.1.output,Nat.le_trans h.1.size k.1.size,fun i hi hne=>(k.1.block i (Nat.lt_of_lt_of_le hi h.1.size) hne).trans (h.1.block i hi hne)⟩,fun p g hp=> ?_⟩
 rcases k.2 p g hp with h1|h1
 · exact h.2 p g h1
 · exact .inr (Nat.le_trans h.1.size h1)
def zeroP(mem:Nat→Nat)(f j:Nat):Nat→Nat:=fun x=>if f≤x/64∧x/64<f+j then 0 else mem x
theorem zeroP_zero(mem:Nat→Nat)(f:Nat):zeroP mem f 0=mem:=by funext x;unfold zeroP;rw [if_neg (by omega)]
theorem zeroP_succ(mem:Nat→Nat)(f j:Nat):zeroP (zeroP mem f j) (f+j) 1=zeroP mem f (j+1):=by
 funext x
 unfold zeroP
 by_cases h1:f+j≤x/64∧x/64<f+j+1
 · rw [if_pos h1,if_pos (by omega)]
 · rw [if_neg h1]
   by_cases h2:f≤x/64∧x/64<f+j
   · rw [if_pos h2,if_pos (by omega)]
   · rw [if_neg h2,if_neg (by omega)]
theorem map_block_ne{w:World}{a mb n:Nat}{D:DW}{v:Value}(h:PageMap w mb n D){k:Nat}(hc:w.cell? ⟨a,k,none⟩=some v):a≠mb:=by
 rintro rfl
 obtain⟨es,clock,hb,_⟩:=h
 unfold World.cell? at hc
 simp [hb] at hc
theorem SlabAt.grant1{w:World}{a mb q:Nat}{D:DW}{ps:List Nat}{mem:Nat→Nat}(h:SlabAt w a mb D ps q mem){p:Nat}(hp:p∉ps)(hp2:p<524288)(hroom:(ps.length+1)*64≤q){t:TypeId}{n:Nat}{w' :World}
 (hown:PageMap w' mb n (D.put (.int .i64 (p:Nat)) (.lit (.int .u64 (w.heap.size:Nat)))))
 (hturn:(w.alloc (.cells (Array.replicate 64 (.int .u64 0)) t)).mapTurned w' mb):
 SlabAt w' a mb (D.put (.int .i64 (p:Nat)) (.lit (.int .u64 (w.heap.size:Nat)))) (ps++ [p]) q (zeroP mem p 1)∧Gr w D w' (D.put (.int .i64 (p:Nat)) (.lit (.int .u64 (w.heap.size:Nat)))) mb:=by
 have hmb:=h.own.lt
 have ham:=map_block_ne h.own h.cq
 have hisM:Maps.IsMap D:=World.ownsMap.isMap h.own
 have htidy:Maps.Tidy D:=World.ownsMap.tidy h.own keyedInt
 have hpg:=h.no_page hp
 have hhas:Maps.has D (.int .i64 (p:Nat))=false:=by
  cases hh:Maps.has D (.int .i64 (p:Nat)) with
  |false=>rfl
  |true=>exact absurd hpg (h.full _ hh)
 have hgr:=hturn.grown
 have hsz:(w.alloc (.cells (Array.replicate 64 (.int .u64 0)) t)).heap.size=w.heap.size+1:=by simp
 have hblk: ∀k,k<w.heap.size→k≠mb→w'.heap[k]? =w.heap[k]? :=fun k hk hne=>
  (hgr.block k (by rw [hsz];omega) (by simpa using hne)).trans (Below.heap_alloc w _ k hk)
 have hnew:w'.heap[w.heap.size]? =some (.cells (Array.replicate 64 (.int .u64 0)) t):=
  (hgr.block w.heap.size (by rw [hsz];omega) (by simp;omega)).trans (World.alloc_heap_new w _)
 have hput: ∀x:Int,pgOf (D.put (.int .i64 (p:Nat)) (.lit (.int .u64 (w.heap.size:Nat)))) x=if x=(p:Nat) then some w.heap.size else pgOf D x:=fun x=>pgOf_put hisM _ _ _
 refine⟨⟨?_, ?_,hown.tight, ?_, ?_, ?_, ?_, ?_, ?_,h.quota, ?_, ?_, ?_, ?_, ?_⟩, ?_⟩
 · exact(World.cell?_of_block (a:=⟨a,0,none⟩) (hblk a (cell_lt (a:=⟨a,0,none⟩) h.cq) ham)).trans h.cq
 · exact(World.cell?_of_block (a:=⟨a,1,none⟩) (hblk a (cell_lt (a:=⟨a,0,none⟩) h.cq) ham)).trans h.cm
 · rw [Maps.size_put htidy,hhas,if_neg (by simp),h.count];exact hroom
 · intro x
   rw [hput]
   by_cases hx:x=(p:Nat)
   · rw [if_pos hx]
     exact⟨fun _=>⟨p,by simp,hx⟩,fun _=>by simp⟩
   · rw [if_neg hx,h.pages x]
     constructor
     · rintro⟨k,hk,rfl⟩;exact⟨k,by simp [hk],rfl⟩
     · rintro⟨k,hk,rfl⟩
       rcases List.mem_append.1 hk with h1|h1
       · exact⟨k,h1,rfl⟩
       · simp at h1;subst h1;exact absurd rfl hx
 · rw [List.nodup_append]
   exact⟨h.nodup,by simp,by intro x hx y hy;simp at hy;subst hy;rintro rfl;exact hp hx⟩
 · rw [Maps.size_put htidy,hhas,if_neg (by simp),h.count];simp
 · intro x hx
   rw [hput]
   by_cases hxp:x=(p:Nat)
   · rw [if_pos hxp];simp
   · rw [if_neg hxp]
     rw [Maps.has_put_other (by simpa using hxp)] at hx
     exact h.full x hx
 · intro k hk
   by_cases hkp:k= .int .i64 (p:Nat)
   · exact⟨_,hkp⟩
   · rw [Maps.has_put_other hkp] at hk
     exact h.keys k hk
 · intro x hx
   rcases List.mem_append.1 hx with h1|h1
   · exact h.low x h1
   · simp at h1;subst h1;exact hp2
 · intro x g hg k hk
   rw [hput] at hg
   by_cases hx:(x:Int)=(p:Nat)
   · rw [if_pos hx] at hg
     obtain rfl:x=p:=by omega
     cases hg
     constructor
     · have hz:zeroP mem x 1 (64*x+k)=0:=by unfold zeroP;rw [if_pos (by omega)]
       rw [hz]
       unfold World.cell?
       rw [hnew]
       simp only [Option.isSome_none,Bool.false_eq_true,if_false]
       rw [Array.getElem?_replicate,if_pos hk]
       rfl
     · unfold World.frozen?
       rw [hnew]
       simp
   · rw [if_neg hx] at hg
     have hgl:=cell_lt (a:=⟨g,0,none⟩) (h.words x g hg 0 (by omega)).1
     have hgm:=map_block_ne h.own (h.words x g hg 0 (by omega)).1
     have hb:=hblk g hgl hgm
     have hz:zeroP mem p 1 (64*x+k)=mem (64*x+k):=by unfold zeroP;rw [if_neg (by omega)]
     rw [hz]
     exact⟨(World.cell?_of_block (a:=⟨g,k,none⟩) hb).trans (h.words x g hg k hk).1,(World.frozen?_of_block (a:=⟨g,k,none⟩) hb).trans (h.words x g hg k hk).2⟩
 · intro x x' g hg hg'
   rw [hput] at hg hg'
   by_cases hx:(x:Int)=(p:Nat)
   · by_cases hx' :(x' :Int)=(p:Nat)
     · omega
     · rw [if_pos hx] at hg;rw [if_neg hx'] at hg'
       cases hg
       have:=cell_lt (a:=⟨w.heap.size,0,none⟩) (h.words x' _ hg' 0 (by omega)).1
       exact absurd this (Nat.lt_irrefl _)
   · by_cases hx' :(x' :Int)=(p:Nat)
     · rw [if_neg hx] at hg;rw [if_pos hx'] at hg'
       cases hg'
       have:=cell_lt (a:=⟨w.heap.size,0,none⟩) (h.words x _ hg 0 (by omega)).1
       exact absurd this (Nat.lt_irrefl _)
     · rw [if_neg hx] at hg;rw [if_neg hx'] at hg'
       exact h.inj x x' g hg hg'
 · intro x g hg
   rw [hput] at hg
   by_cases hx:(x:Int)=(p:Nat)
   · rw [if_pos hx] at hg
     cases hg
     have:=cell_lt (a:=⟨a,0,none⟩) h.cq
     exact Nat.ne_of_gt this
   · rw [if_neg hx] at hg
     exact h.off x g hg
 · intro x;unfold zeroP;split;omega;exact h.word x
 · refine⟨⟨hgr.os,hgr.tape,hgr.output,Nat.le_trans (by rw [hsz];omega) hgr.size,fun k hk hne=>hblk k hk (by simpa using hne)⟩,fun x g hg=> ?_⟩
   rw [hput] at hg
   by_cases hx:(x:Int)=(p:Nat)
   · rw [if_pos hx] at hg
     cases hg
     exact .inr (Nat.le_refl _)
   · rw [if_neg hx] at hg
     exact .inl hg
set_option maxRecDepth 100000 in
theorem grant_at{w:World}{a mb q:Nat}{D:DW}{ps:List Nat}{mem:Nat→Nat}(h:SlabAt w a mb D ps q mem)(n:Nat)(hn:1≤n)(hn2:n≤63)(hq:(ps.length+n)*64≤q):
 Calls Tryz.prog 125 #[.pointer (some ⟨a,0,none⟩), .int .i64 (n:Nat)] w fun e w' => ∃f D',e= .returned (.tuple #[.int .i64 (f:Nat), .int .i64 0])∧(∀i,i<n→f+i∉ps)∧f+n≤258200∧SlabAt w' a mb D' (ps++List.range' f n) q (zeroP mem f n)∧Gr w D w' D' mb:=by
 have hcm:=h.cm
 have hcq:=h.cq
 have hN:=Lib.hid (slabNone_at h)
 have hlen: ∀d,(Builtin.len_ #[115] 3 #[.map (some mb)]).run Tryz.prog (w.drewN d)= .ok (.int .i64 (ps.length:Nat)) (w.drewN d):=fun d=>by
  have:=(h.drew (d:=d)).own.len Tryz.underlying115 3
  rwa [h.count] at this
 have hquota:=h.quota
 have d1:decide ((n:Int)<1)=false:=by simp;omega
 have d2:decide ((4096:Int)<(n:Int))=false:=by simp;omega
 have d3:decide ((q:Int)<((ps.length:Int)+(n:Int))*64)=false:=by simp;omega
 have hH:=Lib.hid h
 clear h
 go_enter Tryz.func125,Tryz.ntmps125
 go_wp2
 go_step3
 go_wp2_with (go_at_call 110;refine hN.out.mono ?_;rintro e w' ⟨rfl,rfl⟩)
 go_quiet (fail)
 clear d1 d2 d3
 have hD:=Lib.hid (hH.out.drew (d:=nq))
 have hcm' :=hD.out.cm
 have hmap:=hD.out.own
 obtain⟨w1,hw1⟩: ∃w1,w1=w.drewN nq:=⟨_,rfl⟩
 rw [←hw1] at hD hcm' hmap ⊢
 have hw1H:=Lib.hid hw1
 clear hw1 hlen hcm hcq hN
 go_wp2
 go_step3
 go_wp2
 go_loopw [6] (fun fv wr=> ∃f:Nat,f≤n*cntB ps f∧fv= .int .i64 f∧wr=w1) (fun fv _=>ps.length+1-cntB ps (intOf fv).toNat)
 case atStart=>exact⟨0,by omega,rfl,rfl⟩
 case round=>
  obtain⟨f,hf,rfl,hwr⟩:=hrel
  subst hwr
  have hcf:=cntB_le ps f
  go_wp2
  obtain⟨wo,rfl⟩: ∃wo:World,wo=wr:=⟨_,rfl⟩
  go_loopw [34,6] (fun kv fv wi=> ∃k:Nat,k≤n∧kv= .int .i64 k∧fv= .int .i64 f∧wi=wo∧Hid (∀i,i<k→f+i∉ps)) (fun kv _ _=>n-(intOf kv).toNat)
  case atStart=>exact⟨0,by omega,rfl,rfl,by trivial,Lib.hid (by intro i hi;omega)⟩
  case round=>
   obtain⟨k,hk,rfl,rfl,hwi,hfree⟩:=hrel
   subst hwi
   have hps4:ps.length≤4096:=by omega
   have hf2:f≤63*4096:=Nat.le_trans hf (Nat.mul_le_mul hn2 (Nat.le_trans hcf hps4))
   by_cases hkn:k<n
   · by_cases hpg:f+k∈ps
     · obtain⟨g,hg⟩:=hD.out.page hpg
       have hst:=cntB_step ps (show f≤f+k by omega) (show f+k<f+(k+1) by omega) hpg
       have hcf2:=cntB_le ps (f+(k+1))
       have hnew:f+(k+1)≤n*cntB ps (f+(k+1)):=by
        have:n*(cntB ps f+1)≤n*cntB ps (f+(k+1)):=Nat.mul_le_mul_left n hst
        rw [Nat.mul_add] at this
        omega
       have hgH:=Lib.hid hg
       have hpgH:=Lib.hid hpg
       have hnewH:=Lib.hid hnew
       have hstH:=Lib.hid hst
       clear hg hpg hnew hst
       go_wp2_with (at_lookup;refine wpList_look_page _ rfl _ _ rfl mb _ D rfl hmap ((f:Int)+(k:Int)) rfl (by omega) (by omega) ?_;rw [show(f:Int)+(k:Int)=((f+k:Nat):Int) by push_cast;rfl,hgH.out];dsimp only [pgV])
       go_roundw
       case rel=>exact⟨f+(k+1),hnewH.out,by go_num,by trivial⟩
       case measure=>
        have:=hstH.out
        simp only [intOf]
        rw [show((f:Int)+((k:Int)+1)).toNat=f+(k+1) by omega,Int.toNat_natCast]
        omega
     · have hg:=hD.out.no_page hpg
       have hgH:=Lib.hid hg
       have hpgH:=Lib.hid hpg
       clear hg hpg
       go_wp2_with (at_lookup;refine wpList_look_page _ rfl _ _ rfl mb _ D rfl hmap ((f:Int)+(k:Int)) rfl (by omega) (by omega) ?_;rw [show(f:Int)+(k:Int)=((f+k:Nat):Int) by push_cast;rfl,hgH.out];dsimp only [pgV])
       go_roundw
       case rel=>exact⟨k+1,by omega,by go_num,by trivial,by trivial,Lib.hid (by
        intro i hi
        rcases Nat.lt_succ_iff_lt_or_eq.1 hi with h1|rfl
        · exact hfree.out i h1
        · exact hpgH.out)⟩
       case measure=>simp [intOf];omega
   · obtain rfl:k=n:=by omega
     obtain⟨wo,rfl⟩: ∃wo:World,wo=wr:=⟨_,rfl⟩
     go_wp2
     go_loopw [52] (fun jv wj=> ∃j:Nat,j≤k∧jv= .int .i64 j∧ ∃D',SlabAt wj a mb D' (ps++List.range' f j) q (zeroP mem f j)∧Gr wo D wj D' mb) (fun jv _=>k-(intOf jv).toNat)
     case atStart=>exact⟨0,by omega,rfl,D,by rw [zeroP_zero];simpa using hD.out,Gr.refl _ _ _⟩
     case round=>
      obtain⟨j,hj,rfl,D',hS,hGr⟩:=hrel
      by_cases hjk:j<k
      · have hm:=hS.own
        have hcm2:=hS.cm
        have hn0:Maps.size D' <maxLen:=by have:=hS.room;have:=hS.quota;unfold maxLen;omega
        have hSH:=Lib.hid hS
        have hGH:=Lib.hid hGr
        clear hS hGr hcm' hmap
        go_wp2_with (at_mapUpdate;(refine wpList_mapUpdate_in _ rfl _ _ _ 115 rfl 3 177 keyedInt Tryz.underlying115 pageElem mb _ D' rfl (hm.alloc _) hn0 _ _ (.int .i64 ((f+j:Nat):Int)) rfl rfl ?key (.lit (.int .u64 (wr.heap.size:Nat))) [] rfl ?_;(case key=>exact keyInt (p:=((f+j:Nat):Int)) (by omega) (by omega));intro w1 hown1 hturn1))
        have hp:f+j∉ps++List.range' f j:=by
         intro hh
         rcases List.mem_append.1 hh with h1|h1
         · exact hfree.out j hjk h1
         · rw [List.mem_range'_1] at h1;omega
        have hg1:=hSH.out.grant1 hp (by omega) (by rw [List.length_append,List.length_range'];omega) hown1 hturn1
        rw [zeroP_succ,List.append_assoc,←List.range'_1_concat] at hg1
        go_roundw
        case rel=>exact⟨j+1,by omega,by go_num,_,hg1.1,hGH.out.trans hg1.2⟩
        case measure=>simp [intOf];omega
      · obtain rfl:j=k:=by omega
        have hSH:=Lib.hid hS
        have hGH:=Lib.hid hGr
        clear hS hGr hcm' hmap
        go_wp2
        rw [Exit.noGoto_ret]
        go_ret2
        refine⟨f,D',rfl,hfree.out,by omega,hSH.out, ?_⟩
        have hw:=hw1H.out
        subst hw
        exact Gr.trans (w1:=w.drewN nq) (D1:=D) ⟨⟨rfl,rfl,rfl,Nat.le_refl _,fun _ _ _=>rfl⟩,fun _ _ h=> .inl h⟩ hGH.out
end Go.Proofs.YthcmecokejemcaaGreatDoor
