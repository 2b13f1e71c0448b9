/-
  The seat's own texts, part r: BnW2, BnW3, PrsF, MadeP, BtP, BdP, BiP, ReadT, Law, Two, BnW4, BnW5, AvT, AvA, AvB, AvT2, Joined, AvJ, Shr, WrongP.
-/
import Derived.Test.YthcmecokejemcaaGreatDoorWMq
import Derived.Laws.MakeOwn
set_option linter.unusedSimpArgs false
set_option linter.unusedVariables false
set_option maxHeartbeats 4000000
namespace Go.Proofs.YthcmecokejemcaaGreatDoor
open Go.RowKit Go.Shelf
namespace BN
def stg(t:Nat)(n:BN)(m:Nat):List Nat:=(List.range (6*t)).map fun i=>if i<m then n.wdAt t i else 0
theorem stg_get? (t:Nat)(n:BN)(m i:Nat)(h:i<6*t):(stg t n m)[i]? =some (if i<m then n.wdAt t i else 0):=by simp [stg,h]
theorem stg_zero(t:Nat)(n:BN):stg t n 0=List.replicate (6*t) 0:=by
 refine List.ext_getElem (by simp [stg]) fun i h1 h2=> ?_
 simp [stg]
theorem stg_succ{t:Nat}{n:BN}{m:Nat}(h:m<6*t):(stg t n m).set m (n.wdAt t m)=stg t n (m+1):=by
 refine List.ext_getElem (by simp [stg]) fun i h1 h2=> ?_
 rw [List.getElem_set]
 simp only [stg,List.getElem_map,List.getElem_range]
 by_cases e:m=i
 · subst e;simp
 · rw [if_neg e]
   by_cases h3:i<m
   · rw [if_pos h3,if_pos (by omega)]
   · rw [if_neg h3,if_neg (by omega)]
theorem stg_mid{t:Nat}{n:BN}(h:n.Fits t):stg t n (2+2*n.keys.length)=stg t n (4*t):=by
 refine List.ext_getElem (by simp [stg]) fun i h1 h2=> ?_
 simp only [stg,List.getElem_map,List.getElem_range]
 obtain⟨g1,g2,g3⟩:=h
 by_cases h3:i<2+2*n.keys.length
 · rw [if_pos h3,if_pos (by simp [stg] at h1;omega)]
 · rw [if_neg h3]
   by_cases h4:i<4*t
   · rw [if_pos h4]
     unfold wdAt
     rw [if_neg (by omega),if_neg (by omega),if_pos h4]
     have hk:n.keys.length≤(i-2)/2:=by omega
     split
     · rw [List.getD_eq_getElem?_getD,List.getElem?_eq_none hk];rfl
     · rw [List.getD_eq_getElem?_getD,List.getElem?_eq_none (by omega)];rfl
   · rw [if_neg h4]
theorem stg_end{t:Nat}{n:BN}(ht:2≤t):stg t n (4*t+n.kids.length)=n.wd t:=by
 refine List.ext_getElem (by simp [stg,wd]) fun i h1 h2=> ?_
 simp only [stg,wd,List.getElem_map,List.getElem_range]
 by_cases h3:i<4*t+n.kids.length
 · rw [if_pos h3]
 · rw [if_neg h3]
   unfold wdAt
   rw [if_neg (by omega),if_neg (by omega),if_neg (by omega),List.getD_eq_getElem?_getD,List.getElem?_eq_none (by omega)]
   rfl
end BN
theorem mk_words(n:Nat)(hn:n≤1000)(W:World):(Instr.makeSlice 128 (.int .i64 (n:Int)) (.int .i64 (n:Int))).run Tryz.prog W= .ok (.slice (some ⟨W.heap.size,0,none⟩) n n) (W.alloc (.cells (Array.replicate n (Value.int .u64 0)) 22)):=by
 obtain⟨i0,hi,hz0,hz1,hz2⟩:=info_parts Tryz.info_word
 have hr:=run_make (P:=Tryz.prog) (w:=W) 128 22 i0 (.int .u64 0) (by kernel_rfl) hi hz0 .i64 .i64 (n:Int) (n:Int) (by omega) (by omega) (by rw [hz2];omega) (by omega)
 simp only [Int.toNat_natCast] at hr
 rw [hr,hz1,Nat.mul_one]
 have e:madeCells (Value.cells (.int .u64 0)) n=Array.replicate n (Value.int .u64 0):=by
  apply Array.toList_inj.1
  rw [show Value.cells (.int .u64 0)= [Value.int .u64 0].toArray from rfl,toList_madeCells_one]
  simp
 rw [e]
theorem box_words(W:World)(n:Nat):Box (W.alloc (.cells (Array.replicate n (Value.int .u64 0)) 22)) W.heap.size 22 (wordsV (List.replicate n 0)):=by
 have h:=Box.new W 22 (wordsV (List.replicate n 0))
 have e:(wordsV (List.replicate n 0)).toArray=Array.replicate n (Value.int .u64 0):=by
  apply Array.toList_inj.1
  simp [wordsV]
 rw [e] at h
 exact h
theorem wordsV_set(l:List Nat)(i x:Nat):(wordsV l).set i (.int .u64 (x:Nat))=wordsV (l.set i x):=by
 unfold wordsV
 rw [List.map_set]
def WordsIt(w:World)(ws:List Nat)(e:Ending)(w' :World):Prop:=
 ∃b bx,e= .returned (.func (.func 105) #[] #[.pointer (some ⟨bx,0,none⟩)])∧w.heap.size≤b∧w.heap.size≤bx∧w'.cell? ⟨bx,0,none⟩=some (.slice (some ⟨b,0,none⟩) ws.length ws.length)∧(∀j u,(wordsV ws)[j]? =some u→w'.cell? ⟨b,j,none⟩=some u)∧b<w'.heap.size∧Below w.heap.size w w'
set_option maxRecDepth 100000 in
theorem slAll_at(A:Option Addr)(n c:Nat)(w:World):Calls Tryz.prog 74 #[.slice A n c] w fun e w' =>e= .returned (.func (.func 105) #[] #[.pointer (some ⟨w.heap.size,0,none⟩)])∧w' =w.alloc (.cells #[.slice A n c] 128):=by
 go_enter Tryz.func74,Tryz.ntmps74
 go_wp2
 go_ret
 exact⟨rfl,rfl⟩
theorem CellsF.num{w:World}{F:Nat→Prop}{A:Option Addr}{l:List Nat}(h:CellsF w F A (hsV l)){k:Nat}(hk:k<l.length): ∃b o,A=some ⟨b,o,none⟩∧b<w.heap.size∧ ∀W,Below w.heap.size w W→W.cell? ⟨b,o+k,none⟩=some (.int .u64 (l[k]:Nat)):=by
 rcases h with h|⟨b,o,h1,h2,h3,h4⟩
 · have h9:=congrArg List.length h
   rw [hsV_len] at h9
   have h8:l.length=0:=h9
   omega
 · exact⟨b,o,h1,h2,fun W hb=>(hb.cell (p:=⟨b,o+k,none⟩) h2).trans (h4 k _ (hsV_get hk))⟩
theorem Turn.own1{w:World}{F:Nat→Prop}{b:Nat}(hF:F b)(j:Nat)(v:Value):Turn w F (w.setCell ⟨b,j,none⟩ v) F:=
 ⟨rfl,rfl,rfl,by simp,fun k hk hn=>Below.heap_setCell w ⟨b,j,none⟩ v k (fun e=>hn (e▸hF)),fun _ h=> .inl h⟩
set_option maxRecDepth 100000 in
theorem bwords_at{w:World}{F:Nat→Prop}{v:Value}{n:BN}(h:BNV w F v n)(t:Nat)(ht:BN.Deg t)(hf:n.Fits t):
 Calls Tryz.prog 48 #[.int .i64 (t:Nat),v] w (WordsIt w (n.wd t)):=by
 obtain⟨⟨Ak,ck,Av,cv,Ai,ci,rfl,k1,k2,k3⟩,l1,l2,l3⟩:=h
 have hmo:Tryz.prog.follows .mixedOrders=true:=by kernel_rfl
 have hck:=Lib.hid (fun k (hk:k<n.keys.length)=>k1.num hk)
 have hcv:=Lib.hid (fun k (hk:k<n.vals.length)=>k2.num hk)
 have hci:=Lib.hid (fun k (hk:k<n.kids.length)=>k3.num hk)
 have hfH:=Lib.hid hf
 have t2:=ht.2
 have t1:=ht.1
 have hnk:=hf.1
 have hnvH:=Lib.hid hf.2.1
 have hni:n.kids.length≤2*t:=by
  rcases hf.2.2 with h|h
  · rw [h];simp
  · have:=h.1;omega
 have hwk:IntKind.u64.wrap ((n.keys.length:Nat):Int)=((n.keys.length:Nat):Int):=wrap_nat (by omega)
 have hbx0:=Box.new w 48 [.slice Ak n.keys.length ck, .slice Av n.vals.length cv, .slice Ai n.kids.length ci, .int .u64 (n.size:Nat)]
 have hb0:Below w.heap.size w (w.alloc (Obj.cells #[.slice Ak n.keys.length ck, .slice Av n.vals.length cv, .slice Ai n.kids.length ci, .int .u64 (n.size:Nat)] 48)):=(Below.refl _ w).alloc (Nat.le_refl _) _
 have hmk:=mk_words (6*t) (by omega)
 push_cast at hmk
 obtain⟨W1,hW1⟩: ∃W,W=w.alloc (Obj.cells #[.slice Ak n.keys.length ck, .slice Av n.vals.length cv, .slice Ai n.kids.length ci, .int .u64 (n.size:Nat)] 48):=⟨_,rfl⟩
 rw [show(Obj.cells ([.slice Ak n.keys.length ck, .slice Av n.vals.length cv, .slice Ai n.kids.length ci, .int .u64 (n.size:Nat)]:List Value).toArray 48)=(Obj.cells #[.slice Ak n.keys.length ck, .slice Av n.vals.length cv, .slice Ai n.kids.length ci, .int .u64 (n.size:Nat)] 48) from rfl,←hW1] at hbx0
 rw [←hW1] at hb0
 have hz1:W1.heap.size=w.heap.size+1:=by rw [hW1];simp
 have hbxw:=box_words W1 (6*t)
 obtain⟨W2,hW2⟩: ∃W,W=W1.alloc (.cells (Array.replicate (6*t) (Value.int .u64 0)) 22):=⟨_,rfl⟩
 rw [←hW2] at hbxw
 have hbx2:Box W2 w.heap.size 48 [.slice Ak n.keys.length ck, .slice Av n.vals.length cv, .slice Ai n.kids.length ci, .int .u64 (n.size:Nat)]:=by rw [hW2];exact hbx0.alloc _
 have hb2:Below w.heap.size w W2:=by rw [hW2];exact hb0.alloc (by omega) _
 obtain⟨bn,hbn⟩: ∃b,b=w.heap.size:=⟨_,rfl⟩
 obtain⟨b,hb⟩: ∃b,b=W1.heap.size:=⟨_,rfl⟩
 rw [←hbn] at hbx2
 rw [←hb] at hbxw
 have hb' :Hid (b=w.heap.size+1):=Lib.hid (by omega)
 have hlt:b<W2.heap.size:=hbxw.lt
 have hbge:w.heap.size≤b:=by omega
 have hbb:bn≠b:=by omega
 have hz0:BN.stg t n 0=List.replicate (6*t) 0:=BN.stg_zero t n
 rw [←hz0] at hbxw
 have hW1H:=Lib.hid hW1
 have hW2H:=Lib.hid hW2
 have hbnH:=Lib.hid hbn
 have hbxwH:=Lib.hid hbxw
 have hbx2H:=Lib.hid hbx2
 have hb2H:=Lib.hid hb2
 clear k1 k2 k3 hbx0 hb0 hz1 hW1 hW2 hbn hb hbxw hbx2 hb2 hz0 hf ht
 go_enter Tryz.func48,Tryz.ntmps48
 go_wp2
 rw [←hW1H.out,←hW2H.out,←hb'.out,←hbnH.out]
 have c0:=fun X:Kp W2 (fun k=>k=b)=>Kp.cell (hbx2H.out.at' (i:=0) rfl) hbb X
 have c3:=fun X:Kp W2 (fun k=>k=b)=>Kp.cell (hbx2H.out.at' (i:=3) rfl) hbb X
 clear hW1H hW2H hbnH hb' hmk
 refine wp_region_row (fun w' => ∃X:Kp W2 (fun k=>k=b),w' =X.W) [0,1,2,3,4,5,6,7,8] [9,10,11] hmo (by kernel_rfl) rfl (by kernel_rfl) (Kp.start _ _) (fun _ _ d _ _ h=>by cases d<;>exact h) ?_
 iterate 8 (refine wpReads_step _ _ rfl rfl (by rintro _ ⟨X,rfl⟩;go_simp;exact rfl) ?_;go_simp)
 refine wpReads_step _ _ rfl rfl (by rintro _ ⟨X,rfl⟩;go_simp;first|exact rfl|rw [if_pos (by omega)]) ?_
 go_simp
 refine wpReads_nil ?_
 clear c0 c3
 have hbd:Below W2.heap.size W2 W2.drew:=below_drawn W2
 change wpActs _ _ _ _ _ _ W2.drew
 have hbxw3:=hbxwH.out.below hbd
 have hbx23:=hbx2H.out.below hbd
 have hb23:=hb2H.out.trans (hbd.mono hb2H.out.size)
 have hT3:Turn W2 (fun k=>k=b) W2.drew (fun k=>k=b):=Turn.below hbd
 have hlt3:b<W2.drew.heap.size:=hlt
 clear hbd
 generalize W2.drew=W3 at*
 have q0:W3.cell? ⟨b,0,none⟩=some (.int .u64 0):=hbxw3.at' (i:=0) (by unfold wordsV;rw [List.getElem?_map,BN.stg_get? _ _ _ _ (by omega)];rfl)
 have q1:W3.cell? ⟨b,1,none⟩=some (.int .u64 0):=hbxw3.at' (i:=1) (by unfold wordsV;rw [List.getElem?_map,BN.stg_get? _ _ _ _ (by omega)];rfl)
 have q2:W3.frozen? ⟨b,0,none⟩=false:=hbxw3.free 0
 have q3:W3.frozen? ⟨b,1,none⟩=false:=hbxw3.free 1
 have hbxw5:=Lib.hid ((hbxw3.set 0 (.int .u64 (n.keys.length:Nat))).set 1 (.int .u64 (n.size:Nat)))
 have hbx25:=Lib.hid ((hbx23.other (p:=⟨b,0,none⟩) hbb (.int .u64 (n.keys.length:Nat))).other (p:=⟨b,1,none⟩) hbb (.int .u64 (n.size:Nat)))
 have hb25:=Lib.hid ((hb23.setCell (p:=⟨b,0,none⟩) hbge (.int .u64 (n.keys.length:Nat))).setCell (p:=⟨b,1,none⟩) hbge (.int .u64 (n.size:Nat)))
 have hT3H:=Lib.hid hT3
 clear hbxw3 hbx23 hb23 hT3 hbxwH hbx2H hb2H
 refine wpActs_step _ rfl (fun K1 hK1=> ?_)
 go_wp2
 refine hK1 _ _ ⟨⟨_,_,hT3H.out.trans (Turn.own1 (F:=fun k=>k=b) rfl 0 _)⟩,rfl⟩ ?_
 refine wpActs_step _ rfl (fun K2 hK2=> ?_)
 go_wp2
 refine hK2 _ _ ⟨⟨_,_,hT3H.out.trans (Turn.own1 (F:=fun k=>k=b) rfl 0 _)⟩,rfl⟩ ?_
 refine wpActs_step _ rfl (fun K3 hK3=> ?_)
 go_wp2
 refine hK3 _ _ ⟨⟨_,_,(hT3H.out.trans (Turn.own1 (F:=fun k=>k=b) rfl 0 _)).trans (Turn.own1 (F:=fun k=>k=b) rfl 1 _)⟩,rfl⟩ ?_
 refine wpActs_nil ?_
 obtain⟨W5,hW5⟩: ∃W,W=((W3.setCell ⟨b,0,none⟩ (.int .u64 (n.keys.length:Nat))).setCell ⟨b,1,none⟩ (.int .u64 (n.size:Nat))):=⟨_,rfl⟩
 rw [←hW5] at hbxw5 hbx25 hb25 ⊢
 have hlt5:b<W5.heap.size:=hbxw5.out.lt
 have hst5:Hid (Box W5 b 22 (wordsV (BN.stg t n (2+2*0)))):=Lib.hid (by
  have h9:=hbxw5.out
  rw [wordsV_set,wordsV_set,show n.keys.length=n.wdAt t 0 from rfl,BN.stg_succ (by omega),show n.size=n.wdAt t 1 from rfl,BN.stg_succ (by omega)] at h9
  exact h9)
 have d0:=hbx25.out.at' (i:=0) rfl
 clear hbxw5 hW5 q0 q1 q2 q3 hT3H hlt3 hK1 hK2 hK3
 go_wp2_with fail
 go_loopw [25] (fun iv wr=> ∃k:Nat,k≤n.keys.length∧iv= .int .i64 k∧Hid (Box wr b 22 (wordsV (BN.stg t n (2+2*k))))∧Hid (Box wr bn 48 [.slice Ak n.keys.length ck, .slice Av n.vals.length cv, .slice Ai n.kids.length ci, .int .u64 (n.size:Nat)])∧Hid (Below w.heap.size w wr)) (fun iv _=>n.keys.length-(intOf iv).toNat)
 case atStart=>exact⟨0,by omega,rfl,hst5,hbx25,hb25⟩
 case round=>
  obtain⟨k,hk,rfl,hbw,hbn,hbl⟩:=hrel
  clear d0 hst5 hbx25 hb25 hlt5
  have hltb:b<wr.heap.size:=hbw.out.lt
  by_cases hlt:k<n.keys.length
  · have hkv:k<n.vals.length:=by rw [hnvH.out];exact hlt
    obtain⟨bk,ok,hAk,hbk,hkc⟩:=hck.out k hlt
    obtain⟨bv,ov,hAv,hbv,hvc⟩:=hcv.out k hkv
    have hkc1:=hkc wr hbl.out
    have hvc1:=hvc wr hbl.out
    have hwk1:Hid (n.wdAt t (2+2*k)=n.keys[k]):=Lib.hid (by rw [BN.at_key (by omega),List.getD_eq_getElem?_getD,List.getElem?_eq_getElem hlt];rfl)
    have hwv1:Hid (n.wdAt t (2+2*k+1)=n.vals[k]):=Lib.hid (by rw [BN.at_val (by omega),List.getD_eq_getElem?_getD,List.getElem?_eq_getElem hkv];rfl)
    subst hAk hAv
    generalize n.keys[k]=xk at*
    generalize n.vals[k]=xv at*
    have c0:=fun X:Kp wr (fun k=>k=b)=>Kp.cell (hbn.out.at' (i:=0) rfl) hbb X
    have c1:=fun X:Kp wr (fun k=>k=b)=>Kp.cell (hbn.out.at' (i:=1) rfl) hbb X
    have w1:IntKind.i64.wrap (2*(k:Int))=2*(k:Int):=by rw [IntKind.wrap_i64];omega
    have w2:IntKind.i64.wrap (2+2*(k:Int))=2+2*(k:Int):=by rw [IntKind.wrap_i64];omega
    have w3:IntKind.i64.wrap (2+2*(k:Int)+1)=2+2*(k:Int)+1:=by rw [IntKind.wrap_i64];omega
    have nk1:bk≠b:=by omega
    have nv1:bv≠b:=by omega
    have c2:=fun X:Kp wr (fun k=>k=b)=>Kp.cell hkc1 nk1 X
    have c3:=fun X:Kp wr (fun k=>k=b)=>Kp.cell hvc1 nv1 X
    clear hkc hvc hkc1 hvc1
    go_wp2
    refine wp_region_row (fun w' => ∃X:Kp wr (fun k=>k=b),w' =X.W) [0,1,2,3,4,5,6,7,8,9,10,11,12,13,14,15,16,17,18,19] [20,21,22] hmo (by kernel_rfl) rfl (by kernel_rfl) (Kp.start _ _) (fun _ _ d _ _ h=>by cases d<;>exact h) ?_
    iterate 12 (refine wpReads_step _ _ rfl rfl (by rintro _ ⟨X,rfl⟩;go_simp;exact rfl) ?_;go_simp)
    refine wpReads_step _ _ rfl rfl (by rintro _ ⟨X,rfl⟩;go_simp;first|exact rfl|rw [if_pos (by omega)]) ?_
    go_simp
    iterate 4 (refine wpReads_step _ _ rfl rfl (by rintro _ ⟨X,rfl⟩;go_simp;exact rfl) ?_;go_simp)
    refine wpReads_step _ _ rfl rfl (by rintro _ ⟨X,rfl⟩;go_simp;first|exact rfl|rw [if_pos (by omega)]) ?_
    go_simp
    refine wpReads_step _ _ rfl rfl (by rintro _ ⟨X,rfl⟩;go_simp;exact rfl) ?_
    go_simp
    refine wpReads_step _ _ rfl rfl (by rintro _ ⟨X,rfl⟩;go_simp;first|exact rfl|rw [if_pos (by omega)]) ?_
    go_simp
    refine wpReads_nil ?_
    clear c0 c1 c2 c3
    have hbd:Below wr.heap.size wr wr.drew:=below_drawn wr
    change wpActs _ _ _ _ _ _ wr.drew
    have hbw2:=hbw.out.below hbd
    have hbn2:=hbn.out.below hbd
    have hbl2:=hbl.out.trans (hbd.mono hbl.out.size)
    have hT2:Turn wr (fun k=>k=b) wr.drew (fun k=>k=b):=Turn.below hbd
    clear hbd
    generalize wr.drew=W3 at*
    have q0:W3.cell? ⟨b,2+2*k,none⟩=some (.int .u64 0):=hbw2.at' (i:=2+2*k) (by unfold wordsV;rw [List.getElem?_map,BN.stg_get? _ _ _ _ (by omega),if_neg (by omega)];rfl)
    have q1:W3.cell? ⟨b,2+2*k+1,none⟩=some (.int .u64 0):=hbw2.at' (i:=2+2*k+1) (by unfold wordsV;rw [List.getElem?_map,BN.stg_get? _ _ _ _ (by omega),if_neg (by omega)];rfl)
    have q2:W3.frozen? ⟨b,2+2*k,none⟩=false:=hbw2.free _
    have q3:W3.frozen? ⟨b,2+2*k+1,none⟩=false:=hbw2.free _
    have q4:(W3.setCell ⟨b,2+2*k,none⟩ (.int .u64 (xk:Nat))).frozen? ⟨b,2+2*k+1,none⟩=false:=(hbw2.set (2+2*k) (.int .u64 (xk:Nat))).free (2+2*k+1)
    have hst3:Hid (Box ((W3.setCell ⟨b,2+2*k,none⟩ (.int .u64 (xk:Nat))).setCell ⟨b,2+2*k+1,none⟩ (.int .u64 (xv:Nat))) b 22 (wordsV (BN.stg t n (2+2*(k+1))))):=Lib.hid (by
     have h9:=(hbw2.set (2+2*k) (.int .u64 (xk:Nat))).set (2+2*k+1) (.int .u64 (xv:Nat))
     rw [wordsV_set,wordsV_set,←hwk1.out,BN.stg_succ (by omega),←hwv1.out,BN.stg_succ (by omega)] at h9
     rw [hwk1.out,hwv1.out] at h9
     exact h9)
    have hbn3:=Lib.hid ((hbn2.other (p:=⟨b,2+2*k,none⟩) hbb (.int .u64 (xk:Nat))).other (p:=⟨b,2+2*k+1,none⟩) hbb (.int .u64 (xv:Nat)))
    have hbl3:=Lib.hid ((hbl2.setCell (p:=⟨b,2+2*k,none⟩) hbge (.int .u64 (xk:Nat))).setCell (p:=⟨b,2+2*k+1,none⟩) hbge (.int .u64 (xv:Nat)))
    have hT3H:=Lib.hid hT2
    clear hbw2 hbn2 hbl2 hT2 hbw hbn hbl hwk1 hwv1
    refine wpActs_step _ rfl (fun K1 hK1=> ?_)
    go_wp2
    · exact absurd (‹W3.frozen? ⟨b,2+2*k,none⟩=true›) (by rw [q2];simp)
    refine hK1 _ _ ⟨⟨_,_,hT3H.out.trans (Turn.own1 (F:=fun k=>k=b) rfl (2+2*k) _)⟩,rfl⟩ ?_
    refine wpActs_step _ rfl (fun K2 hK2=> ?_)
    go_wp2
    refine hK2 _ _ ⟨⟨_,_,hT3H.out.trans (Turn.own1 (F:=fun k=>k=b) rfl (2+2*k) _)⟩,rfl⟩ ?_
    refine wpActs_step _ rfl (fun K3 hK3=> ?_)
    go_wp2
    refine hK3 _ _ ⟨⟨_,_,(hT3H.out.trans (Turn.own1 (F:=fun k=>k=b) rfl (2+2*k) _)).trans (Turn.own1 (F:=fun k=>k=b) rfl (2+2*k+1) _)⟩,rfl⟩ ?_
    refine wpActs_nil ?_
    clear q0 q1 q2 q3 q4 hT3H hK1 hK2 hK3
    go_wp2
    go_roundw
    case rel=>exact⟨k+1,by omega,by go_num,hst3,hbn3,hbl3⟩
    case measure=>simp [intOf];omega
  · obtain rfl:k=n.keys.length:=by omega
    have hst2:Hid (Box wr b 22 (wordsV (BN.stg t n (4*t+0)))):=Lib.hid (by have h9:=hbw.out;rw [BN.stg_mid hfH.out] at h9;exact h9)
    have d2:=hbn.out.at' (i:=2) rfl
    have hbl2:=Lib.hid hbl.out
    clear hbw hbn hbl hck hcv hlt
    go_wp2_with fail
    go_loopw [53] (fun iv wr=> ∃k:Nat,k≤n.kids.length∧iv= .int .i64 k∧Hid (Box wr b 22 (wordsV (BN.stg t n (4*t+k))))∧Hid (Below w.heap.size w wr)) (fun iv _=>n.kids.length-(intOf iv).toNat)
    case atStart=>exact⟨0,by omega,rfl,hst2,hbl2⟩
    case round=>
     obtain⟨k,hk,rfl,hbw,hbl⟩:=hrel
     clear d2 hst2 hbl2
     have hltb:=hbw.out.lt
     by_cases hlt:k<n.kids.length
     · skip
       obtain⟨bi,oi,hAi,hbi,hic⟩:=hci.out k hlt
       have hic1:=hic wr hbl.out
       have hwi1:Hid (n.wdAt t (4*t+k)=n.kids[k]):=Lib.hid (by rw [BN.at_kid t1,List.getD_eq_getElem?_getD,List.getElem?_eq_getElem hlt];rfl)
       subst hAi
       generalize n.kids[k]=xi at*
       have q0:wr.cell? ⟨b,4*t+k,none⟩=some (.int .u64 0):=hbw.out.at' (i:=4*t+k) (by unfold wordsV;rw [List.getElem?_map,BN.stg_get? _ _ _ _ (by omega),if_neg (by omega)];rfl)
       have q2:wr.frozen? ⟨b,4*t+k,none⟩=false:=hbw.out.free _
       have w1:IntKind.i64.wrap (4*(t:Int))=4*(t:Int):=by rw [IntKind.wrap_i64];omega
       have w2:IntKind.i64.wrap (4*(t:Int)+(k:Int))=4*(t:Int)+(k:Int):=by rw [IntKind.wrap_i64];omega
       have hst3:Hid (Box (wr.setCell ⟨b,4*t+k,none⟩ (.int .u64 (xi:Nat))) b 22 (wordsV (BN.stg t n (4*t+(k+1))))):=Lib.hid (by
        have h9:=hbw.out.set (4*t+k) (.int .u64 (xi:Nat))
        rw [wordsV_set,←hwi1.out,BN.stg_succ (by omega)] at h9
        rw [hwi1.out] at h9
        exact h9)
       have hbl3:=Lib.hid (hbl.out.setCell (p:=⟨b,4*t+k,none⟩) hbge (.int .u64 (xi:Nat)))
       clear hic hbw hbl hwi1
       go_wp2
       go_roundw
       case rel=>exact⟨k+1,by omega,by go_num,hst3,hbl3⟩
       case measure=>simp [intOf];omega
     · obtain rfl:k=n.kids.length:=by omega
       have hA:=Lib.hid (slAll_at (some ⟨b,0,none⟩) (6*t) (6*t))
       have hst3:Hid (Box wr b 22 (wordsV (n.wd t))):=Lib.hid (by have h9:=hbw.out;rw [BN.stg_end t1] at h9;exact h9)
       have hbl3:=Lib.hid hbl.out
       clear hbw hbl
       go_wp2_with fail
       refine(hA.out _).mono ?_
       rintro e W7 ⟨rfl,hW7⟩
       have hb7:Below wr.heap.size wr W7:=by rw [hW7];exact(Below.refl _ _).alloc (Nat.le_refl _) _
       have hc7:W7.cell? ⟨wr.heap.size,0,none⟩=some (.slice (some ⟨b,0,none⟩) (6*t) (6*t)):=by rw [hW7];go_simp
       have hfin:Hid (WordsIt w (n.wd t) (.returned (.func (.func 105) #[] #[.pointer (some ⟨wr.heap.size,0,none⟩)])) W7):=Lib.hid ⟨b,wr.heap.size,rfl,hbge,hbl3.out.size,by rw [BN.wd_len];exact hc7,fun j u hu=>(hst3.out.below hb7).at' hu,(hst3.out.below hb7).lt,hbl3.out.trans (hb7.mono hbl3.out.size)⟩
       clear hW7 hb7 hc7
       go_wp2
       go_ret
       exact hfin.out
attribute [local go_sem] Oper.semAt_some wide_fn
def KeepTwo(b bx:Nat)(A B:World):Prop:=A.heap.size≤B.heap.size∧B.heap[b]? =A.heap[b]? ∧B.heap[bx]? =A.heap[bx]?
theorem KeepTwo.trans{b bx:Nat}{A B C:World}(h:KeepTwo b bx A B)(k:KeepTwo b bx B C):KeepTwo b bx A C:=⟨Nat.le_trans h.1 k.1,k.2.1.trans h.2.1,k.2.2.trans h.2.2⟩
theorem KeepTwo.refl(b bx:Nat)(A:World):KeepTwo b bx A A:=⟨Nat.le_refl _,rfl,rfl⟩
theorem KeepTwo.turn{b bx:Nat}{A B:World}{F F' :Nat→Prop}(h:Turn A F B F')(h1:b<A.heap.size)(h2:bx<A.heap.size)(f1: ¬F b)(f2: ¬F bx):KeepTwo b bx A B:=⟨h.size,h.keep b h1 f1,h.keep bx h2 f2⟩
theorem KeepTwo.put{b bx l:Nat}(W:World)(o:Obj)(h1:b≠l)(h2:bx≠l):KeepTwo b bx W (W.putObj l o):=⟨by simp,World.putObj_heap_other h1,World.putObj_heap_other h2⟩
set_option maxRecDepth 100000 in
theorem all_stops{w:World}{b bx:Nat}{ws:List Nat}(hx:w.cell? ⟨bx,0,none⟩=some (.slice (some ⟨b,0,none⟩) ws.length ws.length))(hc: ∀j u,(wordsV ws)[j]? =some u→w.cell? ⟨b,j,none⟩=some u)(hb:b<w.heap.size)(hl:ws.length≤1000):
 SeqStopsK Fence.wide 8 Tryz.prog 105 #[.pointer (some ⟨bx,0,none⟩)] (fun z:{z:Nat // z<ws.length}=> #[.int .i64 (z.1:Nat), .int .u64 (ws[z.1]'z.2:Nat)]) (KeepTwo b bx) (fun xs=>xs.map (·.1)=List.range ws.length) (fun pre=> ∃t,List.range ws.length=pre.map (·.1)++t) ws.length w:=fun l J Jx W hBW hJ hJx hY h0=>by
 have hx1:=(hBW.cell (p:=⟨bx,0,none⟩) (cell_lt hx)).trans hx
 have hc0:Hid (∀j (h:j<ws.length),W.cell? ⟨b,j,none⟩=some (.int .u64 (ws[j]:Nat))):=Lib.hid (fun j h=>(hBW.cell (p:=⟨b,j,none⟩) hb).trans (hc j _ (by simp [wordsV,h])))
 have J0:=Lib.hid h0
 clear hBW hx hc hb h0
 refine callsIn_of_wp Tryz.func105 rfl trivial ?_ rfl
 simp only [Tryz.ntmps105,List.size_toArray,List.length_cons,List.length_nil,Nat.reduceAdd,Nat.reduceSub,Array.replicate_succ,Array.replicate_zero,List.push_toArray,List.append_toArray,List.nil_append,List.cons_append]
 gi_wp2_with fail
 gi_loopw [7] (fun iv wr=> ∃(pre:List {z:Nat // z<ws.length}) (i:Nat),i≤ws.length∧iv= .int .i64 i∧Hid (pre.map (·.1)=List.range i)∧Hid (∀j (h:j<ws.length),wr.cell? ⟨b,j,none⟩=some (.int .u64 (ws[j]:Nat)))∧Hid (J pre wr)) (fun iv _=>ws.length-(intOf iv).toNat)
 case atStart=>exact⟨[],0,by omega,rfl,Lib.hid rfl,hc0,J0⟩
 case round=>
  obtain⟨pre,i,hi,rfl,hp,hcs,hj⟩:=hrel
  by_cases hlt:i<ws.length
  · have hci:=hcs.out i hlt
    have hpl:pre.length=i:=by have:=congrArg List.length hp.out;simpa using this
    have hYH:=Lib.hid hY
    clear hY hx1
    gi_wp2_with fail
    obtain⟨fn,tmps,assign,body,hy,hRr⟩:=hYH.out pre ⟨i,hlt⟩ _ hj.out (by omega)
    have hRH2:=Lib.hid hRr
    clear hRr
    rw [hy]
    gi_wp2
    refine(hRH2.out).mono ?_
    have hmap:Hid ((pre++ [(⟨i,hlt⟩:{z:Nat // z<ws.length})]).map (·.1)=List.range (i+1)):=Lib.hid (by rw [List.map_append,hp.out,List.range_succ];rfl)
    rintro e W2 (⟨rfl,hJ2,hK2⟩|⟨rfl,hJx2⟩)
    · have hcs2:Hid (∀j (h:j<ws.length),W2.cell? ⟨b,j,none⟩=some (.int .u64 (ws[j]:Nat))):=Lib.hid (fun j h=>(World.cell?_of_block (a:=⟨b,j,none⟩) hK2.2.1).trans (hcs.out j h))
      have hJ4:=Lib.hid hJ2
      clear hJ2 hK2 hci
      gi_wp2
      go_roundw
      case rel=>exact⟨pre++ [⟨i,hlt⟩],i+1,by omega,by go_num,hmap,hcs2,hJ4⟩
      case measure=>simp [intOf];omega
    · have hJx4:=Lib.hid hJx2
      clear hJx2
      gi_wp2
      refine bodyPost_ret (results_none rfl _ _ _) rfl ?_
      refine⟨⟨_,rfl⟩, .inr ⟨_,⟨(List.range ws.length).drop (i+1), ?_⟩,hJx4.out⟩⟩
      rw [hmap.out]
      have:=List.take_append_drop (i+1) (List.range ws.length)
      rw [List.take_range,Nat.min_eq_left (by omega)] at this
      exact this.symm
  · obtain rfl:i=ws.length:=by omega
    clear hY
    gi_wp2
    go_end0
    exact⟨⟨_,rfl⟩, .inl ⟨_,hp.out,hj.out⟩⟩
end Go.Proofs.YthcmecokejemcaaGreatDoor
namespace Go.Proofs.YthcmecokejemcaaGreatDoor
open Go.RowKit Go.Shelf
def findL(l:List Pr)(k:ByteArray):Int:=if (l[rankL l k]?).map (·.1)=some k then ((rankL l k:Nat):Int) else-1
theorem rank_split{k:ByteArray}: ∀{l:List Pr},Rising l→(∀q∈l.take (rankL l k),Tx.cmp q.1 k<0)∧(∀q∈l.drop (rankL l k),¬Tx.cmp q.1 k<0)
 | [],_=>⟨fun q hq=>by simp at hq,fun q hq=>by simp at hq⟩
 |p::l,h=>by
  have h' :=List.pairwise_cons.1 h
  rw [rankL_cons]
  by_cases hp:Tx.cmp p.1 k<0
  · rw [if_pos hp,List.take_succ_cons,List.drop_succ_cons]
    obtain⟨h1,h2⟩:=rank_split (k:=k) h'.2
    refine⟨fun q hq=> ?_,h2⟩
    rcases List.mem_cons.1 hq with rfl|hq
    · exact hp
    · exact h1 q hq
  · have hall: ∀q∈l,¬Tx.cmp q.1 k<0:=fun q hq e=>hp (cmp_lt_trans (h'.1 q hq) e)
    rw [if_neg hp,rankL_none hall]
    refine⟨fun q hq=>by simp at hq,fun q hq=> ?_⟩
    rcases List.mem_cons.1 hq with rfl|hq
    · exact hp
    · exact hall q hq
theorem putL_rising{l:List Pr}(h:Rising l)(p:Pr):Rising (putL l p):=by
 obtain⟨h1,h2⟩:=rank_split (k:=p.1) h
 have hle:=rankL_le l p.1
 unfold putL
 generalize rankL l p.1=n at*
 have hgt: ∀q∈l.drop (if (l[n]?).map (·.1)=some p.1 then n+1 else n),Tx.cmp p.1 q.1<0:=by
  intro q hq
  have hsw:=cmp_swap p.1 q.1
  have hdr:Rising (l.drop n):=List.Pairwise.sublist (List.drop_sublist n l) h
  by_cases hlt:n<l.length
  · have hd:=List.drop_eq_getElem_cons hlt
    rw [List.getElem?_eq_getElem hlt] at hq
    simp only [Option.map_some,Option.some.injEq] at hq
    rw [hd] at hdr h2
    have hdr' :=List.pairwise_cons.1 hdr
    by_cases he:l[n].1=p.1
    · rw [if_pos he] at hq
      have:=hdr'.1 q hq
      rw [he] at this
      exact this
    · rw [if_neg he,hd] at hq
      have h3:=h2 q hq
      have hn3:=h2 l[n] List.mem_cons_self
      rcases List.mem_cons.1 hq with rfl|hq
      · have:Tx.cmp l[n].1 p.1≠0:=fun e=>he (cmp_zero.1 e)
        omega
      · have h4:=hdr'.1 q hq
        have:Tx.cmp l[n].1 p.1≠0:=fun e=>he (cmp_zero.1 e)
        have h5:=cmp_swap p.1 l[n].1
        exact cmp_lt_trans (b:=l[n].1) (by omega) h4
  · rw [List.getElem?_eq_none (by omega)] at hq
    simp only [Option.map_none,reduceCtorEq,if_false] at hq
    rw [List.drop_eq_nil_of_le (by omega)] at hq
    simp at hq
 unfold Rising
 rw [List.pairwise_append,List.pairwise_cons]
 refine⟨List.Pairwise.sublist (List.take_sublist n l) h,⟨hgt,List.Pairwise.sublist (List.drop_sublist _ l) h⟩,fun a ha b hb=> ?_⟩
 have h3:=h1 a ha
 rcases List.mem_cons.1 hb with rfl|hb
 · exact h3
 · exact cmp_lt_trans h3 (hgt b hb)
theorem GrowOut.zero{R R' :Nat→Option (List Nat)}{t:BT}(g:GrowOut R R' t)(h:R 0=none):R' 0=none:=by
 rw [g.old 0 (fun e=>g.nz 0 e rfl),h]
theorem Ints_off{w w' :World}{A:Option Addr}{vs:List Value}{F:Nat→Prop}{B:Nat}(h:CellsF w (fun b=>B≤b) A vs)(hb:Below B w w')(hF: ∀b,F b→B≤b)(hs:w.heap.size≤w'.heap.size):CellsF w' F A vs:=by
 rcases h with h|⟨b,o,h1,h2,h3,h4⟩
 · exact .inl h
 · have h5:b<B:=Nat.lt_of_not_le h3
   exact .inr ⟨b,o,h1,by omega,fun hf=>by have:=hF b hf;omega,fun j u hu=>(hb.cell (p:=⟨b,o+j,none⟩) h5).trans (h4 j u hu)⟩
end Go.Proofs.YthcmecokejemcaaGreatDoor
namespace Go.Proofs.YthcmecokejemcaaGreatDoor
structure It where
 kh:Nat
 vh:Nat
 k:ByteArray
 v:ByteArray
namespace It
def pr(i:It):Pr:=(i.k,i.v)
def hs(i:It):List Nat:= [i.kh,i.vh]
structure At(R:Nat→Option (List Nat))(i:It):Prop where
 kt:R i.kh=some (Tx.wordsL i.k.data.toList)
 vt:R i.vh=some (Tx.wordsL i.v.data.toList)
 ks:i.k.size≤1000
 vs:i.v.size≤1000
theorem At.congr{R R' :Nat→Option (List Nat)}{i:It}(h:At R i)(e: ∀z∈i.hs,R' z=R z):At R' i:=
 ⟨(e _ (by simp [hs])).trans h.kt,(e _ (by simp [hs])).trans h.vt,h.ks,h.vs⟩
end It
structure Sb where
 h:Nat
 its:List It
 ns:List Nat
abbrev Lk:=It × Sb
namespace Bt
def rest(l:List Lk):List It:=l.flatMap fun p=>p.1::p.2.its
def itsOf(c:Sb)(l:List Lk):List It:=c.its++rest l
def nsOf(c:Sb)(l:List Lk):List Nat:=c.ns++l.flatMap fun p=>p.2.ns
def nodeOf(c:Sb)(l:List Lk):BN:=⟨l.map (·.1.kh),l.map (·.1.vh),c.h::l.map (·.2.h),(itsOf c l).length⟩
def leafOf(l:List It):BN:=⟨l.map (·.kh),l.map (·.vh),[],l.length⟩
def At(R:Nat→Option (List Nat))(t:Nat):Nat→Nat→Sb→Prop
 |0,lo,s=>s.ns= [s.h]∧lo≤s.its.length∧BnAt R t s.h (leafOf s.its)
 |a+1,lo,s=> ∃c l,s.its=itsOf c l∧s.ns=s.h::nsOf c l∧lo≤l.length∧BnAt R t s.h (nodeOf c l)∧At R t a (t-1) c∧ ∀p∈l,At R t a (t-1) p.2
theorem rest_cons(p:Lk)(l:List Lk):rest (p::l)=p.1::(p.2.its++rest l):=by simp [rest]
theorem rest_append(l m:List Lk):rest (l++m)=rest l++rest m:=by simp [rest]
theorem itsOf_cons(c:Sb)(p:Lk)(l:List Lk):itsOf c (p::l)=c.its++(p.1::itsOf p.2 l):=by simp [itsOf,rest]
theorem nsOf_cons(c:Sb)(p:Lk)(l:List Lk):nsOf c (p::l)=c.ns++nsOf p.2 l:=by simp [nsOf]
theorem ns_pos{R:Nat→Option (List Nat)}{t:Nat}: ∀{a lo:Nat} {s:Sb},At R t a lo s→s.h∈s.ns
 |0,lo,s,h=>by rw [h.1];simp
 |a+1,lo,s,h=>by obtain⟨c,l,_,h2,_⟩:=h;rw [h2];simp
theorem At.congr{R R' :Nat→Option (List Nat)}{t:Nat}: ∀{a lo:Nat} {s:Sb},At R t a lo s→(∀x∈s.ns,R' x=R x)→At R' t a lo s
 |0,lo,s,h,e=>by
  obtain⟨h1,h2,h3,h4⟩:=h
  exact⟨h1,h2,(e s.h (by rw [h1];simp)).trans h3,h4⟩
 |a+1,lo,s,h,e=>by
  obtain⟨c,l,h1,h2,h3,⟨h4,h5⟩,h6,h7⟩:=h
  rw [h2] at e
  refine⟨c,l,h1,h2,h3,⟨(e s.h (by simp)).trans h4,h5⟩,h6.congr fun x hx=>e x ?_,fun p hp=>(h7 p hp).congr fun x hx=>e x ?_⟩
  · simp [nsOf,hx]
  · simp only [nsOf,List.mem_cons,List.mem_append,List.mem_flatMap]
    exact .inr (.inr ⟨p,hp,hx⟩)
theorem At.lower{R:Nat→Option (List Nat)}{t:Nat}{a lo lo' :Nat}{s:Sb}(h:At R t a lo s)(hl:lo' ≤lo):At R t a lo' s:=by
 cases a with
 |zero=>exact⟨h.1,Nat.le_trans hl h.2.1,h.2.2⟩
 |succ a=>obtain⟨c,l,h1,h2,h3,h4⟩:=h;exact⟨c,l,h1,h2,Nat.le_trans hl h3,h4⟩
theorem At.node{R:Nat→Option (List Nat)}{t a lo:Nat}{s:Sb}(h:At R t a lo s): ∃n,BnAt R t s.h n∧n.size=s.its.length:=by
 cases a with
 |zero=>exact⟨_,h.2.2,rfl⟩
 |succ a=>obtain⟨c,l,h1,h2,h3,h4,_⟩:=h;exact⟨_,h4,by rw [h1];rfl⟩
def kid(c:Sb):List Lk→Nat→Sb
 |_,0=>c
 | [],_+1=>c
 |p::l,k+1=>kid p.2 l k
def pre(c:Sb):List Lk→Nat→List It
 |_,0=> []
 | [],_+1=> []
 |p::l,k+1=>c.its++p.1::pre p.2 l k
def sumK(c:Sb):List Lk→Nat→Nat
 |_,0=>0
 | [],_+1=>0
 |p::l,k+1=>c.its.length+sumK p.2 l k
theorem parts_at: ∀(c:Sb) (l:List Lk) (k:Nat),k≤l.length→itsOf c l=pre c l k++((kid c l k).its++rest (l.drop k))
 |c,l,0,_=>by cases l<;>rfl
 |c,[],k+1,h=>absurd h (by simp)
 |c,p::l,k+1,h=>by
  rw [itsOf_cons,parts_at p.2 l k (by simpa using h)]
  simp [pre,kid]
theorem pre_len: ∀(c:Sb) (l:List Lk) (k:Nat),k≤l.length→(pre c l k).length=k+sumK c l k
 |c,l,0,_=>by cases l<;>rfl
 |c,[],k+1,h=>absurd h (by simp)
 |c,p::l,k+1,h=>by
  simp only [pre,sumK,List.length_append,List.length_cons,pre_len p.2 l k (by simpa using h)]
  omega
theorem kid_get: ∀(c:Sb) (l:List Lk) (k:Nat),k≤l.length→(c.h::l.map (·.2.h))[k]? =some (kid c l k).h
 |c,l,0,_=>by cases l<;>rfl
 |c,[],k+1,h=>absurd h (by simp)
 |c,p::l,k+1,h=>kid_get p.2 l k (by simpa using h)
theorem kid_all{p:Sb→Prop}: ∀{c:Sb} {l:List Lk} (k:Nat),p c→(∀x∈l,p x.2)→p (kid c l k)
 |c,l,0,h,_=>by cases l<;>exact h
 |c,[],k+1,h,_=>h
 |c,x::l,k+1,h,h2=>kid_all k (h2 x (by simp)) (fun y hy=>h2 y (by simp [hy]))
theorem pre_last: ∀(c:Sb) (l:List Lk) (k:Nat) (hk:k<l.length),∃u,pre c l (k+1)=u++ [l[k].1]∧u=pre c l k++(kid c l k).its
 |c,[],k,hk=>absurd hk (by simp)
 |c,p::l,0,hk=>by
  refine⟨c.its, ?_, ?_⟩
  · cases l<;>simp [pre]
  · cases l<;>simp [pre,kid]
 |c,p::l,k+1,hk=>by
  obtain⟨u,h1,h2⟩:=pre_last p.2 l k (by simpa using hk)
  refine⟨c.its++p.1::u, ?_, ?_⟩
  · show c.its++p.1::pre p.2 l (k+1)=_
    rw [h1];simp
  · rw [h2];simp [pre,kid]
def prs(l:List It):List Pr:=l.map It.pr
theorem prs_append(l m:List It):prs (l++m)=prs l++prs m:=by simp [prs]
theorem prs_len(l:List It):(prs l).length=l.length:=by simp [prs]
theorem prs_cons(i:It)(l:List It):prs (i::l)=i.pr::prs l:=rfl
structure Spot(l:List Lk)(key:ByteArray)(k:Nat):Prop where
 le:k≤l.length
 low: ∀i (h:i<l.length),i<k→Tx.cmp l[i].1.k key<0
 high: ∀i (h:i<l.length),k≤i→ ¬Tx.cmp l[i].1.k key<0
theorem cmp_lt_le{a b c:ByteArray}(h:Tx.cmp a b<0)(k: ¬0<Tx.cmp b c):Tx.cmp a c<0:=by
 by_cases h0:Tx.cmp b c=0
 · rw [←cmp_zero.1 h0];exact h
 · exact cmp_lt_trans h (by omega)
theorem rising_low{a b:List Pr}{x:Pr}{key:ByteArray}(h:Rising (a++x::b))(hx: ¬0<Tx.cmp x.1 key): ∀p∈a,Tx.cmp p.1 key<0:=by
 intro p hp
 have h1:=(List.pairwise_append.1 h).2.2 p hp x (by simp)
 exact cmp_lt_le h1 hx
theorem rising_high{a b:List Pr}{x:Pr}{key:ByteArray}(h:Rising (a++x::b))(hx: ¬Tx.cmp x.1 key<0): ∀p∈b,¬Tx.cmp p.1 key<0:=by
 intro p hp
 have h1:=(List.pairwise_cons.1 (List.pairwise_append.1 h).2.1).1 p hp
 intro h2
 exact hx (cmp_lt_le h1 (by omega))
section
variable {c:Sb} {l:List Lk} {key:ByteArray} {k:Nat}
theorem Spot.pre(hs:Spot l key k)(hr:Rising (prs (itsOf c l))): ∀p∈prs (pre c l k),Tx.cmp p.1 key<0:=by
 have hle:=hs.le
 cases k with
 |zero=>intro p hp;cases l<;>simp [Bt.pre,prs] at hp
 |succ j=>
  obtain⟨u,h1,h2⟩:=pre_last c l j (by omega)
  have hl:=hs.low j (by omega) (by omega)
  have hd:Rising (prs u++l[j].1.pr::prs ((kid c l (j+1)).its++rest (l.drop (j+1)))):=by
   rw [parts_at c l (j+1) hle,h1] at hr
   simpa [prs_append,prs_cons,prs] using hr
  rw [h1,prs_append]
  intro p hp
  rcases List.mem_append.1 hp with hp|hp
  · exact rising_low hd (by show¬0<Tx.cmp l[j].1.k key;omega) p hp
  · simp only [prs,List.map_cons,List.map_nil,List.mem_singleton] at hp
    rw [hp]
    exact hl
theorem Spot.post(hs:Spot l key k)(hr:Rising (prs (itsOf c l))): ∀p∈prs (rest (l.drop k)),¬Tx.cmp p.1 key<0:=by
 have hle:=hs.le
 by_cases hk:k<l.length
 · have hh:=hs.high k hk (Nat.le_refl _)
   rw [List.drop_eq_getElem_cons hk,rest_cons,prs_cons]
   rw [parts_at c l k hle,List.drop_eq_getElem_cons hk,rest_cons,←List.append_assoc,prs_append,prs_cons] at hr
   intro p hp
   rcases List.mem_cons.1 hp with rfl|hp
   · exact hh
   · exact rising_high hr hh p hp
 · rw [List.drop_eq_nil_of_le (by omega)]
   intro p hp
   simp [rest,prs] at hp
theorem Spot.rank(hs:Spot l key k)(hr:Rising (prs (itsOf c l))):rankL (prs (itsOf c l)) key=k+sumK c l k+rankL (prs (kid c l k).its) key:=by
 rw [parts_at c l k hs.le,prs_append,prs_append,rankL_append,rankL_append,rankL_all (hs.pre hr),rankL_none (hs.post hr),prs_len,pre_len c l k hs.le]
 omega
theorem Spot.kid_low(hs:Spot l key k)(hr:Rising (prs (itsOf c l)))(hk:k<l.length)(he:l[k].1.k=key): ∀p∈prs (kid c l k).its,Tx.cmp p.1 key<0:=by
 have hh:=hs.high k hk (Nat.le_refl _)
 rw [parts_at c l k hs.le,List.drop_eq_getElem_cons hk,rest_cons,←List.append_assoc,prs_append,prs_cons] at hr
 intro p hp
 refine rising_low hr ?_ p (by rw [prs_append];exact List.mem_append.2 (.inr hp))
 show¬0<Tx.cmp l[k].1.k key
 rw [he,(cmp_zero.2 rfl:Tx.cmp key key=0)]
 omega
end
def findI(l:List It)(key:ByteArray):Option It:=l.find? fun i=>decide (i.k=key)
theorem findI_append(a b:List It)(key:ByteArray):findI (a++b) key=(findI a key).or (findI b key):=by
 unfold findI;rw [List.find?_append]
theorem findI_none{l:List It}{key:ByteArray}(h: ∀i∈l,i.k≠key):findI l key=none:=by
 unfold findI
 rw [List.find?_eq_none]
 intro i hi
 simpa using h i hi
theorem not_key_low{l:List It}{key:ByteArray}(h: ∀p∈prs l,Tx.cmp p.1 key<0): ∀i∈l,i.k≠key:=by
 intro i hi e
 have:=h i.pr (List.mem_map.2 ⟨i,hi,rfl⟩)
 rw [show i.pr.1=key from e,(cmp_zero.2 rfl:Tx.cmp key key=0)] at this
 omega
section
variable {c:Sb} {l:List Lk} {key:ByteArray} {k:Nat}
theorem Spot.here(hs:Spot l key k)(hr:Rising (prs (itsOf c l)))(hk:k<l.length)(he:l[k].1.k=key):findI (itsOf c l) key=some l[k].1:=by
 rw [parts_at c l k hs.le,findI_append,findI_append,findI_none (not_key_low (hs.pre hr)),findI_none (not_key_low (hs.kid_low hr hk he)),List.drop_eq_getElem_cons hk,rest_cons]
 simp [findI,he]
theorem Spot.gone(hs:Spot l key k)(hr:Rising (prs (itsOf c l)))(he: ∀hk:k<l.length,l[k].1.k≠key):findI (itsOf c l) key=findI (kid c l k).its key:=by
 rw [parts_at c l k hs.le,findI_append,findI_append,findI_none (not_key_low (hs.pre hr)),Option.none_or]
 rw [findI_none (l:=rest (l.drop k)),Option.or_none]
 intro i hi e
 by_cases hk:k<l.length
 · have hh:=hs.high k hk (Nat.le_refl _)
   have hne:=he hk
   rw [List.drop_eq_getElem_cons hk,rest_cons] at hi
   rcases List.mem_cons.1 hi with rfl|hi
   · exact hne e
   · rw [parts_at c l k hs.le,List.drop_eq_getElem_cons hk,rest_cons,←List.append_assoc,prs_append,prs_cons] at hr
     have h1:=(List.pairwise_cons.1 (List.pairwise_append.1 hr).2.1).1 i.pr (List.mem_map.2 ⟨i,hi,rfl⟩)
     have h2:Tx.cmp l[k].1.k key<0:=by rw [←e];exact h1
     exact hh h2
 · rw [List.drop_eq_nil_of_le (by omega)] at hi
   simp [rest] at hi
end
theorem findI_rank: ∀{l:List It} {key:ByteArray},Rising (prs l)→findI l key=(l[rankL (prs l) key]?).filter fun i=>decide (i.k=key)
 | [],key,_=>rfl
 |i::l,key,hr=>by
  obtain⟨h1,h2⟩:=List.pairwise_cons.1 hr
  rw [prs_cons,rankL_cons]
  by_cases hl:Tx.cmp i.k key<0
  · have hne:i.k≠key:=fun e=>by rw [e,(cmp_zero.2 rfl:Tx.cmp key key=0)] at hl;omega
    rw [if_pos (show Tx.cmp i.pr.1 key<0 from hl),List.getElem?_cons_succ,←findI_rank h2]
    simp [findI,hne]
  · rw [if_neg (show¬Tx.cmp i.pr.1 key<0 from hl),Nat.add_zero,show rankL (prs l) key=0 from rankL_none (fun p hp hp2=>hl (cmp_lt_trans (h1 p hp) hp2))]
    by_cases he:i.k=key
    · simp [findI,he,Option.filter]
    · have hno: ∀j∈l,j.k≠key:=fun j hj e=>by
       have:=h1 j.pr (List.mem_map.2 ⟨j,hj,rfl⟩)
       rw [show j.pr.1=key from e] at this
       exact hl this
      have:=findI_none hno
      unfold findI at this ⊢
      simp [he,this,Option.filter]
theorem findI_has{l:List It}{key:ByteArray}(hr:Rising (prs l)):(findL (prs l) key=if (findI l key).isSome then ((rankL (prs l) key:Nat):Int) else-1)∧ ∀i,findI l key=some i→l[rankL (prs l) key]? =some i∧i.k=key:=by
 have h:=findI_rank (key:=key) hr
 constructor
 · unfold findL
   rw [h]
   have e:(prs l)[rankL (prs l) key]? =(l[rankL (prs l) key]?).map It.pr:=by unfold prs;rw [List.getElem?_map]
   rw [e]
   cases h1:l[rankL (prs l) key]? with
   |none=>simp
   |some i=>
    by_cases h2:i.k=key
    · simp [h2,It.pr]
    · simp [h2,It.pr]
 · intro i hi
   rw [h] at hi
   have:=Option.filter_eq_some_iff.1 hi
   exact⟨this.1,by simpa using this.2⟩
end Bt
end Go.Proofs.YthcmecokejemcaaGreatDoor
namespace Go.Proofs.YthcmecokejemcaaGreatDoor
open Go.RowKit Go.Shelf
def bsF(f:Nat→Int):Nat→Nat→Nat→Nat
 |0,lo,_=>lo
 |m+1,lo,hi=>if lo<hi then (if f ((lo+hi)/2)<0 then bsF f m ((lo+hi)/2+1) hi else bsF f m lo ((lo+hi)/2)) else lo
theorem bsF_le(f:Nat→Int): ∀(m lo hi:Nat),lo≤hi→lo≤bsF f m lo hi∧bsF f m lo hi≤hi
 |0,lo,hi,h=>⟨Nat.le_refl _,h⟩
 |m+1,lo,hi,h=>by
  unfold bsF
  split
  · split
    · have:=bsF_le f m ((lo+hi)/2+1) hi (by omega);omega
    · have:=bsF_le f m lo ((lo+hi)/2) (by omega);omega
  · omega
theorem bsF_rank(f:Nat→Int)(r:Nat): ∀(m lo hi:Nat),lo≤r→r≤hi→hi-lo≤m→(∀i,i<hi→i<r→f i<0)→(∀i,i<hi→r≤i→ ¬f i<0)→bsF f m lo hi=r
 |0,lo,hi,h1,h2,h3,_,_=>by unfold bsF;omega
 |m+1,lo,hi,h1,h2,h3,h4,h5=>by
  unfold bsF
  split
  · next hlt=>
    split
    · next hc=>
      have: ¬r≤(lo+hi)/2:=fun h=>h5 _ (by omega) h hc
      exact bsF_rank f r m _ hi (by omega) h2 (by omega) h4 h5
    · next hc=>
      have: ¬(lo+hi)/2<r:=fun h=>hc (h4 _ (by omega) h)
      exact bsF_rank f r m lo _ h1 (by omega) (by omega) (fun i hi' =>h4 i (by omega)) (fun i hi' =>h5 i (by omega))
  · omega
section
variable (R:Nat→Option (List Nat)) (t:Nat)
def keyB(x:Nat):ByteArray:=(blobR R x).getD ⟨#[]⟩
def cmpK(l:List Nat)(key:ByteArray)(i:Nat):Int:=Tx.cmp (keyB R (l.getD i 0)) key
def plK(l:List Nat)(key:ByteArray):Nat:=bsF (cmpK R l key) l.length 0 l.length
def plH(l:List Nat)(key:ByteArray):Bool:=decide (plK R l key<l.length)&&decide (cmpK R l key (plK R l key)=0)
def bszR(x:Nat):Int:=wrap64 (bnG R t x).size
def sumSz(l:List Nat)(below:Int):Int:=l.foldl (fun b x=>wrap64 (b+bszR R t x)) below
def bdown(key:ByteArray):Nat→Nat→Int→Option (Nat × Nat) × Int
 |0,_,below=>(none,below)
 |f+1,x,below=>
  if bnE R t x≠0 then (none,below) else
  bstep (bnG R t x) (plK R (bnG R t x).keys key) (plH R (bnG R t x).keys key) below (bdown key f)
where
 bstep (n:BN) (k:Nat) (b:Bool) (below:Int) (rec:Nat→Int→Option (Nat × Nat) × Int):Option (Nat × Nat) × Int:=
  cond b
   (some (n.keys.getD k 0,n.vals.getD k 0),if n.kids= [] then sumSz R t (n.kids.take k) (wrap64 (below+(k:Nat))) else wrap64 (sumSz R t (n.kids.take k) (wrap64 (below+(k:Nat)))+bszR R t (n.kids.getD k 0)))
   (if n.kids= [] then (none,sumSz R t (n.kids.take k) (wrap64 (below+(k:Nat)))) else rec (n.kids.getD k 0) (sumSz R t (n.kids.take k) (wrap64 (below+(k:Nat)))))
end
namespace Bt
section
variable {R:Nat→Option (List Nat)} {t:Nat}
theorem keyB_at{i:It}(h:i.At R):keyB R i.kh=i.k:=by
 unfold keyB blobR
 rw [h.kt]
 obtain⟨h1,h2⟩:=Tx.text_words i.k h.ks
 show(if Tx.isText (Tx.wordsL i.k.data.toList) then some (Tx.textOf (Tx.wordsL i.k.data.toList)) else none).getD ⟨#[]⟩=_
 rw [if_pos h1,h2]
 rfl
theorem drop_mem{α:Type}{l:List α}{r i:Nat}(hi:i<l.length)(h:r≤i):l[i]∈l.drop r:=by
 rw [List.mem_iff_getElem]
 exact⟨i-r,by rw [List.length_drop];omega,by simp [List.getElem_drop,Nat.add_sub_of_le h]⟩
theorem take_mem{α:Type}{l:List α}{r i:Nat}(hi:i<l.length)(h:i<r):l[i]∈l.take r:=by
 rw [List.mem_iff_getElem]
 exact⟨i,by rw [List.length_take];omega,by simp⟩
theorem prs_at{ks:List It}{i:Nat}(h:i<ks.length):(prs ks)[i]'(by rw [prs_len];exact h)=ks[i].pr:=by simp [prs]
theorem place_items{ks:List It}{key:ByteArray}(hA: ∀i∈ks,i.At R)(hr:Rising (prs ks)):plK R (ks.map (·.kh)) key=rankL (prs ks) key:=by
 unfold plK
 obtain⟨h1,h2⟩:=rank_split (k:=key) hr
 have hle:=rankL_le (prs ks) key
 rw [prs_len] at hle
 have hf: ∀i (h:i<ks.length),cmpK R (ks.map (·.kh)) key i=Tx.cmp ks[i].k key:=fun i h=>by
  unfold cmpK
  rw [List.getD_eq_getElem?_getD,List.getElem?_map,List.getElem?_eq_getElem h]
  show Tx.cmp (keyB R ks[i].kh) key=_
  rw [keyB_at (hA _ (List.getElem_mem h))]
 refine bsF_rank _ _ _ _ _ (Nat.zero_le _) (by simpa using hle) (by simp) (fun i hi hr2=> ?_) (fun i hi hr2=> ?_)
 · rw [List.length_map] at hi
   rw [hf i hi]
   exact h1 ks[i].pr (prs_at hi▸take_mem (by rw [prs_len];exact hi) hr2)
 · rw [List.length_map] at hi
   rw [hf i hi]
   exact h2 ks[i].pr (prs_at hi▸drop_mem (by rw [prs_len];exact hi) hr2)
theorem cmpK_items{ks:List It}{key:ByteArray}(hA: ∀i∈ks,i.At R){i:Nat}(h:i<ks.length):cmpK R (ks.map (·.kh)) key i=Tx.cmp ks[i].k key:=by
 unfold cmpK
 rw [List.getD_eq_getElem?_getD,List.getElem?_map,List.getElem?_eq_getElem h]
 show Tx.cmp (keyB R ks[i].kh) key=_
 rw [keyB_at (hA _ (List.getElem_mem h))]
theorem here_items{ks:List It}{key:ByteArray}(hA: ∀i∈ks,i.At R)(hr:Rising (prs ks)):plH R (ks.map (·.kh)) key=(findI ks key).isSome:=by
 unfold plH
 rw [place_items hA hr,findI_rank hr,List.length_map]
 by_cases h:rankL (prs ks) key<ks.length
 · rw [List.getElem?_eq_getElem h,decide_eq_true h,Bool.true_and,cmpK_items hA h]
   by_cases he:ks[rankL (prs ks) key].k=key
   · simp [Option.filter,he,cmp_zero.2]
   · have:Tx.cmp ks[rankL (prs ks) key].k key≠0:=fun e=>he (cmp_zero.1 e)
     simp [Option.filter,he,this]
 · rw [List.getElem?_eq_none (by omega),decide_eq_false h]
   rfl
theorem At.get(ht:BN.Deg t){a lo:Nat}{s:Sb}(h:At R t a lo s):bnE R t s.h=0∧(bnG R t s.h).size=s.its.length:=by
 obtain⟨n,h1,h2⟩:=h.node
 obtain⟨e1,e2⟩:=h1.get ht
 exact⟨e2,by rw [e1];exact h2⟩
theorem At.bsz(ht:BN.Deg t){a lo:Nat}{s:Sb}(h:At R t a lo s)(hb:s.its.length<4611686018427387904):bszR R t s.h=(s.its.length:Nat):=by
 unfold bszR
 rw [(h.get ht).2]
 exact IntWalk.wrap64_in _ (by omega)
theorem its_le(c:Sb): ∀(l:List Lk),c.its.length≤(itsOf c l).length∧ ∀p∈l,p.2.its.length+1≤(itsOf c l).length
 | []=>⟨by simp [itsOf,rest],by simp⟩
 |q::l=>by
  obtain⟨h1,h2⟩:=its_le q.2 l
  rw [itsOf_cons]
  simp only [List.length_append,List.length_cons]
  refine⟨by omega,fun p hp=> ?_⟩
  rcases List.mem_cons.1 hp with rfl|hp
  · omega
  · have:=h2 p hp;omega
theorem sumSz_kids: ∀(c:Sb) (l:List Lk) (k:Nat) (b:Nat),k≤l.length→bszR R t c.h=(c.its.length:Nat)→(∀p∈l,bszR R t p.2.h=(p.2.its.length:Nat))→b+sumK c l k<4611686018427387904→
 sumSz R t ((c.h::l.map (·.2.h)).take k) (b:Nat)=((b+sumK c l k:Nat):Int)
 |c,l,0,b,_,_,_,_=>by cases l<;>rfl
 |c,[],k+1,b,h,_,_,_=>absurd h (by simp)
 |c,p::l,k+1,b,h,h1,h2,h3=>by
  simp only [sumK] at h3
  have ih:=sumSz_kids p.2 l k (b+c.its.length) (by simpa using h) (h2 p (by simp)) (fun q hq=>h2 q (by simp [hq])) (by omega)
  unfold sumSz at ih ⊢
  rw [List.take_succ_cons,List.foldl_cons,h1,←Int.natCast_add,IntWalk.wrap64_in _ (by omega)]
  rw [show((p.2.h::l.map (·.2.h)).take k)=(((p::l).map (·.2.h))).take k from rfl] at ih
  rw [ih]
  simp only [sumK]
  congr 1
  omega
theorem keys_rising: ∀{c:Sb} {l:List Lk},Rising (prs (itsOf c l))→Rising (prs (l.map (·.1)))
 |c,[],_=>List.Pairwise.nil
 |c,p::l,h=>by
  rw [itsOf_cons,prs_append,prs_cons] at h
  have h1:=(List.pairwise_append.1 h).2.1
  obtain⟨h2,h3⟩:=List.pairwise_cons.1 h1
  rw [List.map_cons,prs_cons]
  refine List.pairwise_cons.2 ⟨fun q hq=> ?_,keys_rising h3⟩
  refine h2 q ?_
  obtain⟨i,hi,rfl⟩:=List.mem_map.1 hq
  obtain⟨x,hx,rfl⟩:=List.mem_map.1 hi
  refine List.mem_map.2 ⟨x.1, ?_,rfl⟩
  refine List.mem_append.2 (.inr ?_)
  exact List.mem_flatMap.2 ⟨x,hx,by simp⟩
theorem keys_in{c:Sb}{l:List Lk}{i:It}(h:i∈l.map (·.1)):i∈itsOf c l:=by
 obtain⟨x,hx,rfl⟩:=List.mem_map.1 h
 exact List.mem_append.2 (.inr (List.mem_flatMap.2 ⟨x,hx,by simp⟩))
theorem spot_of{l:List Lk}{key:ByteArray}(hr:Rising (prs (l.map (·.1)))):Spot l key (rankL (prs (l.map (·.1))) key):=by
 obtain⟨h1,h2⟩:=rank_split (k:=key) hr
 have hle:=rankL_le (prs (l.map (·.1))) key
 rw [prs_len,List.length_map] at hle
 refine⟨hle,fun i hi hk=> ?_,fun i hi hk=> ?_⟩
 · have hi2:i<(l.map (·.1)).length:=by rw [List.length_map];exact hi
   have h9:=h1 _ (take_mem (l:=prs (l.map (·.1))) (i:=i) (by rw [prs_len];exact hi2) hk)
   rw [prs_at hi2,List.getElem_map] at h9
   exact h9
 · have hi2:i<(l.map (·.1)).length:=by rw [List.length_map];exact hi
   have h9:=h2 _ (drop_mem (l:=prs (l.map (·.1))) (i:=i) (by rw [prs_len];exact hi2) hk)
   rw [prs_at hi2,List.getElem_map] at h9
   exact h9
theorem kid_its{c:Sb}{l:List Lk}{k:Nat}(hk:k≤l.length){i:It}(h:i∈(kid c l k).its):i∈itsOf c l:=by
 rw [parts_at c l k hk]
 exact List.mem_append.2 (.inr (List.mem_append.2 (.inl h)))
theorem kid_rising{c:Sb}{l:List Lk}{k:Nat}(hk:k≤l.length)(hr:Rising (prs (itsOf c l))):Rising (prs (kid c l k).its):=by
 rw [parts_at c l k hk,prs_append,prs_append] at hr
 exact(List.pairwise_append.1 (List.pairwise_append.1 hr).2.1).1
theorem kid_len{c:Sb}{l:List Lk}{k:Nat}(hk:k≤l.length):k+sumK c l k+(kid c l k).its.length≤(itsOf c l).length:=by
 rw [parts_at c l k hk,List.length_append,List.length_append,pre_len c l k hk]
 omega
theorem bdown_node{key:ByteArray}{f x k:Nat}{n:BN}{b:Bool}{below:Int}(e1:bnG R t x=n)(e2:bnE R t x=0)(hk:plK R n.keys key=k)(hb:plH R n.keys key=b):bdown R t key (f+1) x below=bdown.bstep R t n k b below (bdown R t key f):=by
 subst e1 hk hb
 conv=>lhs;unfold bdown
 rw [if_neg (by rw [e2];simp)]
theorem bdown_leaf{n:BN}{k:Nat}{b:Bool}{below:Nat}{rec:Nat→Int→Option (Nat × Nat) × Int}(h:n.kids= [])(hb:below+k<4611686018427387904):bdown.bstep R t n k b below rec=(cond b (some (n.keys.getD k 0,n.vals.getD k 0)) none,((below+k:Nat):Int)):=by
 unfold bdown.bstep
 rw [h,if_pos rfl,if_pos rfl,List.take_nil]
 have:sumSz R t [] (wrap64 ((below:Int)+(k:Nat)))=((below+k:Nat):Int):=by
  unfold sumSz
  rw [List.foldl_nil,←Int.natCast_add,IntWalk.wrap64_in _ (by omega)]
 rw [this]
 cases b<;>rfl
theorem bdown_inner{n:BN}{k:Nat}{b:Bool}{below sz kid sk:Nat}{rec:Nat→Int→Option (Nat × Nat) × Int}(h:n.kids≠ [])(hs:sumSz R t (n.kids.take k) ((below+k:Nat):Int)=((sk:Nat):Int))(hg:n.kids.getD k 0=kid)(hz:bszR R t kid=((sz:Nat):Int))(hb:sk+sz<4611686018427387904)(hb2:below+k<4611686018427387904):
 bdown.bstep R t n k b below rec=cond b (some (n.keys.getD k 0,n.vals.getD k 0),((sk+sz:Nat):Int)) (rec kid ((sk:Nat):Int)):=by
 unfold bdown.bstep
 rw [if_neg h,if_neg h,←Int.natCast_add,IntWalk.wrap64_in ((below+k:Nat):Int) (by omega),hs,hg,hz,←Int.natCast_add,IntWalk.wrap64_in ((sk+sz:Nat):Int) (by omega)]
theorem bd_arith{below k sk n N:Nat}(h1:k+sk+n≤N)(h2:below+N<4611686018427387904):n<4611686018427387904∧below+k<4611686018427387904∧below+k+sk<4611686018427387904∧below+k+sk+n<4611686018427387904:=by omega
theorem bd_arith2{m N below:Nat}(h1:m≤N)(h2:below+N<4611686018427387904):m<4611686018427387904:=by omega
theorem bdown_right(ht:BN.Deg t)(key:ByteArray): ∀(a lo f:Nat) (s:Sb) (below:Nat),At R t a lo s→(∀i∈s.its,i.At R)→Rising (prs s.its)→a<f→below+s.its.length<4611686018427387904→
 bdown R t key f s.h (below:Nat)=((findI s.its key).map (fun i=>(i.kh,i.vh)),((below+rankL (prs s.its) key:Nat):Int)):=by
 intro a
 induction a with
 |zero=>
  intro lo f s below h hA hr hf hb
  obtain⟨f,rfl⟩: ∃g,f=g+1:=⟨f-1,by omega⟩
  obtain⟨e1,e2⟩:=h.2.2.get ht
  have hle:=rankL_le (prs s.its) key
  rw [prs_len] at hle
  rw [bdown_node e1 e2 (place_items hA hr) (here_items hA hr),bdown_leaf rfl (by omega)]
  cases hfi:findI s.its key with
  |none=>rfl
  |some i=>
   obtain⟨h1,_⟩:=(findI_has hr).2 i hfi
   simp only [leafOf,Option.isSome_some,cond_true,Option.map_some,List.getD_eq_getElem?_getD,List.getElem?_map,h1,Option.getD_some]
 |succ a ih=>
  intro lo f s below h hA hr hf hb
  obtain⟨f,rfl⟩: ∃g,f=g+1:=⟨f-1,by omega⟩
  obtain⟨c,l,h1,h2,h3,h4,h5,h6⟩:=h
  obtain⟨e1,e2⟩:=h4.get ht
  rw [h1] at hA hr hb ⊢
  have hkr:=keys_rising hr
  have hkA: ∀i∈l.map (·.1),i.At R:=fun i hi=>hA i (keys_in hi)
  have hsp:=spot_of (key:=key) hkr
  have hpl:=place_items (key:=key) hkA hkr
  have hhe:=here_items (key:=key) hkA hkr
  rw [List.map_map] at hpl hhe
  have hfh:=fun i=>(findI_has (key:=key) hkr).2 i
  generalize rankL (prs (l.map (·.1))) key=k at hsp hpl hfh
  have hkl:=hsp.le
  have hkid:=kid_all k h5 h6
  have hll:=kid_len (c:=c) hkl
  have hlen:=its_le c l
  obtain⟨b1,b2,b3,b4⟩:=bd_arith hll hb
  have hbs:bszR R t c.h=(c.its.length:Nat):=h5.bsz ht (bd_arith2 hlen.1 hb)
  have hbs2: ∀p∈l,bszR R t p.2.h=(p.2.its.length:Nat):=fun p hp=>(h6 p hp).bsz ht (bd_arith2 (Nat.le_trans (Nat.le_succ _) (hlen.2 p hp)) hb)
  have hsum:=sumSz_kids c l k (below+k) hkl hbs hbs2 b3
  have hkg:=kid_get c l k hkl
  have hks:=hkid.bsz ht b1
  have ih9:=ih (t-1) f (kid c l k) (below+k+sumK c l k) hkid (fun i hi=>hA i (kid_its hkl hi)) (kid_rising hkl hr) (Nat.lt_of_succ_lt_succ hf) b4
  clear hbs hbs2 hlen ih
  rw [bdown_node e1 e2 hpl hhe,bdown_inner (by simp [nodeOf]) hsum (by show(c.h::l.map (·.2.h)).getD k 0=_;rw [List.getD_eq_getElem?_getD,hkg];rfl) hks b4 b2]
  cases hfi:findI (l.map (·.1)) key with
  |some i=>
   obtain⟨g1,g2⟩:=hfh i hfi
   rw [List.getElem?_map] at g1
   by_cases hlt:k<l.length
   · rw [List.getElem?_eq_getElem hlt] at g1
     simp only [Option.map_some,Option.some.injEq] at g1
     rw [hsp.here hr hlt (by rw [g1];exact g2),hsp.rank hr,rankL_all (hsp.kid_low hr hlt (by rw [g1];exact g2)),prs_len]
     simp only [nodeOf,Option.isSome_some,cond_true,List.getD_eq_getElem?_getD,List.getElem?_map,List.getElem?_eq_getElem hlt,Option.map_some,Option.getD_some]
     rw [Nat.add_assoc below k,Nat.add_assoc below]
   · rw [List.getElem?_eq_none (Nat.le_of_not_lt hlt)] at g1
     cases g1
  |none=>
   have hno: ∀hk' :k<l.length,l[k].1.k≠key:=fun hk' e=>by
    unfold findI at hfi
    rw [List.find?_eq_none] at hfi
    exact absurd (hfi l[k].1 (List.mem_map.2 ⟨l[k],List.getElem_mem hk',rfl⟩)) (by simpa using e)
   rw [hsp.gone hr hno,hsp.rank hr]
   simp only [Option.isSome_none,cond_false]
   rw [ih9]
   rw [Nat.add_assoc below k,Nat.add_assoc below]
end
end Bt
section
variable (R:Nat→Option (List Nat)) (t:Nat)
def bputE(x:Nat)(n:BN):Nat:=if¬n.Fits t then 2 else match R x with|none=>7|some ws=>if ws.length=6*t then 0 else 8
def bputR(x:Nat)(n:BN):Nat→Option (List Nat):=if bputE R t x n=0 then updR R x (some (n.wd t)) else R
end
namespace BN
def insKV(n:BN)(k a b:Nat):BN:=⟨n.keys.take k++a::n.keys.drop k,n.vals.take k++b::n.vals.drop k,n.kids,n.size⟩
def insKid(n:BN)(k r:Nat):BN:=⟨n.keys,n.vals,n.kids.take k++r::n.kids.drop k,n.size⟩
def more(n:BN):BN:=⟨n.keys,n.vals,n.kids,(n.size+1)%18446744073709551616⟩
end BN
def btake(R:Nat→Option (List Nat))(t:Nat)(st:List Nat)(n:BN):(Nat→Option (List Nat)) × List Nat × Nat:=
 match st with
 | []=>(R,[],0)
 |x::st=>(bputR R t x n,st,x)
def rsum(R:Nat→Option (List Nat))(t:Nat)(kids:List Nat)(b:Nat):Nat:=kids.foldl (fun b x=>(b+(bnG R t x).size)%18446744073709551616) b
def rightOf(R:Nat→Option (List Nat))(t:Nat)(n:BN):BN:=⟨n.keys.drop (t+1),n.vals.drop (t+1),n.kids.drop (t+1),rsum R t (n.kids.drop (t+1)) (n.keys.length-(t+1))⟩
def leftOf(t:Nat)(n:BN)(rs:Nat):BN:=⟨n.keys.take t,n.vals.take t,n.kids.take (t+1),(n.size+36893488147419103232-rs-1)%18446744073709551616⟩
def bsplit(R:Nat→Option (List Nat))(t h:Nat)(st:List Nat)(n:BN):(Nat→Option (List Nat)) × List Nat × Option (Nat × Nat × Nat):=
 if n.keys.length<2*t then (bputR R t h n,st,none)
 else
  let p:=btake (bputR R t h (leftOf t n (rightOf R t n).size)) t st (rightOf R t n)
  (p.1,p.2.1,some (n.keys.getD t 0,n.vals.getD t 0,p.2.2))
def bins(t:Nat)(key:ByteArray)(ak av:Nat):Nat→(Nat→Option (List Nat))→List Nat→Nat→(Nat→Option (List Nat)) × List Nat × Option (Nat × Nat × Nat)
 |0,R,st,_=>(R,st,none)
 |f+1,R,st,h=>
  if bnE R t h≠0 then (R,st,none)
  else if (bnG R t h).kids= [] then bsplit R t h st ((bnG R t h).insKV (plK R (bnG R t h).keys key) ak av).more
  else
   let p:=bins t key ak av f R st ((bnG R t h).kids.getD (plK R (bnG R t h).keys key) 0)
   match p.2.2 with
   |none=>bsplit p.1 t h p.2.1 (bnG R t h).more
   |some (a,b,r)=>bsplit p.1 t h p.2.1 (((bnG R t h).insKV (plK R (bnG R t h).keys key) a b).insKid (plK R (bnG R t h).keys key+1) r).more
def bpath(R:Nat→Option (List Nat))(t:Nat)(key:ByteArray):Nat→Nat→List Bool
 |0,_=> []
 |f+1,h=>
  if bnE R t h≠0 then []
  else decide (2*t-1≤(bnG R t h).keys.length)::if (bnG R t h).kids= [] then [] else bpath R t key f ((bnG R t h).kids.getD (plK R (bnG R t h).keys key) 0)
def tails:List Bool→Nat
 | []=>0
 |b::p=>if p.all id then p.length+(if b then 1 else 0) else tails p
theorem bputR_same{R:Nat→Option (List Nat)}{t x:Nat}{n:BN}(hf:n.Fits t){ws:List Nat}(hR:R x=some ws)(hl:ws.length=6*t):bputR R t x n=updR R x (some (n.wd t)):=by
 have e:bputE R t x n=0:=by
  unfold bputE
  rw [if_neg (by simpa using hf),hR]
  simp [hl]
 unfold bputR
 rw [if_pos e]
theorem bputR_other{R:Nat→Option (List Nat)}{t x y:Nat}{n:BN}(h:y≠x):bputR R t x n y=R y:=by
 unfold bputR
 split
 · exact updR_other h
 · rfl
namespace Bt
def setKid(c:Sb):List Lk→Nat→Sb→Sb × List Lk
 |l,0,s=>(s,l)
 | [],_+1,_=>(c,[])
 |p::l,k+1,s=>(c,(p.1,(setKid p.2 l k s).1)::(setKid p.2 l k s).2)
def insK(c:Sb):List Lk→Nat→Sb→It→Sb→Sb × List Lk
 |l,0,s,m,r=>(s,(m,r)::l)
 | [],_+1,_,_,_=>(c,[])
 |p::l,k+1,s,m,r=>(c,(p.1,(insK p.2 l k s m r).1)::(insK p.2 l k s m r).2)
theorem setKid_its: ∀(c:Sb) (l:List Lk) (k:Nat) (s:Sb),k≤l.length→itsOf (setKid c l k s).1 (setKid c l k s).2=pre c l k++(s.its++rest (l.drop k))
 |c,l,0,s,_=>by cases l<;>rfl
 |c,[],k+1,s,h=>absurd h (by simp)
 |c,p::l,k+1,s,h=>by
  show itsOf c ((p.1,(setKid p.2 l k s).1)::(setKid p.2 l k s).2)=_
  rw [itsOf_cons,setKid_its p.2 l k s (by simpa using h)]
  simp [pre]
theorem insK_its: ∀(c:Sb) (l:List Lk) (k:Nat) (s:Sb) (m:It) (r:Sb),k≤l.length→itsOf (insK c l k s m r).1 (insK c l k s m r).2=pre c l k++((s.its++m::r.its)++rest (l.drop k))
 |c,l,0,s,m,r,_=>by cases l<;>simp [insK,itsOf,rest,pre]
 |c,[],k+1,s,m,r,h=>absurd h (by simp)
 |c,p::l,k+1,s,m,r,h=>by
  show itsOf c ((p.1,(insK p.2 l k s m r).1)::(insK p.2 l k s m r).2)=_
  rw [itsOf_cons,insK_its p.2 l k s m r (by simpa using h)]
  simp [pre]
theorem setKid_len: ∀(c:Sb) (l:List Lk) (k:Nat) (s:Sb),k≤l.length→(setKid c l k s).2.length=l.length
 |c,l,0,s,_=>by cases l<;>rfl
 |c,[],k+1,s,h=>absurd h (by simp)
 |c,p::l,k+1,s,h=>by
  show((p.1,(setKid p.2 l k s).1)::(setKid p.2 l k s).2).length=_
  rw [List.length_cons,setKid_len p.2 l k s (by simpa using h),List.length_cons]
theorem insK_len: ∀(c:Sb) (l:List Lk) (k:Nat) (s:Sb) (m:It) (r:Sb),k≤l.length→(insK c l k s m r).2.length=l.length+1
 |c,l,0,s,m,r,_=>by cases l<;>rfl
 |c,[],k+1,s,m,r,h=>absurd h (by simp)
 |c,p::l,k+1,s,m,r,h=>by
  show((p.1,(insK p.2 l k s m r).1)::(insK p.2 l k s m r).2).length=_
  rw [List.length_cons,insK_len p.2 l k s m r (by simpa using h),List.length_cons]
theorem setKid_keys: ∀(c:Sb) (l:List Lk) (k:Nat) (s:Sb),k≤l.length→(setKid c l k s).2.map (·.1)=l.map (·.1)
 |c,l,0,s,_=>by cases l<;>rfl
 |c,[],k+1,s,h=>absurd h (by simp)
 |c,p::l,k+1,s,h=>by
  show((p.1,(setKid p.2 l k s).1)::(setKid p.2 l k s).2).map (·.1)=_
  rw [List.map_cons,setKid_keys p.2 l k s (by simpa using h),List.map_cons]
theorem insK_keys: ∀(c:Sb) (l:List Lk) (k:Nat) (s:Sb) (m:It) (r:Sb),k≤l.length→(insK c l k s m r).2.map (·.1)=(l.map (·.1)).take k++m::(l.map (·.1)).drop k
 |c,l,0,s,m,r,_=>by cases l<;>rfl
 |c,[],k+1,s,m,r,h=>absurd h (by simp)
 |c,p::l,k+1,s,m,r,h=>by
  show((p.1,(insK p.2 l k s m r).1)::(insK p.2 l k s m r).2).map (·.1)=_
  rw [List.map_cons,insK_keys p.2 l k s m r (by simpa using h)]
  rfl
theorem setKid_hs: ∀(c:Sb) (l:List Lk) (k:Nat) (s:Sb),k≤l.length→s.h=(kid c l k).h→(setKid c l k s).1.h::(setKid c l k s).2.map (·.2.h)=c.h::l.map (·.2.h)
 |c,l,0,s,_,e=>by cases l<;>simp [setKid,e,kid]
 |c,[],k+1,s,h,_=>absurd h (by simp)
 |c,p::l,k+1,s,h,e=>by
  show c.h::((p.1,(setKid p.2 l k s).1)::(setKid p.2 l k s).2).map (·.2.h)=_
  rw [List.map_cons,setKid_hs p.2 l k s (by simpa using h) e,List.map_cons]
theorem insK_hs: ∀(c:Sb) (l:List Lk) (k:Nat) (s:Sb) (m:It) (r:Sb),k≤l.length→s.h=(kid c l k).h→(insK c l k s m r).1.h::(insK c l k s m r).2.map (·.2.h)=(c.h::l.map (·.2.h)).take (k+1)++r.h::(c.h::l.map (·.2.h)).drop (k+1)
 |c,l,0,s,m,r,_,e=>by cases l<;>simp [insK,e,kid]
 |c,[],k+1,s,m,r,h,_=>absurd h (by simp)
 |c,p::l,k+1,s,m,r,h,e=>by
  show c.h::((p.1,(insK p.2 l k s m r).1)::(insK p.2 l k s m r).2).map (·.2.h)=_
  rw [List.map_cons,insK_hs p.2 l k s m r (by simpa using h) e]
  rfl
theorem setKid_ns: ∀(c:Sb) (l:List Lk) (k:Nat) (s:Sb) (x:Nat),k≤l.length→(nsOf (setKid c l k s).1 (setKid c l k s).2).count x+(kid c l k).ns.count x=(nsOf c l).count x+s.ns.count x
 |c,l,0,s,x,_=>by cases l<;>simp [setKid,nsOf,kid]<;>omega
 |c,[],k+1,s,x,h=>absurd h (by simp)
 |c,p::l,k+1,s,x,h=>by
  have:=setKid_ns p.2 l k s x (by simpa using h)
  show(nsOf c ((p.1,(setKid p.2 l k s).1)::(setKid p.2 l k s).2)).count x+(kid p.2 l k).ns.count x=_
  rw [nsOf_cons,nsOf_cons]
  simp only [List.count_append] at this ⊢
  omega
theorem insK_ns: ∀(c:Sb) (l:List Lk) (k:Nat) (s:Sb) (m:It) (r:Sb) (x:Nat),k≤l.length→(nsOf (insK c l k s m r).1 (insK c l k s m r).2).count x+(kid c l k).ns.count x=(nsOf c l).count x+(s.ns.count x+r.ns.count x)
 |c,l,0,s,m,r,x,_=>by cases l<;>simp [insK,nsOf,kid,List.count_append]<;>omega
 |c,[],k+1,s,m,r,x,h=>absurd h (by simp)
 |c,p::l,k+1,s,m,r,x,h=>by
  have:=insK_ns p.2 l k s m r x (by simpa using h)
  show(nsOf c ((p.1,(insK p.2 l k s m r).1)::(insK p.2 l k s m r).2)).count x+(kid p.2 l k).ns.count x=_
  rw [nsOf_cons,nsOf_cons]
  simp only [List.count_append] at this ⊢
  omega
def putI(l:List It)(i:It):List It:=l.take (rankL (prs l) i.k)++i::l.drop (rankL (prs l) i.k)
theorem putI_len(l:List It)(i:It):(putI l i).length=l.length+1:=by
 unfold putI
 have:=rankL_le (prs l) i.k
 rw [prs_len] at this
 simp only [List.length_append,List.length_take,List.length_cons,List.length_drop]
 omega
theorem putI_parts{a b c:List It}{i:It}(h1: ∀p∈prs a,Tx.cmp p.1 i.k<0)(h2: ∀p∈prs c,¬Tx.cmp p.1 i.k<0):putI (a++(b++c)) i=a++(putI b i++c):=by
 unfold putI
 have hr:rankL (prs (a++(b++c))) i.k=a.length+rankL (prs b) i.k:=by
  rw [prs_append,prs_append,rankL_append,rankL_append,rankL_all h1,rankL_none h2,prs_len];rfl
 have hb:=rankL_le (prs b) i.k
 rw [prs_len] at hb
 rw [hr,List.take_length_add_append,List.drop_length_add_append,List.take_append_of_le_length hb,List.drop_append_of_le_length hb]
 simp
theorem putI_prs{l:List It}{i:It}(hr:Rising (prs l))(hn:findI l i.k=none):prs (putI l i)=putL (prs l) i.pr:=by
 have hh: ¬(prs l)[rankL (prs l) i.pr.1]?.map (·.1)=some i.pr.1:=by
  intro e
  have h1:=(findI_has (key:=i.k) hr).1
  rw [hn] at h1
  unfold findL at h1
  rw [if_pos (show(prs l)[rankL (prs l) i.k]?.map (·.1)=some i.k from e)] at h1
  simp only [Option.isSome_none,Bool.false_eq_true,if_false] at h1
  omega
 unfold putL putI
 rw [if_neg hh]
 simp only [prs,List.map_append,List.map_cons,List.map_take,List.map_drop]
 rfl
end Bt
structure TreeR(N:Nat)(w:World)(s:Nat)(R:Nat→Option (List Nat))(n:Nat)(t:BT)(l:List Pr):Prop where
 rd:Rd N w s R n
 sh:Short R
 z:R 0=none
 at' :t.At R
 prs:t.prs=l
 ris:Rising l
 nod:t.hs.Nodup
 sz:8*t.size≤n
def hasK(l:List Pr)(k:ByteArray):Prop:=(l[rankL l k]?).map (·.1)=some k
instance (l:List Pr) (k:ByteArray):Decidable (hasK l k):=by unfold hasK;infer_instance
section
variable {w w' :World} {s N:Nat} {R:Nat→Option (List Nat)} {n:Nat} {t:BT} {l:List Pr}
theorem TreeR.below(h:TreeR N w s R n t l)(hb:Below w.heap.size w w'):TreeR N w' s R n t l:={ h with rd:=h.rd.below hb }
theorem TreeR.len(h:TreeR N w s R n t l):t.size=l.length:=by rw [←h.prs,BT.prs_len]
theorem TreeR.le(h:TreeR N w s R n t l):l.length≤32768:=by
 have h1:=h.rd.le
 have h2:=h.sz
 have h3:=h.len
 omega
end
theorem sized_of{l:List Pr}(h:longL l=false): ∀p∈l,p.1.size≤1000∧p.2.size≤1000:=by
 intro p hp
 unfold longL at h
 rw [List.any_eq_false] at h
 have:=h p hp
 simp at this
 exact this
theorem CellsF.prs{w:World}{F:Nat→Prop}{A:Option Addr}{l:List Pr}(h:CellsF w F A (prsV l)):Prs w w.heap.size A l:=by
 rcases h with h|⟨b,o,h1,h2,h3,h4⟩
 · left
   cases l with
   |nil=>rfl
   |cons p l=>simp [prsV] at h
 · exact .inr ⟨b,o,h1,h2,h4⟩
def ILaw(w:World)(A:Option Addr)(l:List Pr):Prop:=CellsF w (fun b=>w.heap.size≤b) A (prsV l)∧Sized l∧l.length≤9223372036854775807
abbrev TrueB(w:World):Ending→World→Prop:=fun e w' =>e= .returned (.bool true)∧Below w.heap.size w w'
theorem kb_one(W:World)(b j:Nat)(v:Value):KB (fun k=>k=b) W (W.setCell ⟨b,j,none⟩ v):=KB.setCell (Cs:=fun k=>k=b) (p:=⟨b,j,none⟩) rfl v
section
variable {w w' :World} {s N:Nat} {F:Nat→Prop} {R R' :Nat→Option (List Nat)} {H:List Nat} {P q most last G n:Nat}
theorem GrowOut.other{t t' :BT}(g:GrowOut R R' t)(h:t'.At R):t'.At R' :=h.congr fun x hx=>g.keep (BT.hs_in t' h x hx)
theorem GrowOut.apart{t t' :BT}(g:GrowOut R R' t)(h:t'.At R): ∀x∈t'.hs,x∉t.hs:=fun x hx hm=>BT.hs_in t' h x hx (g.fresh x hm)
theorem StoreIs.kb{Cs:Nat→Prop}(h:StoreIs w s F R H P q most last G)(hk:KB Cs w w')(hF: ∀k,Cs k→ ¬F k)(hs: ¬Cs s)(hp: ∀k,Cs k→ ∀p,w.cell? ⟨k,0,none⟩≠some (.pointer p))(ht: ¬Cs 1):StoreIs w' s F R H P q most last G:=by
 obtain⟨a,ha,t,v,L,mem,sl,Fh,h⟩:=h
 have hFe:=h.F_eq
 have hha: ¬Cs ha:=fun hc=>by
  obtain⟨⟨mb,D,k1,rfl⟩,_,_⟩:=h.heap
  exact hp ha hc _ k1.hs
 exact⟨a,ha,t,v,L,mem,sl,Fh,{ h with
  ca:=hk.cell h.ca hs
  ch:=hk.cell h.ch hs
  ct:=hk.cell h.ct hs
  heap:=h.heap.kb hk (fun k hf hc=>hF k hc (by rw [hFe];exact .inl hf)) hha ht
  tab:=h.tab.kb hk (fun b hf hc=>hF b hc (by rw [hFe];exact .inr hf)) }⟩
end
attribute [local go_sem] Oper.semAt_some wide_fn
structure BN.Ok(n:BN):Prop where
 keys: ∀x∈n.keys,x<18446744073709551616
 vals: ∀x∈n.vals,x<18446744073709551616
 kids: ∀x∈n.kids,x<18446744073709551616
 size:n.size<18446744073709551616
theorem getD_lt{l:List Nat}(h: ∀x∈l,x<18446744073709551616)(i:Nat):l.getD i 0<18446744073709551616:=by
 rw [List.getD_eq_getElem?_getD]
 cases hi:l[i]? with
 |none=>simp
 |some x=>exact h x (List.mem_of_getElem? hi)
theorem BN.Ok.at' {n:BN}(h:n.Ok){t:Nat}(hf:n.keys.length<18446744073709551616)(i:Nat):n.wdAt t i<18446744073709551616:=by
 unfold BN.wdAt
 split
 · exact hf
 · split
   · exact h.size
   · split
     · split
       · exact getD_lt h.keys _
       · exact getD_lt h.vals _
     · exact getD_lt h.kids _
def setW(ws ws0 l:List Nat):List Nat:=(List.range ws0.length).map fun i=>if i∈l then ws.getD i 0 else ws0.getD i 0
theorem setW_len(ws ws0 l:List Nat):(setW ws ws0 l).length=ws0.length:=by simp [setW]
theorem setW_nil(ws ws0:List Nat):setW ws ws0 []=ws0:=by
 refine List.ext_getElem (by simp [setW]) fun i h1 h2=> ?_
 simp [setW,h2]
theorem setW_snoc{ws ws0 l:List Nat}{z:Nat}(hz:z<ws.length):(setW ws ws0 l).set z (ws[z])=setW ws ws0 (l++ [z]):=by
 refine List.ext_getElem (by simp [setW]) fun i h1 h2=> ?_
 rw [List.getElem_set]
 simp only [setW,List.getElem_map,List.getElem_range,List.mem_append,List.mem_singleton]
 by_cases e:z=i
 · subst e;simp [hz]
 · rw [if_neg e]
   have:i≠z:=fun h=>e h.symm
   simp [this]
theorem setW_all{ws ws0:List Nat}(h:ws.length=ws0.length):setW ws ws0 (List.range ws.length)=ws:=by
 refine List.ext_getElem (by simp [setW,h]) fun i h1 h2=> ?_
 simp [setW,h2]
theorem StoreIs.own{A B:World}{row:Option Nat}{N s:Nat}{F:Nat→Prop}{R:Nat→Option (List Nat)}{H:List Nat}{P q most last G:Nat}(h:StoreIs A s F R H P q most last G)(hF: ∀b,F b→b<N)(hg:A.grownBy B row)(hr: ∀r,row=some r→N≤r∧ ∃o:Obj,A.heap[r]? =some o∧o.isCells=false):StoreIs B s F R H P q most last G:=by
 have hno: ∀{p:Addr} {v:Value},A.cell? p=some v→row≠some p.block:=fun hc e=>by
  obtain⟨o,h1,h2⟩:=cell_obj hc
  obtain⟨_,o',h3,h4⟩:=hr _ e
  rw [h1] at h3
  cases h3
  rw [h2] at h4
  cases h4
 refine h.kb (Cs:=fun k=>row=some k) ⟨hg.size,fun k o hk _ hn=>(hg.block k (Array.getElem?_eq_some_iff.1 hk).1 (fun e=>hn e.symm)).trans hk⟩ (fun k e hf=>by have:=hF k hf;have:=(hr k e).1;omega) ?_ (fun k e p hc=>hno hc e) ?_
 · obtain⟨a,ha,t,v,L,mem,sl,Fh,h⟩:=h
   exact hno (p:=⟨s,2,none⟩) h.ca
 · obtain⟨a,ha,t,v,L,mem,sl,Fh,h⟩:=h
   obtain⟨⟨mb,D,k1,rfl⟩,k2,k3⟩:=h.heap
   exact hno (p:=⟨1,0,none⟩) (k1.tab 0 (by decide))
theorem Turn.own{w A B:World}{row:Option Nat}{N:Nat}{F F' :Nat→Prop}(h:Turn w F A F')(hN:w.heap.size≤N)(hg:A.grownBy B row)(hr: ∀r,row=some r→N≤r):Turn w F B F' :=
 ⟨hg.os.trans h.os,hg.tape.trans h.tape,hg.output.trans h.output,Nat.le_trans h.size hg.size,fun k hk hn=>(hg.block k (Nat.lt_of_lt_of_le hk h.size) (fun e=>by have:=hr k e.symm;omega)).trans (h.keep k hk hn),h.grow⟩
theorem KeepsFrom.turn{A B:World}{F F' :Nat→Prop}{N:Nat}(h:Turn A F B F')(hF: ∀b,F b→b<N):KeepsFrom N A B:=
 ⟨h.size,fun k o hk ho _=>(h.keep k (Array.getElem?_eq_some_iff.1 ho).1 (fun hf=>by have:=hF k hf;omega)).trans ho⟩
def BPut(w:World)(s:Nat)(F:Nat→Prop)(R:Nat→Option (List Nat))(H:List Nat)(P q most last G t x:Nat)(n:BN)(e:Ending)(w' :World):Prop:=
 e= .returned (.int .i64 (bputE R t x n:Nat))∧StoreIs w' s F (bputR R t x n) H P q most last G∧Turn w F w' F
section
variable {w w' :World} {s:Nat} {F:Nat→Prop} {R:Nat→Option (List Nat)} {H:List Nat} {P q most last G:Nat}
set_option maxRecDepth 100000 in
theorem bnPut_at(h:StoreIs w s F R H P q most last G)(t:Nat)(ht:BN.Deg t)(x:Nat)(hx:x<18446744073709551616){v:Value}{n:BN}(hv:BNV w F v n)(hok:n.Ok):
 Calls Tryz.prog 19 #[.pointer (some ⟨s,0,none⟩), .int .i64 (t:Nat), .int .u64 (x:Nat),v] w (BPut w s F R H P q most last G t x n):=by
 refine(callsIn_wide (n:=9)).1 ?_
 obtain⟨⟨Ak,ck,Av,cv,Ai,ci,rfl,k1,k2,k3⟩,ll⟩:=hv
 have hwlt:=Lib.hid (fun i=>hok.at' (t:=t) (by have:=ll.1;omega) i)
 have hV:=Lib.hid (fun W (hb:Below w.heap.size w W)=>(⟨⟨Ak,ck,Av,cv,Ai,ci,rfl,k1.turn (Turn.below hb),k2.turn (Turn.below hb),k3.turn (Turn.below hb)⟩,ll⟩:BNV W F _ n))
 have hL0:=fun W (hb:Below w.heap.size w W)=>(callsIn_wide (n:=8)).2 (slen_at (h.below hb) 0 (by decide))
 obtain⟨la,lb,hlr,hl1⟩:=lenR_form R 0
 rw [hlr] at hL0
 have d1:((lb:Int)==1)=false:=by simp;omega
 have hL0H:=Lib.hid hL0
 have hLx:=Lib.hid (fun W (hb:Below w.heap.size w W)=>(callsIn_wide (n:=8)).2 (slen_at (h.below hb) x hx))
 have hFt:=Lib.hid (fun W (hb:Below w.heap.size w W)=>(callsIn_wide (n:=8)).2 (bnFits_at (hV.out W hb) t ht))
 have hWd:=Lib.hid (fun W (hb:Below w.heap.size w W) (hf:n.Fits t)=>(callsIn_wide (n:=8)).2 (bwords_at (hV.out W hb) t ht hf))
 have hS:=Lib.hid h
 have t1:=ht.1
 have t2:=ht.2
 have hbA:=((((Below.refl _ w).alloc (Nat.le_refl _) (Obj.cells #[.pointer (some ⟨s,0,none⟩)] 25)).alloc (by simp) (Obj.cells #[.int .u64 (x:Nat)] 23)).alloc (by simp;omega) (Obj.cells #[.slice Ak n.keys.length ck, .slice Av n.vals.length cv, .slice Ai n.kids.length ci, .int .u64 (n.size:Nat)] 48))
 obtain⟨W0,hW0⟩: ∃W,W=(((w.alloc (Obj.cells #[.pointer (some ⟨s,0,none⟩)] 25)).alloc (Obj.cells #[.int .u64 (x:Nat)] 23)).alloc (Obj.cells #[.slice Ak n.keys.length ck, .slice Av n.vals.length cv, .slice Ai n.kids.length ci, .int .u64 (n.size:Nat)] 48)):=⟨_,rfl⟩
 rw [←hW0] at hbA
 have c1:W0.cell? ⟨w.heap.size,0,none⟩=some (.pointer (some ⟨s,0,none⟩)):=by rw [hW0];go_simp
 have c2:W0.cell? ⟨w.heap.size+1,0,none⟩=some (.int .u64 (x:Nat)):=by rw [hW0];go_simp
 have c30:W0.cell? ⟨w.heap.size+1+1,0,none⟩=some (.slice Ak n.keys.length ck):=by rw [hW0];go_simp
 have c31:W0.cell? ⟨w.heap.size+1+1,1,none⟩=some (.slice Av n.vals.length cv):=by rw [hW0];go_simp
 have c32:W0.cell? ⟨w.heap.size+1+1,2,none⟩=some (.slice Ai n.kids.length ci):=by rw [hW0];go_simp
 have c33:W0.cell? ⟨w.heap.size+1+1,3,none⟩=some (.int .u64 (n.size:Nat)):=by rw [hW0];go_simp
 have hbAH:=Lib.hid hbA
 have hW0H:=Lib.hid hW0
 have hz0:w.heap.size+3≤W0.heap.size:=by rw [hW0];simp
 clear k1 k2 k3 hL0 hl1 hlr h hok hbA hW0 ht
 refine callsIn_of_wp_marks Tryz.func19 rfl trivial ?_ rfl
 simp only [Tryz.ntmps19,List.size_toArray,List.length_cons,List.length_nil,Nat.reduceAdd,Nat.reduceSub,Array.replicate_succ,Array.replicate_zero,List.push_toArray,List.append_toArray,List.nil_append,List.cons_append]
 gi_wp2_with fail
 rw [←hW0H.out]
 refine(hL0H.out _ hbAH.out).mono ?_
 rintro e w1 ⟨rfl,rfl⟩
 gi_wp2_with fail
 refine(hFt.out _ hbAH.out).mono ?_
 rintro e w2 ⟨rfl,hb2⟩
 have d1' :=(hb2.cell (p:=⟨w.heap.size,0,none⟩) (cell_lt c1)).trans c1
 have d2' :=(hb2.cell (p:=⟨w.heap.size+1,0,none⟩) (cell_lt c2)).trans c2
 have d30:=(hb2.cell (p:=⟨w.heap.size+1+1,0,none⟩) (cell_lt c30)).trans c30
 have d31:=(hb2.cell (p:=⟨w.heap.size+1+1,1,none⟩) (cell_lt c31)).trans c31
 have d32:=(hb2.cell (p:=⟨w.heap.size+1+1,2,none⟩) (cell_lt c32)).trans c32
 have d33:=(hb2.cell (p:=⟨w.heap.size+1+1,3,none⟩) (cell_lt c33)).trans c33
 have hb2H:=Lib.hid (hbAH.out.trans (hb2.mono hbAH.out.size))
 have hz2:w.heap.size+3≤w2.heap.size:=Nat.le_trans hz0 hb2.size
 clear c1 c2 c30 c31 c32 c33 hb2 hFt hL0H hz0 hW0H
 by_cases hf:n.Fits t
 · rw [decide_eq_true hf]
   cases hR:R x with
   |none=>
    rw [lenR_none hR] at hLx
    have hfin:Hid (BPut w s F R H P q most last G t x n (.returned (.int .i64 7)) w2):=Lib.hid (by
     have e:bputE R t x n=7:=by unfold bputE;rw [if_neg (fun h=>h hf),hR]
     refine⟨by rw [e];rfl, ?_,Turn.below hb2H.out⟩
     unfold bputR
     rw [if_neg (by rw [e];simp)]
     exact hS.out.below hb2H.out)
    gi_wp2_with fail
    refine(hLx.out _ hb2H.out).mono ?_
    rintro e w3 ⟨rfl,rfl⟩
    gi_wp2
    refine⟨.int .i64 7, ?_,hfin.out⟩
    simp [results,Tryz.f19,go_sem]
   |some ws0=>
    rw [lenR_some hR] at hLx
    by_cases hl:ws0.length=6*t
    · have dl:(((ws0.length:Nat):Int) !=6*(t:Int))=false:=by simp;omega
      gi_wp2_with fail
      refine(hLx.out _ hb2H.out).mono ?_
      rintro e w3 ⟨rfl,rfl⟩
      gi_wp2_with fail
      refine(hWd.out _ hb2H.out hf).mono ?_
      rintro e w4 ⟨b,bx,rfl,hb1,hb2,hcx,hcb,hblt,hb4⟩
      have e1:=(hb4.cell (p:=⟨w.heap.size,0,none⟩) (cell_lt d1')).trans d1'
      have e2:=(hb4.cell (p:=⟨w.heap.size+1,0,none⟩) (cell_lt d2')).trans d2'
      have hb4H:=Lib.hid (hb2H.out.trans (hb4.mono hb2H.out.size))
      have hz4:w.heap.size+3≤w4.heap.size:=Nat.le_trans hz2 hb4.size
      have hcbH:=Lib.hid hcb
      have hlx:bx<w4.heap.size:=cell_lt hcx
      have hSt:=Lib.hid (all_stops hcx hcb hblt (by rw [BN.wd_len];omega))
      have hS4:=Lib.hid (hS.out.below hb4H.out)
      have hF4:=Lib.hid (fun b (hf:F b)=>hS4.out.lt hf)
      have hFw:=Lib.hid (fun b (hf:F b)=>hS.out.lt hf)
      clear d1' d2' d30 d31 d32 d33 hb4 hb2H hcb hLx hWd hV hcx
      gi_wp2_with fail
      have hI0:StoreIs w4 s F (updR R x (some (setW (n.wd t) ws0 (([]:List {z:Nat // z<(n.wd t).length}).map (fun(z:{z:Nat // z<(n.wd t).length})=>z.1))))) H P q most last G∧Turn w4 F w4 F:=by
       refine⟨?_,Turn.refl _ _⟩
       rw [List.map_nil,setW_nil,show updR R x (some ws0)=R from by
        funext y;unfold updR;split
        · next h=>rw [h,hR]
        · rfl]
       exact hS4.out
      refine wpIn_rangeFunc_ownH (α:={z:Nat // z<(n.wd t).length}) rfl (by omega) (gf:=105) (lb:= #[.pointer (some ⟨bx,0,none⟩)]) rfl trivial (enters_of Tryz.func105 (by kernel_rfl) rfl)
       hSt.out (fun h k=>h.trans k) (fun W l o o' hl' hl h1 h2=>KeepTwo.put W _ (by omega) (by omega)) (Below.refl _ _) (fun _=>rfl)
       (fun(pre:List {z:Nat // z<(n.wd t).length}) W=>StoreIs W s F (updR R x (some (setW (n.wd t) ws0 (pre.map (fun(z:{z:Nat // z<(n.wd t).length})=>z.1))))) H P q most last G∧Turn w4 F W F)
       (fun cd pre W=>False)
       (fun pre A B row hs hg hr=>⟨hs.1.own hF4.out hg hr,hs.2.own (Nat.le_refl _) hg (fun r e=>(hr r e).1)⟩)
       (fun _ _ _ _ _ hs _ _=>hs)
       hI0
       (fun z a' W=>a' ={ tmps:= #[Value.pointer (some { block:=s,off:=0 }),Value.int IntKind.i64 ((t:Nat):Int),Value.int IntKind.u64 ((x:Nat):Int),Value.agg #[Value.slice Ak n.keys.length ck,Value.slice Av n.vals.length cv,Value.slice Ai n.kids.length ci,Value.int IntKind.u64 ((n.size:Nat):Int)],Value.pointer (some { block:=w.heap.size,off:=0 }),undef,Value.pointer (some { block:=w.heap.size+1,off:=0 }),Value.pointer (some { block:=w.heap.size+1+1,off:=0 }),Value.int IntKind.i64 0,Value.int IntKind.i64 ((la:Nat):Int),Value.int IntKind.i64 ((lb:Nat):Int),Value.int IntKind.i64 (6*((t:Nat):Int)),Value.int IntKind.i64 0,Value.int IntKind.i64 (z.1:Nat),Value.int IntKind.u64 ((n.wd t)[z.1]'z.2:Nat),Value.tuple #[Value.int IntKind.i64 ((la:Nat):Int),Value.int IntKind.i64 ((lb:Nat):Int)],Value.pointer (some { block:=s,off:=0 }),Value.tuple #[Value.int IntKind.i64 ((la:Nat):Int),Value.int IntKind.i64 ((lb:Nat):Int)],Value.int IntKind.i64 ((la:Nat):Int),Value.int IntKind.i64 ((lb:Nat):Int),Value.int IntKind.i64 ((lb:Nat):Int),Value.bool false,undef,Value.int IntKind.i64 ((t:Nat):Int),Value.agg #[Value.slice Ak n.keys.length ck,Value.slice Av n.vals.length cv,Value.slice Ai n.kids.length ci,Value.int IntKind.u64 ((n.size:Nat):Int)],Value.bool true,Value.bool false,Value.tuple #[Value.int IntKind.i64 (6*((t:Nat):Int)),Value.int IntKind.i64 0],Value.pointer (some { block:=s,off:=0 }),Value.int IntKind.u64 ((x:Nat):Int),Value.tuple #[Value.int IntKind.i64 (6*((t:Nat):Int)),Value.int IntKind.i64 0],Value.int IntKind.i64 (6*((t:Nat):Int)),Value.int IntKind.i64 0,Value.bool false,Value.int IntKind.i64 0,Value.bool false,undef,Value.bool false,Value.int IntKind.i64 (6*((t:Nat):Int)),Value.int IntKind.i64 ((t:Nat):Int),Value.int IntKind.i64 (6*((t:Nat):Int)),Value.bool false,Value.int IntKind.i64 ((t:Nat):Int),Value.agg #[Value.slice Ak n.keys.length ck,Value.slice Av n.vals.length cv,Value.slice Ai n.kids.length ci,Value.int IntKind.u64 ((n.size:Nat):Int)],Value.func (Fn.func 105) #[] #[Value.pointer (some { block:=bx,off:=0 })],Value.int IntKind.i64 (z.1:Nat),Value.int IntKind.u64 ((n.wd t)[z.1]'z.2:Nat),undef,undef,undef,undef,undef],defers:= [] })
       (fun _ _ _ _ _ _ hs _ _=>hs)
       ?assign ?body ?done ?stop
      case assign=>
       rintro l pre ⟨z,hz⟩ W K hi hK
       dsimp only at hK ⊢
       gi_wp2
       exact hK _ W (KeepsOthers.refl _ |>.from _) (KeepTwo.refl _ _ _) hi rfl
      case body=>
       rintro l pre ⟨z,hz⟩ a' W hl' ⟨r,hr⟩ ⟨hs,hT⟩ rfl hlen
       dsimp only
       have q1:=hT.cell e1 (fun hf=>by have:=hFw.out _ hf;simp only at this;omega)
       have q2:=hT.cell e2 (fun hf=>by have:=hFw.out _ hf;simp only at this;omega)
       have hz' :z<ws0.length:=by rw [hl,←BN.wd_len t n];exact hz
       have hPt:=sput_at hs (x:=x) (i:=z) (u:=(n.wd t)[z]) (ws:=setW (n.wd t) ws0 (pre.map (·.1))) (updR_same _ _ _) (by rw [setW_len];exact hz') (by rw [BN.wd_get];exact hwlt.out z)
       rw [updR_twice,setW_snoc hz] at hPt
       have hP:=Lib.hid (CallsIn.inRound l ((callsIn_wide (n:=6)).2 hPt))
       have hTH:=Lib.hid hT
       have hnext:Hid ((pre++ [(⟨z,hz⟩:{z:Nat // z<(n.wd t).length})]).map (·.1)=pre.map (·.1)++ [z]):=Lib.hid (by rw [List.map_append];rfl)
       clear hPt hs hT
       generalize (n.wd t)[z]=wz at*
       gi_wp2_with fail
       refine hP.out.mono ?_
       rintro e W2 ⟨rfl,hS2,hT2⟩
       have hfin:Hid (KeepsFrom w4.heap.size W W2∧KeepTwo b bx W W2∧StoreIs W2 s F (updR R x (some (setW (n.wd t) ws0 ((pre++ [(⟨z,hz⟩:{z:Nat // z<(n.wd t).length})]).map (·.1))))) H P q most last G∧Turn w4 F W2 F):=Lib.hid (by
        have hzw:=hTH.out.size
        refine⟨KeepsFrom.turn hT2 hF4.out,KeepTwo.turn hT2 (by omega) (by omega) (fun hf=>by have:=hFw.out _ hf;omega) (fun hf=>by have:=hFw.out _ hf;omega), ?_,hTH.out.trans hT2⟩
        rw [hnext.out];exact hS2)
       clear hS2 hT2 q1 q2
       gi_wp2
       exact hfin.out
      case done=>
       rintro D' xs W hD hxs ⟨hs,hT⟩ hK
       rw [hxs,setW_all (by rw [BN.wd_len,hl])] at hs
       have hfin:Hid (BPut w s F R H P q most last G t x n (.returned (.int .i64 0)) (W.putObj D' (.deferred none))):=Lib.hid (by
        have e:bputE R t x n=0:=by unfold bputE;rw [if_neg (fun h=>h hf),hR];simp [hl]
        have hg:=grownBy_putObj' W D' (.deferred none)
        refine⟨by rw [e];rfl, ?_,(Turn.below hb4H.out).trans (hT.own (Nat.le_refl _) hg (fun r e=>by cases e;exact hD))⟩
        unfold bputR
        rw [if_pos e]
        exact hs.own hF4.out hg (fun r e=>by cases e;exact⟨hD,_,hK,rfl⟩))
       clear hs hT
       gi_wp2
       refine⟨by simp, .inl ⟨_,_,rfl,run_takeDeferred hK, ?_⟩⟩
       exact⟨.int .i64 0,by simp [results,Tryz.f19,go_sem],hfin.out⟩
      case stop=>
       rintro D' cd pre W hD hSp hf
       exact hf.elim
    · have hfin:Hid (BPut w s F R H P q most last G t x n (.returned (.int .i64 8)) w2):=Lib.hid (by
       have e:bputE R t x n=8:=by unfold bputE;rw [if_neg (fun h=>h hf),hR];simp [hl]
       refine⟨by rw [e];rfl, ?_,Turn.below hb2H.out⟩
       unfold bputR
       rw [if_neg (by rw [e];simp)]
       exact hS.out.below hb2H.out)
      have dl:(((ws0.length:Nat):Int) !=6*(t:Int))=true:=by simp;omega
      have w1:IntKind.i64.wrap (6*(t:Int))=6*(t:Int):=by rw [IntKind.wrap_i64];omega
      gi_wp2_with fail
      refine(hLx.out _ hb2H.out).mono ?_
      rintro e w3 ⟨rfl,rfl⟩
      gi_wp2
      refine⟨.int .i64 8, ?_,hfin.out⟩
      simp [results,Tryz.f19,go_sem]
 · rw [decide_eq_false hf]
   have hfin:Hid (BPut w s F R H P q most last G t x n (.returned (.int .i64 2)) w2):=Lib.hid (by
    have e:bputE R t x n=2:=by unfold bputE;rw [if_pos hf]
    refine⟨by rw [e];rfl, ?_,Turn.below hb2H.out⟩
    unfold bputR
    rw [if_neg (by rw [e];simp)]
    exact hS.out.below hb2H.out)
   gi_wp2
   refine⟨.int .i64 2, ?_,hfin.out⟩
   simp [results,Tryz.f19,go_sem]
end
end Go.Proofs.YthcmecokejemcaaGreatDoor
namespace Go.Proofs.YthcmecokejemcaaGreatDoor
open Go.RowKit Go.Shelf
section
variable {w w' :World} {s:Nat} {F:Nat→Prop} {R:Nat→Option (List Nat)} {H:List Nat} {P q most last G:Nat}
set_option maxRecDepth 100000 in
theorem bnMake_at(h:StoreIs w s F R H P q most last G)(t:Nat)(ht:BN.Deg t){v:Value}{n:BN}(hv:BNV w F v n)(hok:n.Ok)(hf:n.Fits t):
 Calls Tryz.prog 59 #[.pointer (some ⟨s,0,none⟩), .int .i64 (t:Nat),v] w (MadeW w s F R H P q most last G (n.wd t)):=by
 have hokH:=Lib.hid hok
 have hvH:=Lib.hid hv
 obtain⟨⟨Ak,ck,Av,cv,Ai,ci,rfl,k1,k2,k3⟩,ll⟩:=hv
 have t1:=ht.1
 have t2:=ht.2
 have hb0:Below w.heap.size w (w.alloc (Obj.cells #[.slice Ak n.keys.length ck, .slice Av n.vals.length cv, .slice Ai n.kids.length ci, .int .u64 (n.size:Nat)] 48)):=(Below.refl _ w).alloc (Nat.le_refl _) _
 have hbx:=Box.new w 48 [.slice Ak n.keys.length ck, .slice Av n.vals.length cv, .slice Ai n.kids.length ci, .int .u64 (n.size:Nat)]
 obtain⟨W0,hW0⟩: ∃W,W=w.alloc (Obj.cells #[.slice Ak n.keys.length ck, .slice Av n.vals.length cv, .slice Ai n.kids.length ci, .int .u64 (n.size:Nat)] 48):=⟨_,rfl⟩
 rw [←hW0] at hb0
 have hbx0:Box W0 w.heap.size 48 [.slice Ak n.keys.length ck, .slice Av n.vals.length cv, .slice Ai n.kids.length ci, .int .u64 (n.size:Nat)]:=by rw [hW0];exact hbx
 have hL0:=slen_at (h.below hb0) 0 (by decide)
 obtain⟨la,lb,hlr,hl1⟩:=lenR_form R 0
 rw [hlr] at hL0
 have d1:((lb:Int)==1)=false:=by simp;omega
 have hL0H:=Lib.hid hL0
 have hFt:=bnFits_at (hvH.out.turn (Turn.below (F:=F) hb0)) t ht
 rw [decide_eq_true hf] at hFt
 have hFtH:=Lib.hid hFt
 have hS:=Lib.hid h
 have hb0H:=Lib.hid hb0
 have hW0H:=Lib.hid hW0
 have hfH:=Lib.hid hf
 have hFn:Hid (¬F w.heap.size):=Lib.hid (fun hf=>by have:=h.lt hf;omega)
 have c0:=hbx0.at' (i:=0) rfl
 have c1:=hbx0.at' (i:=1) rfl
 have c2:=hbx0.at' (i:=2) rfl
 have c3:=hbx0.at' (i:=3) rfl
 have hbxH:=Lib.hid hbx0
 have wt:IntKind.i64.wrap (6*(t:Int))=6*(t:Int):=by rw [IntKind.wrap_i64];omega
 clear hbx hbx0 hb0 hlr hl1 hL0 hFt h hok k1 k2 k3 hW0 hf
 go_enter Tryz.func59,Tryz.ntmps59
 go_wp2_with fail
 rw [←hW0H.out]
 refine hL0H.out.mono ?_
 rintro e w1 ⟨rfl,rfl⟩
 go_wp2_with fail
 refine hFtH.out.mono ?_
 rintro e w2 ⟨rfl,hb2⟩
 have hM:=smake_at (hS.out.below (hb0H.out.trans (hb2.mono hb0H.out.size))) (6*t) (by omega)
 push_cast at hM
 have hMH:=Lib.hid hM
 have hb2H:=Lib.hid (hb0H.out.trans (hb2.mono hb0H.out.size))
 have hbx2:=Lib.hid (hbxH.out.below hb2)
 clear hM hb2 c0 c1 c2 c3
 go_wp2_with fail
 refine hMH.out.mono ?_
 rintro e w3 (⟨x,F',hx0,hxn,hx64,rfl,hS3,hT3⟩|⟨er,F',rfl,her,hS3,hT3⟩)
 · have hT3H:=Lib.hid ((Turn.below (F:=F) hb2H.out).trans hT3)
   have hbx3:=hbx2.out.turn hT3 hFn.out
   have c0:=hbx3.at' (i:=0) rfl
   have c1:=hbx3.at' (i:=1) rfl
   have c2:=hbx3.at' (i:=2) rfl
   have c3:=hbx3.at' (i:=3) rfl
   have hPt:=bnPut_at hS3 t ht x hx64 (hvH.out.turn hT3H.out) hokH.out
   have hPtH:=Lib.hid hPt
   have hx0H:=Lib.hid hx0
   clear hPt hS3 hT3 hbx3 hx0 hMH
   go_wp2_with fail
   refine hPtH.out.mono ?_
   rintro e w4 ⟨rfl,hS4,hT4⟩
   have e0:bputE (updR R x (some (List.replicate (6*t) 0))) t x n=0:=by
    unfold bputE
    rw [if_neg (fun h=>h hfH.out),updR_same]
    simp
   have hS5:StoreIs w4 s F' (updR R x (some (n.wd t))) (x::H) (P+pgsN ((n.wd t).length+2)) q most last (G+1):=by
    rw [BN.wd_len]
    unfold bputR at hS4
    rw [if_pos e0,updR_twice] at hS4
    exact hS4
   have hfin:Hid (MadeW w s F R H P q most last G (n.wd t) (.returned (.tuple #[.int .u64 (x:Nat), .int .i64 0])) w4):=Lib.hid (.inl ⟨x,F',hx0H.out,hxn,hx64,rfl,hS5,hT3H.out.trans hT4⟩)
   rw [e0]
   clear hS4 hS5 hT4 hPtH
   go_wp2
   go_ret2
   exact hfin.out
 · have d2:((er:Int) !=0)=true:=by simp;omega
   have hfin:Hid (MadeW w s F R H P q most last G (n.wd t) (.returned (.tuple #[.int .u64 0, .int .i64 (er:Nat)])) w3):=Lib.hid (.inr ⟨er,F',rfl,by rw [BN.wd_len];exact her,by rw [BN.wd_len];exact hS3,(Turn.below (F:=F) hb2H.out).trans hT3⟩)
   clear hS3 hT3 hMH her
   go_wp2
   go_ret2
   exact hfin.out
end
section
variable {w w' :World} {s N:Nat} {R:Nat→Option (List Nat)} {n:Nat}
set_option maxRecDepth 100000 in
theorem bnW_at(h:Rd N w s R n){x i bs bh:Nat}{ws:List Nat}(hR:R x=some ws)(hi:i<ws.length)(h1:w.cell? ⟨bs,0,none⟩=some (.pointer (some ⟨s,0,none⟩)))(h2:w.cell? ⟨bh,0,none⟩=some (.int .u64 (x:Nat))):
 Calls Tryz.prog 45 #[.int .i64 (i:Nat), .pointer (some ⟨bs,0,none⟩), .pointer (some ⟨bh,0,none⟩)] w fun e w' =>e= .returned (.int .u64 (ws[i]:Nat))∧w=w' :=by
 have hG:=Lib.hid (rget_at h hR hi)
 generalize ws[i]=u at*
 clear h hR hi
 go_enter Tryz.func45,Tryz.ntmps45
 go_wp2_with fail
 refine hG.out.mono ?_
 rintro e w1 ⟨rfl,rfl⟩
 go_wp2
 go_ret
 exact⟨rfl,rfl⟩
end
namespace BT
def mk:BT→Nat
 |nil=>0
 |node _ _ _ m _ _ _ _=>m
def hgt:BT→Nat
 |nil=>0
 |node _ _ _ _ _ _ l r=>max l.hgt r.hgt+1
def Avl:BT→Prop
 |nil=>True
 |node _ _ _ m _ _ l r=>m=max l.hgt r.hgt+1∧l.hgt≤r.hgt+1∧r.hgt≤l.hgt+1∧l.Avl∧r.Avl
theorem Avl.mk: ∀{t:BT},t.Avl→t.mk=t.hgt
 |nil,_=>rfl
 |node _ _ _ _ _ _ _ _,h=>h.1
structure Sim(t t' :BT):Prop where
 hs:t'.hs=t.hs
 nodes:t'.nodes=t.nodes
 prs:t'.prs=t.prs
theorem Sim.refl(t:BT):Sim t t:=⟨rfl,rfl,rfl⟩
theorem Sim.trans{a b c:BT}(h:Sim a b)(k:Sim b c):Sim a c:=⟨k.hs.trans h.hs,k.nodes.trans h.nodes,k.prs.trans h.prs⟩
theorem Sim.symm{a b:BT}(h:Sim a b):Sim b a:=⟨h.hs.symm,h.nodes.symm,h.prs.symm⟩
theorem Sim.size{a b:BT}(h:Sim a b):b.size=a.size:=by rw [←nodes_len,←nodes_len,h.nodes]
theorem Sim.nodup{a b:BT}(h:Sim a b)(n:a.hs.Nodup):b.hs.Nodup:=by rw [h.hs];exact n
section
variable {R:Nat→Option (List Nat)}
end
end BT
namespace BT
end BT
namespace BT
section
variable {R:Nat→Option (List Nat)} {x kx vx mx y ky vy my z kz vz mz:Nat} {k v k' v' k2 v2:ByteArray} {A B C D E G:BT}
end
end BT
namespace BT
section
variable {R:Nat→Option (List Nat)}
end
end BT
section
variable {R0 R1 R2 R3 R4:Nat→Option (List Nat)} {tl tr t:BT} {x kx vx m m0:Nat} {k v:ByteArray}
theorem GrowOut.on{ta tb:BT}(g:GrowOut R1 R2 tb)(h:ta.At R1):ta.At R2:=h.congr fun z hz=>g.keep (BT.hs_in ta h z hz)
theorem GrowOut.off{ta tb:BT}(g:GrowOut R1 R2 tb)(h:ta.At R1): ∀z∈ta.hs,z∉tb.hs:=fun z hz hz' =>BT.hs_in ta h z hz (g.fresh z hz')
end
theorem idx_any(a:Int)(n:Nat)(hn:0<n): ∃i:Nat,i<n∧(a.tmod n+n).tmod n=(i:Int)∧ -(n:Int)<a.tmod n∧a.tmod n<n:=by
 have h1:=Int.tmod_lt_of_pos a (show(0:Int)<n by omega)
 have h2: -(n:Int)<a.tmod n:=by
  have:=Int.lt_tmod_of_pos a (show(0:Int)<n by omega)
  omega
 refine⟨((a.tmod n+n).tmod n).toNat, ?_, ?_,h2,h1⟩
 · have:=Int.tmod_lt_of_pos (a.tmod n+n) (show(0:Int)<n by omega)
   have:=Int.tmod_nonneg (n:Int) (show 0≤a.tmod n+n by omega)
   omega
 · have:=Int.tmod_nonneg (n:Int) (show 0≤a.tmod n+n by omega)
   omega
end Go.Proofs.YthcmecokejemcaaGreatDoor
