/-
  The seat's own texts, part o: Blob, Blob2, Blob3, BnP, Range, Bput, Node, Node2, Walk1, Walk2, Walk3, Walk4, Walk5, In1.
-/
import Derived.Test.YthcmecokejemcaaGreatDoorWMk
import Derived.Test.YthcmecokejemcaaGreatDoorWMn
import Derived.Maps.OwnIn
set_option linter.unusedSimpArgs false
set_option linter.unusedVariables false
set_option maxHeartbeats 4000000
namespace Go.Proofs.YthcmecokejemcaaGreatDoor
open Go.RowKit Go.Shelf
attribute [local go_sem] Oper.semAt_some wide_fn
section
variable {w w' :World} {s N:Nat} {R:Nat→Option (List Nat)} {n:Nat}
theorem lenR_some{x:Nat}{ws:List Nat}(hR:R x=some ws):lenR R x= .tuple #[.int .i64 (ws.length:Nat), .int .i64 0]:=by unfold lenR;rw [hR]
theorem lenR_none{x:Nat}(hR:R x=none):lenR R x= .tuple #[.int .i64 0, .int .i64 7]:=by unfold lenR;rw [hR]
set_option maxRecDepth 100000 in
theorem words_calls(s x:Nat)(w:World):Calls Tryz.prog 58 #[.pointer (some ⟨s,0,none⟩), .int .u64 (x:Nat)] w fun e w' =>e= .returned (.func (.func 90) #[] #[.pointer (some ⟨w.heap.size,0,none⟩), .pointer (some ⟨w.heap.size+1,0,none⟩)])∧w' =(w.alloc (.cells #[.pointer (some ⟨s,0,none⟩)] 25)).alloc (.cells #[.int .u64 (x:Nat)] 23):=by
 go_enter Tryz.func58,Tryz.ntmps58
 go_wp2
 go_ret
 exact⟨rfl,rfl⟩
set_option maxRecDepth 100000 in
theorem words_stops(h:Rd N w s R n){x B1 B2:Nat}{ws:List Nat}(hR:R x=some ws)(hB1:w.cell? ⟨B1,0,none⟩=some (.pointer (some ⟨s,0,none⟩)))(hB2:w.cell? ⟨B2,0,none⟩=some (.int .u64 (x:Nat)))(c1:B1<N)(c2:B2<N)(cN:N≤w.heap.size):
 SeqStopsK Fence.wide 8 Tryz.prog 90 #[.pointer (some ⟨B1,0,none⟩), .pointer (some ⟨B2,0,none⟩)] (fun z:{z:Nat // z<ws.length}=> #[.int .u64 (ws[z.1]'z.2:Nat)]) (KB (fun k=>N≤k)) (fun xs=>xs.map (·.1)=List.range ws.length) (fun pre=> ∃t,List.range ws.length=pre.map (·.1)++t) ws.length w:=fun l J Jx W hBW hJ hJx hY h0=>by
 have H0:=Lib.hid (h.below hBW)
 have hb1:=(hBW.cell (p:=⟨B1,0,none⟩) (cell_lt hB1)).trans hB1
 have hb2:=(hBW.cell (p:=⟨B2,0,none⟩) (cell_lt hB2)).trans hB2
 obtain⟨hx,hlen,hu⟩:=h.u64 hR
 have hLn:=(callsIn_wide (n:=7)).2 (rlen_at H0.out x hx)
 rw [lenR_some hR] at hLn
 have hLnH:=Lib.hid hLn
 have hRH:=Lib.hid hR
 have huH:=Lib.hid hu
 have J0:=Lib.hid h0
 clear hLn hBW hB1 hB2 h h0 hR hu
 refine callsIn_of_wp Tryz.func90 rfl trivial ?_ rfl
 simp only [Tryz.ntmps90,List.size_toArray,List.length_cons,List.length_nil,Nat.reduceAdd,Nat.reduceSub,Array.replicate_succ,Array.replicate_zero,List.push_toArray,List.append_toArray,List.nil_append,List.cons_append]
 gi_wp2_with fail
 refine hLnH.out.mono ?_
 rintro e w1 ⟨rfl,rfl⟩
 gi_wp2_with fail
 gi_loopw [16] (fun iv wr=> ∃(pre:List {z:Nat // z<ws.length}) (i:Nat),i≤ws.length∧iv= .int .i64 i∧Hid (pre.map (·.1)=List.range i)∧Hid (Rd N wr s R n)∧wr.cell? ⟨B1,0,none⟩=some (.pointer (some ⟨s,0,none⟩))∧wr.cell? ⟨B2,0,none⟩=some (.int .u64 (x:Nat))∧Hid (J pre wr)) (fun iv _=>ws.length-(intOf iv).toNat)
 case atStart=>exact⟨[],0,by omega,rfl,Lib.hid rfl,H0,hb1,hb2,J0⟩
 case round=>
  obtain⟨pre,i,hi,rfl,hp,Hr,hc1,hc2,hj⟩:=hrel
  by_cases hlt:i<ws.length
  · have hG:=Lib.hid ((callsIn_wide (n:=7)).2 (rget_at Hr.out hRH.out hlt))
    have hpl:pre.length=i:=by have:=congrArg List.length hp.out;simpa using this
    have hYH:=Lib.hid hY
    clear hY hb1 hb2
    gi_wp2_with fail
    refine hG.out.mono ?_
    rintro e w2 ⟨rfl,rfl⟩
    gi_wp2_with fail
    obtain⟨fn,tmps,assign,body,hy,hRr⟩:=hYH.out pre ⟨i,hlt⟩ _ hj.out (by omega)
    have hRH2:=Lib.hid hRr
    clear hRr
    rw [hy]
    gi_wp2
    refine(hRH2.out).mono ?_
    have hmap:Hid ((pre++ [(⟨i,hlt⟩:{z:Nat // z<ws.length})]).map (·.1)=List.range (i+1)):=Lib.hid (by rw [List.map_append,hp.out,List.range_succ];rfl)
    rintro e W2 (⟨rfl,hJ2,hK2⟩|⟨rfl,hJx2⟩)
    · have H4:=Lib.hid (Hr.out.kb hK2 (fun k hk=>hk))
      have hd1:=hK2.cell hc1 (by simp;omega)
      have hd2:=hK2.cell hc2 (by simp;omega)
      have hJ4:=Lib.hid hJ2
      clear hJ2 hK2 hc1 hc2
      gi_wp2
      go_roundw
      case rel=>exact⟨pre++ [⟨i,hlt⟩],i+1,by omega,by go_num,hmap,H4,hd1,hd2,hJ4⟩
      case measure=>simp [intOf];omega
    · have hJx4:=Lib.hid hJx2
      clear hJx2
      gi_wp2
      refine bodyPost_ret (results_none rfl _ _ _) rfl ?_
      refine⟨⟨_,rfl⟩, .inr ⟨_,⟨(List.range ws.length).drop (i+1), ?_⟩,hJx4.out⟩⟩
      rw [hmap.out]
      have:=List.take_append_drop (i+1) (List.range ws.length)
      rw [List.take_range,Nat.min_eq_left (by omega)] at this
      exact this.symm
  · obtain rfl:i=ws.length:=by omega
    clear hY
    gi_wp2
    go_end0
    exact⟨⟨_,rfl⟩, .inl ⟨_,hp.out,hj.out⟩⟩
end
end Go.Proofs.YthcmecokejemcaaGreatDoor
namespace Go.Proofs.YthcmecokejemcaaGreatDoor
open Go.RowKit Go.Shelf
attribute [local go_sem] Oper.semAt_some wide_fn
theorem Tryz.under_words:Tryz.prog.underlying 128=some (.slice 22):=by kernel_rfl
theorem Tryz.info_word:(Tryz.prog.info? 22).map (fun i=>(i.zero,i.size,i.bytes))=some (some (.int .u64 0),1,8):=by kernel_rfl
theorem KB.from_below{B N:Nat}{A C:World}(h:Below B A C)(hB:N≤B):KB (fun k=>N≤k) A C:=⟨h.size,fun k o hk _ hn=>(h.block k (by omega)).trans hk⟩
def wordsV(l:List Nat):List Value:=l.map fun u=> .int .u64 (u:Nat)
def RowI(w:World)(bt et:TypeId)(l:List Value)(W:World):Prop:= ∃v,Boxed W w.heap.size bt v∧W.ownsRow w.heap.size et 1 v l.length l∧Below w.heap.size w W
theorem RowI.below{w X Y:World}{bt et:TypeId}{l:List Value}(h:RowI w bt et l X)(hb:Below X.heap.size X Y):RowI w bt et l Y:=by
 obtain⟨v,h1,h2,h3⟩:=h
 exact⟨v,(hb.block _ h1.lt).trans h1,ownsRow_kb (Cs:=fun _=>False) h2 (KB.below hb) (fun _ h=>h.elim),h3.trans (hb.mono h3.size)⟩
theorem rowI_own{β:Type}(w:World)(bt et:TypeId)(f:β→List Value)(n:Nat)(hn:w.heap.size≤n):OwnFrom n (fun s W=>RowI w bt et (f s) W):=fun s X Y row hs hg hr=>by
 obtain⟨v,h1,h2,h3⟩:=hs
 obtain⟨v',a,b,_⟩:=holdsRow_own w.heap.size w.heap.size bt et 1 (fun s=>(f s).length) (fun s=>f s) (fun _ _=>True) s X Y row ⟨v,h1,h2,trivial⟩ hg (fun r e=>(hr r e).2)
 exact⟨v',a,b,ownFrom_below (β:=β) (Nat.le_refl _) hn s X Y row h3 hg hr⟩
theorem row_append{w W w1:World}{bt et:TypeId}{l l' :List Value}{v v' :Value}{tmp:Obj}(hbe:bt≠et)(hv:Boxed W w.heap.size bt v)(hrow:W.ownsRow w.heap.size et 1 v l.length l)(hb:Below w.heap.size w W)
 (hown' :w1.ownsRow w.heap.size et 1 v' l'.length l') (hgrow:(W.alloc tmp).grownBy w1 v.ownBlock):
 Boxed w1 w.heap.size bt v∧RowI w bt et l' (w1.setCell ⟨w.heap.size,0,none⟩ v')∧KeepsOthers W (w1.setCell ⟨w.heap.size,0,none⟩ v')∧Below w.heap.size W (w1.setCell ⟨w.heap.size,0,none⟩ v'):=by
 obtain⟨a1,a2,a3,a4,a5⟩:=hv.appended hbe hrow hb.size (Nat.le_refl _) hown' hgrow
 exact⟨a1,⟨v',a2,a3,hb.trans a5⟩,a4,a5⟩
theorem words_row{ws:List Nat}{xs:List {z:Nat // z<ws.length}}(h:xs.map (·.1)=List.range ws.length):xs.map (fun(z:{z:Nat // z<ws.length})=>Value.int .u64 (ws[z.1]'z.2:Nat))=wordsV ws:=by
 have h1:xs.map (fun(z:{z:Nat // z<ws.length})=>Value.int .u64 (ws[z.1]'z.2:Nat))=(xs.map (·.1)).map fun i=>Value.int .u64 (ws[i]?.getD 0:Nat):=by
  rw [List.map_map]
  refine List.map_congr_left fun z _=> ?_
  simp [z.2]
 rw [h1,h]
 refine List.ext_getElem (by simp [wordsV]) fun i h1 h2=> ?_
 simp only [List.length_map,List.length_range] at h1
 simp [wordsV,h1]
section
variable {w w' :World} {s N:Nat} {R:Nat→Option (List Nat)} {n:Nat}
set_option maxRecDepth 100000 in
theorem appendSeq_at(h:Rd N w s R n){x B1 B2:Nat}{ws:List Nat}(hR:R x=some ws)(hB1:w.cell? ⟨B1,0,none⟩=some (.pointer (some ⟨s,0,none⟩)))(hB2:w.cell? ⟨B2,0,none⟩=some (.int .u64 (x:Nat)))(c1:B1<N)(c2:B2<N)(cN:N≤w.heap.size):
 CallsIn Fence.wide 9 Tryz.prog 89 #[.slice none 0 0, .func (.func 90) #[] #[.pointer (some ⟨B1,0,none⟩), .pointer (some ⟨B2,0,none⟩)]] w fun e w' => ∃v,e= .returned v∧w'.ownsRow w.heap.size 22 1 v ws.length (wordsV ws)∧Below w.heap.size w w' :=by
 obtain⟨i0,hi,hz0,hz1,hz2⟩:=info_parts Tryz.info_word
 have hlen:=(h.u64 hR).2.1
 have HH:=Lib.hid h
 have hRH:=Lib.hid hR
 clear h hR
 refine callsIn_of_wp_marks Tryz.func89 rfl trivial ?_ rfl
 simp only [Tryz.ntmps89,List.size_toArray,List.length_cons,List.length_nil,Nat.reduceAdd,Nat.reduceSub,Array.replicate_succ,Array.replicate_zero,List.push_toArray,List.append_toArray,List.nil_append,List.cons_append]
 gi_wp2_with fail
 have hbx:Boxed (w.alloc (Obj.cells #[Value.slice none 0 0] 128)) w.heap.size 128 (.slice none 0 0):=Boxed.new w _ _
 have hb2w:Below w.heap.size w (w.alloc (Obj.cells #[Value.slice none 0 0] 128)):=(Below.refl _ w).alloc (Nat.le_refl _) _
 have hx1:=(hb2w.cell (p:=⟨B1,0,none⟩) (cell_lt hB1)).trans hB1
 have hx2:=(hb2w.cell (p:=⟨B2,0,none⟩) (cell_lt hB2)).trans hB2
 have HH2:=Lib.hid (HH.out.below hb2w)
 have hz2' :w.heap.size+1≤(w.alloc (Obj.cells #[Value.slice none 0 0] 128)).heap.size:=by simp
 generalize w.alloc (Obj.cells #[Value.slice none 0 0] 128)=w2 at*
 refine wpIn_rangeFunc_ownH (α:={z:Nat // z<ws.length}) rfl (by omega) (gf:=90) (lb:= #[.pointer (some ⟨B1,0,none⟩), .pointer (some ⟨B2,0,none⟩)]) rfl trivial (enters_of Tryz.func90 (by kernel_rfl) rfl)
  (words_stops HH2.out hRH.out hx1 hx2 c1 c2 (by omega))
  (fun h k=>h.trans k) (fun W l o o' _ hl h1 h2=>KB.putObj o' hl h1 h2) (Below.refl _ _) (fun _=>rfl)
  (fun pre W=>RowI w 128 22 (pre.map (fun(z:{z:Nat // z<ws.length})=>Value.int .u64 (ws[z.1]'z.2:Nat))) W)
  (fun cd pre W=>False)
  (rowI_own w _ _ (fun pre:List {z:Nat // z<ws.length}=>pre.map (fun(z:{z:Nat // z<ws.length})=>Value.int .u64 (ws[z.1]'z.2:Nat))) _ (by omega))
  (fun _ _ _ _ _ hs _ _=>hs)
  ⟨_,hbx,World.ownsRow_nil _ _ _ _,hb2w⟩
  (fun z a' W=>a' ={ tmps:= #[Value.slice none 0 0,Value.func (Fn.func 90) #[] #[Value.pointer (some { block:=B1,off:=0 }),Value.pointer (some { block:=B2,off:=0 })],Value.pointer (some { block:=w.heap.size,off:=0 }),undef,Value.slice none 0 0,Value.int IntKind.u64 (ws[z.1]'z.2:Nat),Value.func (Fn.func 90) #[] #[Value.pointer (some { block:=B1,off:=0 }),Value.pointer (some { block:=B2,off:=0 })],Value.int IntKind.u64 (ws[z.1]'z.2:Nat),undef,undef,undef,undef,undef],defers:= [] })
  (fun _ _ _ _ _ _ hs _ _=>hs)
  ?assign ?body ?done ?stop
 case assign=>
  rintro l pre ⟨z,hz⟩ W K hi hK
  dsimp only at hK ⊢
  gi_wp2
  exact hK _ W (KeepsOthers.refl _ |>.from _) (KB.refl _ _) hi rfl
 case body=>
  rintro l pre ⟨z,hz⟩ a' W hl ⟨r,hr⟩ hi rfl hlen
  dsimp only
  obtain⟨v,hv,hrow,hb⟩:=hi
  have hnext:Hid ((pre++ [(⟨z,hz⟩:{z:Nat // z<ws.length})]).map (fun(z:{z:Nat // z<ws.length})=>Value.int .u64 (ws[z.1]'z.2:Nat))=pre.map (fun(z:{z:Nat // z<ws.length})=>Value.int .u64 (ws[z.1]'z.2:Nat))++ [Value.int .u64 (ws[z]:Nat)]):=Lib.hid (by rw [List.map_append];rfl)
  have hpl:(pre.map (fun(z:{z:Nat // z<ws.length})=>Value.int .u64 (ws[z.1]'z.2:Nat))).length≤3998:=by rw [List.length_map];omega
  generalize pre.map (fun(z:{z:Nat // z<ws.length})=>Value.int .u64 (ws[z.1]'z.2:Nat))=told at*
  have hc:=hv.cell
  have hbH:=Lib.hid hb
  have hrowH:=Lib.hid hrow
  have hvH:=Lib.hid hv
  clear hb hrow hv
  have hz:w.heap.size≤W.heap.size:=hbH.out.size
  gi_wp2_with (gi_at_builtin;refine wpListIn_append_own_at _ rfl _ _ 128 rfl w.heap.size 22 i0 (.int .u64 0) 1 8 Tryz.under_words hi hz0 hz1 hz2 rfl (by decide) _ _ _ rfl (hrowH.out.alloc _) ⟨W.heap.size,0,none⟩ 1 1 [.int .u64 (ws[z]:Nat)] rfl rfl (cell_one_new _ _ _) (by simp [Value.oneCell']) (by unfold maxLen;omega) (by omega) (by simp;omega) ?_;intro v' w1 hown' hgrow _ hblk;obtain⟨g',cap',rfl⟩:=ownsRow_succ hown';obtain⟨b1,b2,b4,b5⟩:=row_append (l' :=told++ [Value.int .u64 (ws[z]:Nat)]) (by decide) hvH.out hrowH.out hbH.out (by simpa using hown') hgrow;have hc1:=b1.cell;have hf1:=b1.frozen)
  exact⟨b4.from _,KB.from_below b5 cN,by show RowI w _ _ _ _;rw [hnext.out];exact b2⟩
 case done=>
  rintro D' xs W hD hxs hi hK
  have hrw:=words_row hxs
  rw [hrw] at hi
  have hwl:(wordsV ws).length=ws.length:=by simp [wordsV]
  obtain⟨v,hv,hrow,hb⟩:=hi
  rw [hwl] at hrow
  have hc:=hv.cell
  have hbH:=Lib.hid hb
  have hrowH:=Lib.hid hrow
  clear hb hrow hv hxs hrw
  gi_wp2
  refine⟨by simp, .inl ⟨_,_,rfl,run_takeDeferred hK, ?_⟩⟩
  refine⟨v,by simp [results,Tryz.f89],v,rfl,ownsRow_kb (Cs:=fun _=>False) hrowH.out (KB.putObj _ hK rfl rfl) (fun _ h=>h.elim), ?_⟩
  exact hbH.out.trans (belowK_b (w:=w) (Nat.le_refl _) _ D' _ _ (by omega) hK rfl rfl)
 case stop=>
  rintro D' cd pre W hD hSp hf
  exact hf.elim
set_option maxRecDepth 100000 in
theorem collect_at(h:Rd N w s R n){x B1 B2:Nat}{ws:List Nat}(hR:R x=some ws)(hB1:w.cell? ⟨B1,0,none⟩=some (.pointer (some ⟨s,0,none⟩)))(hB2:w.cell? ⟨B2,0,none⟩=some (.int .u64 (x:Nat)))(c1:B1<N)(c2:B2<N)(cN:N≤w.heap.size):
 Calls Tryz.prog 57 #[.func (.func 90) #[] #[.pointer (some ⟨B1,0,none⟩), .pointer (some ⟨B2,0,none⟩)]] w fun e w' => ∃A c,e= .returned (.slice A ws.length c)∧Tx.U64s w' A ws∧Below w.heap.size w w' :=by
 have hA:=Lib.hid ((callsIn_wide (n:=9)).1 (appendSeq_at h hR hB1 hB2 c1 c2 cN))
 clear h hR hB1 hB2
 go_enter Tryz.func57,Tryz.ntmps57
 go_wp2_with fail
 refine hA.out.mono ?_
 rintro e w1 ⟨v,rfl,hrow,hb⟩
 obtain⟨A,c,rfl⟩:=ownsRow_form hrow
 have hrowH:=Lib.hid hrow
 have hbH:=Lib.hid hb
 clear hrow hb
 go_wp2
 go_ret
 refine⟨A,c,rfl, ?_,hbH.out⟩
 rcases hrowH.out.2 with ⟨h1,h2⟩|⟨g,cap,cur,h1,h2,h3,h4⟩
 · exact .inl (List.eq_nil_of_length_eq_zero h2)
 · cases h1
   refine .inr ⟨g,0,rfl,(Array.getElem?_eq_some_iff.1 h3).1,fun j hj=> ?_⟩
   rw [Nat.zero_add]
   have h9:=hrowH.out.cells (g:=g) rfl j (.int .u64 (ws[j]?.getD 0:Nat)) (by simp [wordsV,hj])
   have he:(⟨g,0,none⟩:Addr).add j=⟨g,j,none⟩:=by
    unfold Addr.add
    split
    · next h0=>have:j=0:=by simpa using h0
               rw [this]
    · simp
   rw [←he]
   exact h9
end
end Go.Proofs.YthcmecokejemcaaGreatDoor
namespace Go.Proofs.YthcmecokejemcaaGreatDoor
open Go.RowKit Go.Shelf
def blobR(R:Nat→Option (List Nat))(x:Nat):Option ByteArray:=
 match R x with
 |some ws=>if Tx.isText ws then some (Tx.textOf ws) else none
 |none=>none
def blobE(R:Nat→Option (List Nat))(x:Nat):Nat:=
 match R x with
 |some ws=>if Tx.isText ws then 0 else 8
 |none=>7
def blobV(R:Nat→Option (List Nat))(x:Nat):Value:= .tuple #[.string ((blobR R x).getD ⟨#[]⟩), .int .i64 (blobE R x:Nat)]
def Short(R:Nat→Option (List Nat)):Prop:= ∀x ws,R x=some ws→ws.length≤200
theorem blobV_some{R:Nat→Option (List Nat)}{x:Nat}{ws:List Nat}(h:R x=some ws):blobV R x=Tx.ofR ws:=by
 unfold blobV blobR blobE Tx.ofR
 rw [h]
 by_cases ht:Tx.isText ws
 · simp only [if_pos ht];rfl
 · simp only [if_neg ht];rfl
theorem blobV_none{R:Nat→Option (List Nat)}{x:Nat}(h:R x=none):blobV R x= .tuple #[.string ⟨#[]⟩, .int .i64 7]:=by
 unfold blobV blobR blobE
 rw [h]
 rfl
section
variable {w w' :World} {s N:Nat} {R:Nat→Option (List Nat)} {n:Nat}
set_option maxRecDepth 100000 in
theorem bget_at(h:Rd N w s R n)(hsh:Short R)(x:Nat)(hx:x<18446744073709551616):
 Calls Tryz.prog 29 #[.pointer (some ⟨s,0,none⟩), .int .u64 (x:Nat)] w fun e w' =>e= .returned (blobV R x)∧Below w.heap.size w w' :=by
 have hL:=Lib.hid (rlen_at h x hx)
 have hH:=Lib.hid h
 cases hR:R x with
 |none=>
  rw [lenR_none hR] at hL
  rw [blobV_none hR]
  clear hR h
  go_enter Tryz.func29,Tryz.ntmps29
  go_wp2_with fail
  refine hL.out.mono ?_
  rintro e w1 ⟨rfl,rfl⟩
  go_wp2
  go_ret2
  exact⟨rfl,Below.refl _ _⟩
 |some ws=>
  rw [lenR_some hR] at hL
  obtain⟨_,_,hu⟩:=h.u64 hR
  have hlt:Hid (∀j:Nat,ws[j]?.getD 0<18446744073709551616):=Lib.hid (fun j=>by
   by_cases hj:j<ws.length
   · rw [List.getElem?_eq_getElem hj];exact hu j hj
   · rw [List.getElem?_eq_none (by omega)];simp)
  have h200:=Lib.hid (hsh x ws hR)
  have hWd:=Lib.hid (fun w=>words_calls s x w)
  have hRH:=Lib.hid hR
  have hs:=Lib.hid (blobV_some hR)
  clear hR h hu
  go_enter Tryz.func29,Tryz.ntmps29
  go_wp2_with fail
  refine hL.out.mono ?_
  rintro e w1 ⟨rfl,rfl⟩
  go_wp2_with fail
  refine(hWd.out _).mono ?_
  rintro e w2 ⟨rfl,hw2⟩
  have hb2:Below w.heap.size w w2:=by rw [hw2];exact((Below.refl _ w).alloc (Nat.le_refl _) _).alloc (by simp) _
  have hx1:w2.cell? ⟨w.heap.size,0,none⟩=some (.pointer (some ⟨s,0,none⟩)):=by rw [hw2];go_simp
  have hx2:w2.cell? ⟨w.heap.size+1,0,none⟩=some (.int .u64 (x:Nat)):=by rw [hw2];go_simp
  have hz2:w.heap.size+2≤w2.heap.size:=by rw [hw2];simp
  have hr2:=hH.out.below hb2
  have hC:=Lib.hid (collect_at (hH.out.here.below hb2 |>.mono (show w.heap.size≤w.heap.size+2 by omega)) hRH.out hx1 hx2 (by omega) (by omega) hz2)
  have hb2H:=Lib.hid hb2
  clear hw2 hx1 hx2 hr2 hb2
  go_wp2_with fail
  refine hC.out.mono ?_
  rintro e w3 ⟨A,c,rfl,hU,hb3⟩
  have hO:=Lib.hid (Tx.of_any A c ws.length ws w3 rfl h200.out hU hlt.out)
  have hb3H:=Lib.hid (hb2H.out.trans (hb3.mono hb2H.out.size))
  clear hU hb3
  go_wp2_with fail
  refine hO.out.mono ?_
  rintro e w4 ⟨rfl,hb4⟩
  have hb4H:=Lib.hid (hb3H.out.trans (hb4.mono hb3H.out.size))
  clear hb4
  by_cases ht:Tx.isText ws
  · rw [Tx.ofR_yes ht]
    go_wp2
    go_ret2
    exact⟨by rw [hs.out,Tx.ofR_yes ht];rfl,hb4H.out⟩
  · rw [Tx.ofR_no ht]
    go_wp2
    go_ret2
    exact⟨by rw [hs.out,Tx.ofR_no ht];rfl,hb4H.out⟩
end
end Go.Proofs.YthcmecokejemcaaGreatDoor
namespace Go.Proofs.YthcmecokejemcaaGreatDoor
structure BN where
 keys:List Nat
 vals:List Nat
 kids:List Nat
 size:Nat
namespace BN
def zero:BN:=⟨[],[],[],0⟩
def Deg(t:Nat):Prop:=2≤t∧t≤16
def Fits(t:Nat)(n:BN):Prop:=n.keys.length≤2*t-1∧n.vals.length=n.keys.length∧(n.kids= []∨(n.kids.length=n.keys.length+1∧0∉n.kids))
instance (t:Nat) (n:BN):Decidable (n.Fits t):=by unfold Fits;infer_instance
instance (t:Nat):Decidable (Deg t):=by unfold Deg;infer_instance
def wdAt(t:Nat)(n:BN)(i:Nat):Nat:=
 if i=0 then n.keys.length else if i=1 then n.size else
 if i<4*t then (if (i-2)%2=0 then n.keys.getD ((i-2)/2) 0 else n.vals.getD ((i-2)/2) 0) else n.kids.getD (i-4*t) 0
def wd(t:Nat)(n:BN):List Nat:=(List.range (6*t)).map (n.wdAt t)
theorem wd_len(t:Nat)(n:BN):(n.wd t).length=6*t:=by simp [wd]
theorem wd_get{t:Nat}{n:BN}{i:Nat}(h:i<(n.wd t).length):(n.wd t)[i]=n.wdAt t i:=by simp [wd]
theorem wd_get? {t:Nat}{n:BN}{i:Nat}(h:i<6*t):(n.wd t)[i]? =some (n.wdAt t i):=by simp [wd,h]
theorem wd_getD{t:Nat}{n:BN}{i:Nat}(h:i<6*t):(n.wd t).getD i 0=n.wdAt t i:=by rw [List.getD_eq_getElem?_getD,wd_get? h];rfl
theorem at_zero(t:Nat)(n:BN):n.wdAt t 0=n.keys.length:=rfl
theorem at_one(t:Nat)(n:BN):n.wdAt t 1=n.size:=rfl
theorem at_key{t:Nat}{n:BN}{k:Nat}(h:k<2*t-1):n.wdAt t (2+2*k)=n.keys.getD k 0:=by
 unfold wdAt
 rw [if_neg (by omega),if_neg (by omega),if_pos (by omega),show(2+2*k-2)=2*k by omega,if_pos (by omega),show 2*k/2=k by omega]
theorem at_val{t:Nat}{n:BN}{k:Nat}(h:k<2*t-1):n.wdAt t (2+2*k+1)=n.vals.getD k 0:=by
 unfold wdAt
 rw [if_neg (by omega),if_neg (by omega),if_pos (by omega),if_neg (by omega),show(2+2*k+1-2)/2=k by omega]
theorem at_kid{t:Nat}(ht:2≤t){n:BN}{k:Nat}:n.wdAt t (4*t+k)=n.kids.getD k 0:=by
 unfold wdAt
 rw [if_neg (by omega),if_neg (by omega),if_neg (by omega),show 4*t+k-4*t=k by omega]
def ofW(t:Nat)(ws:List Nat):BN:=
 ⟨(List.range (ws.getD 0 0)).map fun k=>ws.getD (2+2*k) 0,(List.range (ws.getD 0 0)).map fun k=>ws.getD (2+2*k+1) 0,
  if ws.getD (4*t) 0=0 then [] else (List.range (ws.getD 0 0+1)).map fun k=>ws.getD (4*t+k) 0,ws.getD 1 0⟩
def IsW(t:Nat)(ws:List Nat):Prop:=ws.length=6*t∧ws.getD 0 0≤2*t-1∧(ofW t ws).Fits t∧(ofW t ws).wd t=ws
instance (t:Nat) (ws:List Nat):Decidable (IsW t ws):=by unfold IsW;infer_instance
theorem ext' {a b:BN}(h1:a.keys=b.keys)(h2:a.vals=b.vals)(h3:a.kids=b.kids)(h4:a.size=b.size):a=b:=by
 cases a;cases b;simp_all
theorem map_getD(l:List Nat):(List.range l.length).map (fun k=>l.getD k 0)=l:=by
 refine List.ext_getElem (by simp) fun i h1 h2=> ?_
 simp [h2]
theorem ofW_wd{t:Nat}(ht:Deg t){n:BN}(h:n.Fits t):ofW t (n.wd t)=n:=by
 obtain⟨t1,t2⟩:=ht
 obtain⟨h1,h2,h3⟩:=h
 have e0:(n.wd t).getD 0 0=n.keys.length:=by rw [wd_getD (by omega),at_zero]
 unfold ofW
 rw [e0]
 refine ext' ?_ ?_ ?_ ?_
 · show(List.range n.keys.length).map _=_
   conv=>rhs;rw [←map_getD n.keys]
   refine List.map_congr_left fun k hk=> ?_
   have:=List.mem_range.1 hk
   rw [wd_getD (by omega),at_key (by omega)]
 · show(List.range n.keys.length).map _=_
   conv=>rhs;rw [←map_getD n.vals,h2]
   refine List.map_congr_left fun k hk=> ?_
   have:=List.mem_range.1 hk
   rw [wd_getD (by omega),at_val (by omega)]
 · show(if (n.wd t).getD (4*t) 0=0 then [] else _)=_
   have e4:(n.wd t).getD (4*t) 0=n.kids.getD 0 0:=by rw [wd_getD (by omega)];exact at_kid (k:=0) t1
   rw [e4]
   rcases h3 with h3|⟨h3,h4⟩
   · rw [h3,if_pos (by rfl)]
   · have hl:0<n.kids.length:=by omega
     have:n.kids.getD 0 0≠0:=by
      intro e
      apply h4
      rw [←e,List.getD_eq_getElem?_getD,List.getElem?_eq_getElem hl]
      exact List.getElem_mem hl
     rw [if_neg this,←h3]
     conv=>rhs;rw [←map_getD n.kids]
     refine List.map_congr_left fun k hk=> ?_
     have:=List.mem_range.1 hk
     rw [wd_getD (by omega),at_kid t1]
 · show(n.wd t).getD 1 0=_
   rw [wd_getD (by omega),at_one]
theorem isW_wd{t:Nat}(ht:Deg t){n:BN}(h:n.Fits t):IsW t (n.wd t):=by
 refine⟨wd_len t n, ?_, ?_, ?_⟩
 · rw [wd_getD (by have:=ht.1;omega),at_zero];exact h.1
 · rw [ofW_wd ht h];exact h
 · rw [ofW_wd ht h]
end BN
def bnG(R:Nat→Option (List Nat))(t x:Nat):BN:=
 match R x with
 |some ws=>if BN.IsW t ws then BN.ofW t ws else BN.zero
 |none=>BN.zero
def bnE(R:Nat→Option (List Nat))(t x:Nat):Nat:=
 match R x with
 |some ws=>if BN.IsW t ws then 0 else 8
 |none=>7
def BnAt(R:Nat→Option (List Nat))(t x:Nat)(n:BN):Prop:=R x=some (n.wd t)∧n.Fits t
theorem BnAt.get{R:Nat→Option (List Nat)}{t x:Nat}{n:BN}(ht:BN.Deg t)(h:BnAt R t x n):bnG R t x=n∧bnE R t x=0:=by
 unfold bnG bnE
 rw [h.1]
 simp only [if_pos (BN.isW_wd ht h.2),BN.ofW_wd ht h.2,and_self]
theorem bnE_zero{R:Nat→Option (List Nat)}{t x:Nat}(ht:BN.Deg t):bnE R t x=0↔BnAt R t x (bnG R t x):=by
 unfold bnE BnAt bnG
 cases h:R x with
 |none=>simp
 |some ws=>
  by_cases hw:BN.IsW t ws
  · simp only [if_pos hw,true_iff]
    exact⟨by rw [hw.2.2.2],hw.2.2.1⟩
  · simp only [if_neg hw]
    constructor
    · intro h;cases h
    · rintro⟨h1,h2⟩
      exfalso
      have:ws=BN.zero.wd t:=Option.some.inj h1
      exact hw (by rw [this];exact BN.isW_wd ht h2)
theorem bnE_cases(R:Nat→Option (List Nat))(t x:Nat):bnE R t x=0∨(bnE R t x=7∧R x=none∧bnG R t x=BN.zero)∨(bnE R t x=8∧bnG R t x=BN.zero):=by
 unfold bnE bnG
 cases h:R x with
 |none=>exact .inr (.inl ⟨rfl,rfl,rfl⟩)
 |some ws=>
  by_cases hw:BN.IsW t ws
  · dsimp only;rw [if_pos hw];exact .inl rfl
  · dsimp only;rw [if_neg hw,if_neg hw];exact .inr (.inr ⟨rfl,rfl⟩)
theorem bnG_off{R:Nat→Option (List Nat)}{t x:Nat}(h:bnE R t x≠0):bnG R t x=BN.zero:=by
 rcases bnE_cases R t x with h' |h' |h'
 · exact absurd h' h
 · exact h'.2.2
 · exact h'.2
end Go.Proofs.YthcmecokejemcaaGreatDoor
namespace Go.Proofs.YthcmecokejemcaaGreatDoor
open Go.RowKit Go.Shelf
variable {F:Fence} {n:Nat} {P:Program}
def BookAt(b:Nat)(r:Loop)(W:World):Prop:=W.heap[b+1]? =some (.loop r)∧W.heap[b]? =some (.deferred (some []))
theorem BookAt.lt{b:Nat}{r:Loop}{W:World}(h:BookAt b r W):b+1<W.heap.size:=(Array.getElem?_eq_some_iff.1 h.1).1
theorem BookAt.turn{b:Nat}{r:Loop}{W:World}(h:BookAt b r W)(r' :Loop):BookAt b r' (W.putObj (b+1) (.loop r')):=
 ⟨World.putObj_heap_same h.lt,(World.putObj_heap_other (by omega)).trans h.2⟩
end Go.Proofs.YthcmecokejemcaaGreatDoor
namespace Go.Proofs.YthcmecokejemcaaGreatDoor
open Go.RowKit Go.Shelf
def MadeW(w:World)(s:Nat)(F:Nat→Prop)(R:Nat→Option (List Nat))(H:List Nat)(P q most last G:Nat)(ws:List Nat)(e:Ending)(w' :World):Prop:=
 (∃x F',R x=none∧x≠0∧x<18446744073709551616∧e= .returned (.tuple #[.int .u64 (x:Nat), .int .i64 0])∧StoreIs w' s F' (updR R x (some ws)) (x::H) (P+pgsN (ws.length+2)) q most last (G+1)∧Turn w F w' F')∨
 (∃er F',e= .returned (.tuple #[.int .u64 0, .int .i64 (er:Nat)])∧((er=3∧q<(P+pgsN (ws.length+2))*64)∨(er=10∧(most≤H.length∨last≤G)))∧StoreIs w' s F' R H (P+pgsN (ws.length+2)) q most last G∧Turn w F w' F')
theorem lenR_form(R:Nat→Option (List Nat))(x:Nat): ∃a b:Nat,lenR R x= .tuple #[.int .i64 (a:Nat), .int .i64 (b:Nat)]∧b≠1:=by
 unfold lenR
 cases R x with
 |none=>exact⟨0,7,rfl,by decide⟩
 |some ws=>exact⟨ws.length,0,rfl,by decide⟩
theorem updR_twice(R:Nat→Option (List Nat))(x:Nat)(o o' :Option (List Nat)):updR (updR R x o) x o' =updR R x o' :=by
 funext y;unfold updR;split<;>rfl
def part(ws:List Nat)(k:Nat):List Nat:=ws.take k++List.replicate (ws.length-k) 0
theorem part_len(ws:List Nat)(k:Nat):(part ws k).length=ws.length:=by unfold part;simp;omega
theorem part_zero(ws:List Nat):part ws 0=List.replicate ws.length 0:=by unfold part;simp
theorem part_all(ws:List Nat):part ws ws.length=ws:=by unfold part;simp
theorem part_at(ws:List Nat)(k i:Nat)(hk:k≤ws.length):(part ws k)[i]? =if i<k then ws[i]? else if i<ws.length then some 0 else none:=by
 unfold part
 rw [List.getElem?_append,List.length_take,Nat.min_eq_left hk]
 by_cases h:i<k
 · rw [if_pos h,if_pos h,List.getElem?_take,if_pos h]
 · rw [if_neg h,if_neg h,List.getElem?_replicate]
   by_cases h2:i<ws.length
   · rw [if_pos h2,if_pos (by omega)]
   · rw [if_neg h2,if_neg (by omega)]
theorem part_set(ws:List Nat)(k:Nat)(hk:k<ws.length):(part ws k).set k ws[k]=part ws (k+1):=by
 refine List.ext_getElem? fun i=> ?_
 rw [List.getElem?_set,part_at ws k i (by omega),part_at ws (k+1) i (by omega),part_len]
 by_cases e:k=i
 · subst e
   rw [if_pos rfl,if_pos hk,if_pos (by omega),List.getElem?_eq_getElem hk]
 · rw [if_neg e]
   by_cases h:i<k
   · rw [if_pos h,if_pos (by omega)]
   · rw [if_neg h,if_neg (show¬i<k+1 by omega)]
theorem U64s_turn{w w' :World}{A:Option Addr}{l:List Nat}{F F' :Nat→Prop}(h:Tx.U64s w A l)(ht:Turn w F w' F')(hF: ∀r,A=some r→ ¬F r.block):Tx.U64s w' A l:=by
 rcases h with h|⟨b,o,rfl,hlt,hc⟩
 · exact .inl h
 · exact .inr ⟨b,o,rfl,Nat.lt_of_lt_of_le hlt ht.size,fun j hj=>ht.cell (hc j hj) (hF ⟨b,o,none⟩ rfl)⟩
section
variable {w w' :World} {s:Nat} {F:Nat→Prop} {R:Nat→Option (List Nat)} {H:List Nat} {P q most last G:Nat}
set_option maxRecDepth 100000 in
theorem bput_at(h:StoreIs w s F R H P q most last G)(b:ByteArray)(hb:b.size≤1000):
 Calls Tryz.prog 41 #[.pointer (some ⟨s,0,none⟩), .string b] w (MadeW w s F R H P q most last G (Tx.wordsL b.data.toList)):=by
 have hL:=Lib.hid (slen_at h 0 (by decide))
 obtain⟨la,lb,hlr,hl1⟩:=lenR_form R 0
 rw [hlr] at hL
 have d1:((lb:Int)==1)=false:=by simp;omega
 have hW:=Lib.hid (Tx.words_any b w hb)
 have hwl:(Tx.wordsL b.data.toList).length=Tx.many b.size:=by rw [Tx.wordsL_length,Tx.size_list]
 have hm1:Tx.many b.size≤126:=by unfold Tx.many;omega
 have hget:=Lib.hid (fun j (hj:j<Tx.many b.size)=>Tx.wordsL_get b.data.toList j (by rw [Tx.size_list];exact hj))
 have hlt:=Lib.hid (Tx.wordsL_lt b hb)
 have hH:=Lib.hid h
 obtain⟨ws,hws⟩: ∃ws,ws=Tx.wordsL b.data.toList:=⟨_,rfl⟩
 obtain⟨m,hm⟩: ∃m,m=Tx.many b.size:=⟨_,rfl⟩
 rw [←hws] at hwl hget hlt ⊢
 rw [←hm] at hwl hm1 hget hW
 have hwlH:=Lib.hid hwl
 clear hlr hl1 h hws hm hwl
 go_enter Tryz.func41,Tryz.ntmps41
 go_wp2_with fail
 refine hL.out.mono ?_
 rintro e w1 ⟨rfl,rfl⟩
 go_wp2_with fail
 refine hW.out.mono ?_
 rintro e w1 ⟨rfl,hrow,hb1⟩
 have hU:Hid (Tx.U64s w1 (some ⟨w.heap.size,0,none⟩) ws):=Lib.hid (.inr ⟨_,_,rfl,hrow.lt,fun j hj=>by
  rw [hwlH.out] at hj
  rw [Nat.zero_add,hrow.cell hj,hget.out j hj]
  rfl⟩)
 have hM:=Lib.hid (smake_at (hH.out.below hb1) m (by omega))
 have hb1H:=Lib.hid hb1
 have hFr:Hid (¬F w.heap.size):=Lib.hid (fun hf=>by have:=hH.out.lt hf;omega)
 have hwlt:w.heap.size<w1.heap.size:=hrow.lt
 clear hrow hb1 hget hL hW
 go_wp2_with fail
 refine hM.out.mono ?_
 rintro e w2 (⟨x,F',hx0,hxn,hx64,rfl,hS,hT⟩|⟨er,F',rfl,her,hS,hT⟩)
 · have hT2:=Lib.hid ((Turn.below hb1H.out).trans hT)
   have hFn:=Lib.hid (hT.not hwlt hFr.out)
   have hU2:=Lib.hid (U64s_turn hU.out hT (fun r e=>by cases e;exact hFr.out))
   have hS2:Hid (StoreIs w2 s F' (updR R x (some (part ws 0))) (x::H) (P+pgsN (ws.length+2)) q most last (G+1)):=Lib.hid (by rw [part_zero,hwlH.out];exact hS)
   have hx0H:=Lib.hid hx0
   clear hS hT hM hU hH hx0
   go_wp2_with fail
   go_loopw [40] (fun iv wr=> ∃k:Nat,k≤m∧iv= .int .i64 k∧Hid (StoreIs wr s F' (updR R x (some (part ws k))) (x::H) (P+pgsN (ws.length+2)) q most last (G+1))∧Hid (Turn w F wr F')∧Hid (Tx.U64s wr (some ⟨w.heap.size,0,none⟩) ws)) (fun iv _=>m-(intOf iv).toNat)
   case atStart=>exact⟨0,by omega,rfl,hS2,hT2,hU2⟩
   case round=>
    obtain⟨k,hk,rfl,hSr,hTr,hUr⟩:=hrel
    by_cases hlt2:k<m
    · obtain⟨b',o',he,_,hc⟩:=hUr.out.resolve_left (fun e=>by have:=hwlH.out;rw [e] at this;simp at this;omega)
      simp only [Option.some.injEq,Addr.mk.injEq] at he
      obtain⟨rfl,rfl,_⟩:=he
      have hck:=hc k (by rw [hwlH.out];exact hlt2)
      rw [Nat.zero_add] at hck
      have hkl:k<ws.length:=by rw [hwlH.out];exact hlt2
      have hPt:=sput_at hSr.out (x:=x) (i:=k) (u:=ws[k]?.getD 0) (ws:=part ws k) (updR_same _ _ _) (by rw [part_len];exact hkl) (hlt.out k)
      rw [updR_twice,List.getElem?_eq_getElem hkl] at hPt
      simp only [Option.getD_some] at hPt
      rw [part_set ws k hkl] at hPt
      rw [List.getElem?_eq_getElem hkl] at hck
      simp only [Option.getD_some] at hck
      have hPH:=Lib.hid hPt
      have hklH:=Lib.hid hkl
      generalize hu:ws[k]=u at*
      clear hc hPt hkl hu
      go_wp2_with fail
      refine hPH.out.mono ?_
      rintro e w3 ⟨rfl,hS3,hT3⟩
      have hS3H:=Lib.hid hS3
      have hT3H:=Lib.hid (hTr.out.trans hT3)
      have hU3:=Lib.hid (U64s_turn hUr.out hT3 (fun r e=>by cases e;exact hFn.out))
      clear hS3 hT3 hck
      go_wp2
      go_roundw
      case rel=>exact⟨k+1,by omega,by go_num,hS3H,hT3H,hU3⟩
      case measure=>simp [intOf];omega
    · obtain rfl:k=m:=by omega
      go_wp2
      go_ret2
      refine .inl ⟨x,F',hx0H.out,hxn,hx64,rfl, ?_,hTr.out⟩
      have:=hSr.out
      rw [←hwlH.out,part_all] at this
      exact this
 · have hT2:=Lib.hid ((Turn.below hb1H.out).trans hT)
   have hSH:=Lib.hid hS
   have herH:=Lib.hid her
   have d2:((er:Int) !=0)=true:=by simp;omega
   clear hS hT hM hU hH her
   go_wp2
   go_ret2
   refine .inr ⟨er,F',rfl, ?_, ?_,hT2.out⟩
   · rw [hwlH.out];exact herH.out
   · rw [hwlH.out];exact hSH.out
end
structure Nd where
 key:Nat
 val:Nat
 left:Nat
 right:Nat
 mark:Nat
 size:Nat
def Nd.v(x:Nd):Value:= .agg #[.int .u64 (x.key:Nat), .int .u64 (x.val:Nat), .int .u64 (x.left:Nat), .int .u64 (x.right:Nat), .int .u64 (x.mark:Nat), .int .u64 (x.size:Nat)]
def Nd.ws(x:Nd):List Nat:= [x.key,x.val,x.left,x.right,x.mark,x.size]
def Nd.zero:Nd:=⟨0,0,0,0,0,0⟩
def ndOf(ws:List Nat):Nd:=⟨ws[0]?.getD 0,ws[1]?.getD 0,ws[2]?.getD 0,ws[3]?.getD 0,ws[4]?.getD 0,ws[5]?.getD 0⟩
theorem ws_ndOf{ws:List Nat}(h:ws.length=6):(ndOf ws).ws=ws:=by
 match ws,h with
 | [a,b,c,d,e,f],_=>rfl
structure Nd.Ok(x:Nd):Prop where
 key:x.key<18446744073709551616
 val:x.val<18446744073709551616
 left:x.left<18446744073709551616
 right:x.right<18446744073709551616
 mark:x.mark<18446744073709551616
 size:x.size<18446744073709551616
def nodeR(R:Nat→Option (List Nat))(x:Nat):Option Nd:=
 match R x with
 |some ws=>if ws.length=6 then some (ndOf ws) else none
 |none=>none
def nodeE(R:Nat→Option (List Nat))(x:Nat):Nat:=
 match R x with
 |some ws=>if ws.length=6 then 0 else 8
 |none=>7
def nodeG(R:Nat→Option (List Nat))(x:Nat):Nd:=(nodeR R x).getD Nd.zero
theorem nodeE_zero{R:Nat→Option (List Nat)}{x:Nat}:nodeE R x=0↔ ∃nd,nodeR R x=some nd:=by
 unfold nodeE nodeR
 cases R x with
 |none=>simp
 |some ws=>by_cases h:ws.length=6<;>simp [h]
theorem nodeR_some{R:Nat→Option (List Nat)}{x:Nat}{nd:Nd}(h:nodeR R x=some nd):R x=some nd.ws:=by
 unfold nodeR at h
 cases hR:R x with
 |none=>rw [hR] at h;cases h
 |some ws=>
  rw [hR] at h
  simp only at h
  by_cases hl:ws.length=6
  · rw [if_pos hl] at h
    cases h
    rw [ws_ndOf hl]
  · rw [if_neg hl] at h;cases h
theorem nodeR_of{R:Nat→Option (List Nat)}{x:Nat}{nd:Nd}(h:R x=some nd.ws):nodeR R x=some nd:=by
 unfold nodeR
 rw [h]
 rfl
section
variable {w w' :World} {s N:Nat} {R:Nat→Option (List Nat)} {n:Nat}
theorem Rd.node(h:Rd N w s R n){x:Nat}{nd:Nd}(hR:nodeR R x=some nd):nd.Ok:=by
 obtain⟨_,_,hu⟩:=h.u64 (nodeR_some hR)
 exact⟨hu 0 (by simp [Nd.ws]),hu 1 (by simp [Nd.ws]),hu 2 (by simp [Nd.ws]),hu 3 (by simp [Nd.ws]),hu 4 (by simp [Nd.ws]),hu 5 (by simp [Nd.ws])⟩
theorem Nd.Ok.zero:Nd.zero.Ok:=⟨by decide,by decide,by decide,by decide,by decide,by decide⟩
theorem rowIs_keep{w w' :World}{b:Nat}{t:TypeId}{n:Nat}{f:Nat→Value}(h:w.rowIs b t n f)(hk:w'.heap[b]? =w.heap[b]?):w'.rowIs b t n f:=by
 obtain⟨c,h1,h2⟩:=h
 exact⟨c,hk.trans h1,h2⟩
end
theorem Nd.Ok.ws{nd:Nd}(h:nd.Ok)(k:Nat):nd.ws[k]?.getD 0<18446744073709551616:=by
 match k with
 |0=>exact h.key
 |1=>exact h.val
 |2=>exact h.left
 |3=>exact h.right
 |4=>exact h.mark
 |5=>exact h.size
 |k+6=>simp [Nd.ws]
section
variable {w w' :World} {s:Nat} {F:Nat→Prop} {R:Nat→Option (List Nat)} {H:List Nat} {P q most last G:Nat}
set_option maxRecDepth 100000 in
theorem bdrop_at(h:StoreIs w s F R H P q most last G)(hsh:Short R){x:Nat}{ws:List Nat}(hR:R x=some ws)(ht:Tx.isText ws):
 Calls Tryz.prog 42 #[.pointer (some ⟨s,0,none⟩), .int .u64 (x:Nat)] w fun e w' => ∃F',e= .returned (.int .i64 0)∧StoreIs w' s F' (updR R x none) (H.erase x) P q most last G∧Turn w F w' F' :=by
 obtain⟨n,hrd,_⟩:=h.rd
 have hx:=(hrd.u64 hR).1
 have hG:=bget_at hrd hsh x hx
 rw [blobV_some hR,Tx.ofR_yes ht] at hG
 have hGH:=Lib.hid hG
 have hD:=Lib.hid (fun w' (hb:Below w.heap.size w w')=>sdrop_at (h.below hb) hR)
 clear h hR hrd hG
 go_enter Tryz.func42,Tryz.ntmps42
 go_wp2_with fail
 refine hGH.out.mono ?_
 rintro e w1 ⟨rfl,hb1⟩
 have hD1:=Lib.hid (hD.out w1 hb1)
 have hb1H:=Lib.hid hb1
 clear hb1
 go_wp2_with fail
 refine hD1.out.mono ?_
 rintro e w2 ⟨F',rfl,hS,hT⟩
 have hSH:=Lib.hid hS
 have hTH:=Lib.hid ((Turn.below hb1H.out).trans hT)
 clear hS hT
 go_wp2
 go_ret
 exact⟨F',rfl,hSH.out,hTH.out⟩
end
section
variable {w w' :World} {s N:Nat} {R:Nat→Option (List Nat)} {n:Nat}
end
def pairE(R:Nat→Option (List Nat))(x:Nat):Nat:=
 if nodeE R x≠0 then nodeE R x else if blobE R (nodeG R x).key≠0 then blobE R (nodeG R x).key else blobE R (nodeG R x).val
def pairP(R:Nat→Option (List Nat))(x:Nat):ByteArray × ByteArray:=
 if pairE R x=0 then ((blobR R (nodeG R x).key).getD ⟨#[]⟩,(blobR R (nodeG R x).val).getD ⟨#[]⟩) else (⟨#[]⟩,⟨#[]⟩)
section
variable {w w' :World} {s N:Nat} {R:Nat→Option (List Nat)} {n:Nat}
end
section
variable {w w' :World} {s N:Nat} {R:Nat→Option (List Nat)} {n:Nat}
end
section
variable {w w' :World} {s N:Nat} {R:Nat→Option (List Nat)} {n:Nat}
end
def sideR(R:Nat→Option (List Nat))(x:Nat):Option Nat:=if x=0 then some 0 else if nodeE R x≠0 then none else some (nodeG R x).size
def Nd.side(nd:Nd)(k:Nat):Nat:=if k=0 then nd.left else nd.right
def fitAcc(R:Nat→Option (List Nat))(nd:Nd):Nat→Option Nat
 |0=>some 1
 |k+1=>(fitAcc R nd k).bind fun s=>(sideR R (nd.side k)).map fun a=>(s+a)%18446744073709551616
def fitsR(R:Nat→Option (List Nat))(nd:Nd):Bool:=match fitAcc R nd 2 with|some s=>nd.size==s|none=>false
section
variable {w w' :World} {s N:Nat} {R:Nat→Option (List Nat)} {n:Nat}
end
structure KM(E:World→Nat→Prop)(A B:World):Prop where
 kb:KB (E A) A B
 grow: ∀k,E B k→E A k∨(A.heap.size≤k∧k<B.heap.size)
theorem KM.trans{E:World→Nat→Prop}{A B C:World}(h:KM E A B)(k:KM E B C):KM E A C:=by
 refine⟨⟨Nat.le_trans h.kb.size k.kb.size,fun i o hi ho hn=> ?_⟩,fun i hi=> ?_⟩
 · have h1:=h.kb.same i o hi ho hn
   refine k.kb.same i o h1 ho (fun hB=> ?_)
   rcases h.grow i hB with h2|h2
   · exact hn h2
   · have:=(Array.getElem?_eq_some_iff.1 hi).1;omega
 · rcases k.grow i hi with h1|h1
   · rcases h.grow i h1 with h2|h2
     · exact .inl h2
     · exact .inr ⟨h2.1,Nat.lt_of_lt_of_le h2.2 k.kb.size⟩
   · exact .inr ⟨Nat.le_trans h.kb.size h1.1,h1.2⟩
structure Mv(N:Nat)(E:World→Nat→Prop)(A B:World):Prop where
 os:B.os=A.os
 tape:B.tape=A.tape
 output:B.output=A.output
 size:A.heap.size≤B.heap.size
 keep: ∀(k:Nat) (o:Obj),A.heap[k]? =some o→(k<N∨E A k∨o.isCells=false)→B.heap[k]? =some o
theorem Mv.below{N:Nat}{E:World→Nat→Prop}{A B:World}(h:Below A.heap.size A B):Mv N E A B:=
 ⟨h.os,h.tape,h.output,h.size,fun k o hk _=>(h.block k (Array.getElem?_eq_some_iff.1 hk).1).trans hk⟩
theorem Mv.to_below{N:Nat}{E:World→Nat→Prop}{A B:World}{m:Nat}(h:Mv N E A B)(hm:m≤N)(hA:m≤A.heap.size):Below m A B:=
 ⟨h.os,h.tape,h.output,h.size,fun k hk=>by
  obtain⟨o,ho⟩: ∃o,A.heap[k]? =some o:=⟨_,Array.getElem?_eq_getElem (by omega)⟩
  rw [ho];exact h.keep k o ho (.inl (by omega))⟩
structure EReq(N n0:Nat)(E:World→Nat→Prop):Prop where
 mv: ∀X Y,n0≤X.heap.size→Mv N E X Y→ ∀k,E Y k→E X k
def hsV(l:List Nat):List Value:=l.map fun h=> .int .u64 (h:Nat)
structure InW(E:World→Nat→Prop)(N n0 s n B1 B2 base:Nat)(R:Nat→Option (List Nat))(root:Nat)(v:Value)(st:List Nat)(W:World):Prop where
 rd:Rd N W s R n
 b1:W.cell? ⟨B1,0,none⟩=some (.pointer (some ⟨s,0,none⟩))
 b2:Boxed W B2 23 (.int .u64 (root:Nat))
 row:W.ownsRow base 23 1 v st.length (hsV st.reverse)
 nN:N≤n0
 bas:base≤W.heap.size
 big:n0≤W.heap.size
 ok: ∀k,E W k→N≤k∧k≠B1∧k≠B2∧v.ownBlock≠some k
 lt: ∀k,E W k→k<W.heap.size
section
variable {E:World→Nat→Prop} {N n0 s n B1 B2 base:Nat} {R:Nat→Option (List Nat)} {root:Nat} {v:Value} {st:List Nat} {W W' :World}
theorem InW.below(h:InW E N n0 s n B1 B2 base R root v st W)(hE:EReq N n0 E)(hb:Below W.heap.size W W'):InW E N n0 s n B1 B2 base R root v st W' where
 rd:=h.rd.below hb
 b1:=(hb.cell (p:=⟨B1,0,none⟩) (cell_lt h.b1)).trans h.b1
 b2:=(hb.block _ h.b2.lt).trans h.b2
 row:=ownsRow_kb (Cs:=fun _=>False) h.row (KB.below hb) (fun _ h=>h.elim)
 nN:=h.nN
 bas:=Nat.le_trans h.bas hb.size
 big:=Nat.le_trans h.big hb.size
 ok:=fun k hk=>h.ok k (hE.mv W W' h.big (Mv.below hb) k hk)
 lt:=fun k hk=>Nat.lt_of_lt_of_le (h.lt k (hE.mv W W' h.big (Mv.below hb) k hk)) hb.size
theorem own_lt{w:World}{base:Nat}{e:TypeId}{v:Value}{n:Nat}{xs:List Value}(h:w.ownsRow base e 1 v n xs){k:Nat}(hk:v.ownBlock=some k):base≤k∧k<w.heap.size:=by
 rcases h.2 with ⟨rfl,_⟩|⟨g,cap,cur,rfl,h2,h3,_⟩
 · simp [Value.ownBlock] at hk
 · have:g=k:=by simpa [Value.ownBlock] using hk
   subst this
   exact⟨h2,(Array.getElem?_eq_some_iff.1 h3).1⟩
theorem InW.step(h:InW E N n0 s n B1 B2 base R root v st W)(hk:KM E W W'):InW E N n0 s n B1 B2 base R root v st W' :=by
 have hB2: ¬E W B2:=fun e=>(h.ok _ e).2.2.1 rfl
 refine⟨h.rd.kb hk.kb (fun k e=>(h.ok k e).1),hk.kb.cell h.b1 (fun e=>(h.ok _ e).2.1 rfl),hk.kb.same _ _ h.b2 (.inl rfl) hB2,⟨h.row.1, ?_⟩,h.nN,Nat.le_trans h.bas hk.kb.size,Nat.le_trans h.big hk.kb.size,fun k e=> ?_,fun k e=> ?_⟩
 · rcases h.row.2 with h1|⟨g,cap,cur,h1,h2,h3,h4⟩
   · exact .inl h1
   · exact .inr ⟨g,cap,cur,h1,h2,hk.kb.same g _ h3 (.inl rfl) (fun e=>(h.ok _ e).2.2.2 (by rw [h1];rfl)),h4⟩
 · rcases hk.grow k e with h1|h1
   · exact h.ok k h1
   · refine⟨?_,fun e1=> ?_,fun e1=> ?_,fun e1=> ?_⟩
     · have h8:=h.nN;have h9:=h.big;omega
     · have:=cell_lt h.b1;simp only at this;omega
     · have:=h.b2.lt;omega
     · have:=(own_lt h.row e1).2;omega
 · rcases hk.grow k e with h1|h1
   · exact Nat.lt_of_lt_of_le (h.lt k h1) hk.kb.size
   · exact h1.2
end
end Go.Proofs.YthcmecokejemcaaGreatDoor
