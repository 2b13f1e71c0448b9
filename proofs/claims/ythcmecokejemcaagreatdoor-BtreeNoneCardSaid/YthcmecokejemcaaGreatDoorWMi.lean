/-
  The seat's own texts, part i: HeapIs, AllocPlain, Alloc, HeadsE, Audit0, HeapNew, Handle, Handle2.
-/
import Derived.Test.YthcmecokejemcaaGreatDoorWMh
set_option linter.unusedSimpArgs false
set_option linter.unusedVariables false
set_option maxHeartbeats 4000000
namespace Go.Proofs.YthcmecokejemcaaGreatDoor
open Go.RowKit Go.Shelf
theorem HeapAt.perm{w:World}{ha a mb q:Nat}{D:DW}{ps ps' :List Nat}{mem:Nat→Nat}(h:HeapAt w ha a mb D ps q mem)(hp:ps.Perm ps'):HeapAt w ha a mb D ps' q mem:=
 ⟨h.hs,h.sl.perm hp,h.off,h.tab,h.tabF⟩
structure HeapIs(w:World)(ha a:Nat)(F:Nat→Prop)(L:HL)(q:Nat)(mem:Nat→Nat):Prop where
 at' : ∃mb D,HeapAt w ha a mb D (runs L) q mem∧F=SlabF a mb D
 lay:Lay L
 heads:Heads L mem
theorem HeapIs.below{w w' :World}{ha a q:Nat}{F:Nat→Prop}{L:HL}{mem:Nat→Nat}(h:HeapIs w ha a F L q mem)(hb:Below w.heap.size w w'):HeapIs w' ha a F L q mem:=by
 obtain⟨⟨mb,D,h1,h2⟩,h3,h4⟩:=h
 exact⟨⟨mb,D,h1.below hb,h2⟩,h3,h4⟩
theorem HeapIs.lt{w:World}{ha a q:Nat}{F:Nat→Prop}{L:HL}{mem:Nat→Nat}(h:HeapIs w ha a F L q mem){b:Nat}(hb:F b):b<w.heap.size:=by
 obtain⟨⟨mb,D,h1,rfl⟩,h3,h4⟩:=h
 exact h1.sl.lt hb
theorem HeapIs.off{w:World}{ha a q:Nat}{F:Nat→Prop}{L:HL}{mem:Nat→Nat}(h:HeapIs w ha a F L q mem): ¬F ha∧ha<w.heap.size∧F a∧ ∀b,F b→1<b:=by
 obtain⟨⟨mb,D,h1,rfl⟩,h3,h4⟩:=h
 exact⟨h1.off,cell_lt h1.hs, .inl rfl,h1.tabF⟩
theorem HeapIs.turn{w w' :World}{ha a q:Nat}{F G G' :Nat→Prop}{L:HL}{mem:Nat→Nat}(h:HeapIs w ha a F L q mem)(ht:Turn w G w' G')(hG: ∀b,F b→ ¬G b)(hha: ¬G ha)(htab: ¬G 1):HeapIs w' ha a F L q mem:=by
 obtain⟨⟨mb,D,h1,rfl⟩,h3,h4⟩:=h
 refine⟨⟨mb,D, ?_,rfl⟩,h3,h4⟩
 have hlt:=Nat.lt_trans (h1.tabF a (.inl rfl)) (h1.sl.lt (.inl rfl))
 exact⟨(World.cell?_of_block (a:=⟨ha,0,none⟩) (ht.keep ha (cell_lt h1.hs) hha)).trans h1.hs,h1.sl.same (fun b hb=>ht.keep b (h1.sl.lt hb) (hG b hb)),h1.off,
  fun j hj=>(World.cell?_of_block (a:=⟨1,j,none⟩) (ht.keep _ hlt htab)).trans (h1.tab j hj),h1.tabF⟩
theorem read_is{w:World}{ha a q:Nat}{F:Nat→Prop}{L:HL}{mem:Nat→Nat}(h:HeapIs w ha a F L q mem){b:Nat × Nat}(hb:b∈blocks L)(x:Nat)(h1:b.1≤x)(h2:x<b.1+b.2):
 Calls Tryz.prog 52 #[.pointer (some ⟨a,0,none⟩), .int .i64 (x:Nat)] w fun e w' =>e= .returned (.tuple #[.int .u64 (mem x:Nat), .int .i64 0])∧w=w' :=by
 obtain⟨⟨mb,D,k1,rfl⟩,k3,k4⟩:=h
 exact read_at k1.sl x (block_page k3 hb h1 h2)
theorem write_is{w:World}{ha a q:Nat}{F:Nat→Prop}{L:HL}{mem:Nat→Nat}(h:HeapIs w ha a F L q mem){b:Nat × Nat}(hb:b∈blocks L)(x v:Nat)(h1:b.1≤x)(h2:x<b.1+b.2)(hv:v<18446744073709551616):
 Calls Tryz.prog 75 #[.pointer (some ⟨a,0,none⟩), .int .i64 (x:Nat), .int .u64 (v:Nat)] w fun e w' =>e= .returned (.int .i64 0)∧HeapIs w' ha a F L q (upd mem x v)∧Turn w F w' F:=by
 obtain⟨⟨mb,D,k1,rfl⟩,k3,k4⟩:=h
 refine(write_at k1.sl x v (block_page k3 hb h1 h2) hv).mono ?_
 rintro e w' ⟨rfl,hW,hS⟩
 have ht:=wrote_turn (a:=a) (mb:=mb) hW
 exact⟨rfl,⟨⟨mb,D,k1.turn hS ht,rfl⟩,k3,k4.write k3 hb h1 h2⟩,ht⟩
theorem runs_mid(L1 L2:HL)(x:Nat × Hd):(runs (L1++x::L2)).Perm (List.range' x.1 x.2.len++runs (L1++L2)):=by
 simp only [runs,List.flatMap_append,List.flatMap_cons]
 rw [←List.append_assoc,←List.append_assoc]
 exact List.perm_append_comm.append_right _
theorem mem_split{α:Type}{x:α}{l:List α}(h:x∈l): ∃l1 l2,l=l1++x::l2:=List.append_of_mem h
theorem Heads.other{L L' :HL}{mem mem' :Nat→Nat}(h:Heads L mem)(hs: ∀x∈L',x∈L∧mem' (64*x.1)=mem (64*x.1)∧mem' (64*x.1+1)=mem (64*x.1+1)):Heads L' mem' :=by
 intro x hx
 obtain⟨h1,h2,h3⟩:=hs x hx
 have:=h x h1
 obtain⟨p,hd⟩:=x
 cases hd<;>simp only at this h2 h3 ⊢ <;>rw [h2,h3]<;>exact this
theorem lay_other{L1 L2:HL}{x y:Nat × Hd}(h:Lay (L1++x::L2))(hy:y∈L1++L2):y.1≠x.1:=by
 have hr:=h.rise
 rw [List.pairwise_append,List.pairwise_cons] at hr
 obtain⟨r1,⟨r2,r3⟩,r4⟩:=hr
 rcases List.mem_append.1 hy with h1|h1
 · have:=r4 y h1 x List.mem_cons_self
   have:=y.2.len_pos;omega
 · have:=r2 y h1
   have:=x.2.len_pos;omega
theorem leave_heads{L1 L2:HL}{mem:Nat→Nat}{p c m k:Nat}(hl:Lay (L1++(p, .small c m)::L2))(h:Heads (L1++(p, .small c m)::L2) mem):
 Heads (L1++L2) (leaveM mem p c m k)∧Heads (L1++(p, .small c (m ^^^ 2^k))::L2) (leaveM mem p c m k):=by
 have h1:Heads (L1++L2) (leaveM mem p c m k):=by
  refine h.other fun x hx=> ?_
  have hne:=lay_other hl hx
  refine⟨?_, ?_, ?_⟩
  · rcases List.mem_append.1 hx with h2|h2
    · exact List.mem_append_left _ h2
    · exact List.mem_append_right _ (List.mem_cons_of_mem _ h2)
  · simp only [leaveM,upd];rw [if_neg (by omega),if_neg (by simp only at hne;omega)]
  · simp only [leaveM,upd];rw [if_neg (by simp only at hne;omega),if_neg (by omega)]
 refine⟨h1,fun x hx=> ?_⟩
 rcases List.mem_append.1 hx with h2|h2
 · exact h1 x (List.mem_append_left _ h2)
 · rcases List.mem_cons.1 h2 with rfl|h3
   · simp only [leaveM,upd]
     rw [if_neg (by omega),if_pos trivial,if_pos trivial]
     exact⟨rfl,rfl⟩
   · exact h1 x (List.mem_append_right _ h3)
theorem leave_mem{L:HL}{mem:Nat→Nat}{p c m k:Nat}(hl:Lay L)(hx:(p,Hd.small c m)∈L){b:Nat × Nat}(hb:b∈blocks L){i:Nat}(h1:b.1≤i)(h2:i<b.1+b.2):leaveM mem p c m k i=mem i:=by
 have:=block_no_head hl hb hx h1 h2
 simp only at this
 simp only [leaveM,upd]
 rw [if_neg this.2,if_neg this.1]
structure Freed(L:HL)(mem:Nat→Nat)(b:Nat × Nat)(L' :HL)(mem' :Nat→Nat):Prop where
 perm:(blocks L).Perm (b::blocks L')
 pages:(runs L').length≤(runs L).length
 same: ∀c∈blocks L',∀i,c.1≤i→i<c.1+c.2→mem' i=mem i
set_option maxRecDepth 100000 in
theorem free_is{w:World}{ha a q:Nat}{F:Nat→Prop}{L:HL}{mem:Nat→Nat}(h:HeapIs w ha a F L q mem)(b:Nat × Nat)(hb:b∈blocks L):
 Calls Tryz.prog 91 #[.pointer (some ⟨ha,0,none⟩), .int .i64 (b.1:Nat)] w fun e w' => ∃F' L' mem',e= .returned (.int .i64 0)∧HeapIs w' ha a F' L' q mem' ∧Turn w F w' F' ∧Freed L mem b L' mem' :=by
 obtain⟨y,hy,hby⟩:=mem_blocks.1 hb
 obtain⟨⟨mb,D,k1,rfl⟩,k3,k4⟩:=h
 have hN:=Lib.hid (heapNone_at k1)
 have hF:=Lib.hid (find_at k1 k3 k4 y hy b hby)
 obtain⟨L1,L2,rfl⟩:=mem_split hy
 have hok:=k3.ok y hy
 have hhd:=k4 y hy
 have HP:=Lib.hid k1
 have HL' :=Lib.hid k3
 have HH:=Lib.hid k4
 have HB:=Lib.hid hby
 clear k1 k3 k4 hb hby hy
 obtain⟨p,hd⟩:=y
 cases hd with
 |large ww=>
  have hbe:b=(64*p+2,ww):=by
   have:=HB.out
   simpa [blocksOf] using this
  subst hbe
  obtain⟨hw1,hw2⟩:=hok
  have hFR:Hid (∀v,FindR (p,Hd.large ww) (64*p+2) v→v= .tuple #[.int .i64 (p:Nat), .int .i64 0,hdV (.large ww), .bool true]):=Lib.hid (fun v hv=>hv.2)
  have hV:=Lib.hid (hdV_eq (.large ww))
  simp only [hdK,hdN,hdW] at hV
  have hlen:(Hd.large ww).len=(ww+65)/64:=rfl
  have hperm:=Lib.hid (runs_mid L1 L2 (p,Hd.large ww))
  obtain⟨nn,hnn⟩: ∃nn,nn=(ww+65)/64:=⟨_,rfl⟩
  rw [←hnn] at hV
  simp only [hlen,←hnn] at hperm
  have hnnb:1≤nn∧nn≤63:=by omega
  obtain⟨hn1,hn63⟩:=hnnb
  have hnnH:=Lib.hid hnn
  have hs:=HP.out.hs
  clear hlen hnn hhd
  go_enter Tryz.func91,Tryz.ntmps91
  go_wp2_with fail
  refine hN.out.mono ?_
  rintro e w' ⟨rfl,rfl⟩
  go_wp2_with fail
  rw [show((64*(p:Int)+2))=((64*p+2:Nat):Int) by push_cast;rfl]
  refine hF.out.mono ?_
  rintro e w1 ⟨v,rfl,hv,hb1⟩
  obtain rfl:=hFR.out v hv
  rw [hV.out]
  go_wp2_with fail
  have hbA:Below w.heap.size w (w1.alloc (Obj.cells #[Value.int IntKind.i64 2,Value.int IntKind.i64 (nn:Nat),Value.int IntKind.u64 (ww:Nat)] 154)):=hb1.alloc hb1.size _
  have hcn:(w1.alloc (Obj.cells #[Value.int IntKind.i64 2,Value.int IntKind.i64 (nn:Nat),Value.int IntKind.u64 (ww:Nat)] 154)).cell? ⟨w1.heap.size,1,none⟩=some (.int .i64 (nn:Nat)):=by go_simp
  have HP1:=Lib.hid (HP.out.below hbA)
  have T1:=Lib.hid (Turn.below (F:=SlabF a mb D) hbA)
  clear hb1 hbA hs hv hF
  generalize (w1.alloc (Obj.cells #[Value.int IntKind.i64 2,Value.int IntKind.i64 (nn:Nat),Value.int IntKind.u64 (ww:Nat)] 154))=W1 at*
  have hs1:=HP1.out.hs
  have x1:=fun X:Bel W1=>X.cell hs1
  have x2:=fun X:Bel W1=>X.cell hcn
  refine wp_region_calm_tail 7 (by kernel_rfl) (by kernel_rfl) ?_
  simp only [List.take_succ_cons,List.take_zero,List.drop_succ_cons,List.drop_zero]
  repeat (go_big_quiet_step (fail))
  refine wpQuiet_nil ?_
  rintro _ ⟨X,rfl⟩
  have HP2:=Lib.hid ((HP1.out.below X.h).perm hperm.out)
  have T2:=Lib.hid (T1.out.trans (.below X.h))
  generalize X.W=W2 at*
  clear x1 x2 hs1 hcn
  go_wp2_with fail
  refine(release_at (ps:=runs (L1++L2)) p nn (h:=HP2.out.sl) hn1 (by omega)).mono ?_
  rintro e W3 ⟨D',rfl,hS6,hSh⟩
  have t6:=sh_turn (a:=a) hSh
  have HP6:=Lib.hid (HP2.out.turn hS6 t6)
  have T6:=Lib.hid (T2.out.trans t6)
  clear hS6 hSh t6
  go_wp2
  go_ret
  refine⟨_,L1++L2,mem,rfl,⟨⟨mb,D',HP6.out,rfl⟩,lay_drop HL'.out,HH.out.other (fun x hx=>⟨?_,rfl,rfl⟩)⟩,T6.out,⟨?_, ?_,fun _ _ _ _ _=>rfl⟩⟩
  · rcases List.mem_append.1 hx with h2|h2
    · exact List.mem_append_left _ h2
    · exact List.mem_append_right _ (List.mem_cons_of_mem _ h2)
  · exact blocks_mid L1 L2 (p, .large ww)
  · have:=hperm.out.length_eq
    rw [List.length_append] at this
    omega
 |small c m=>
  obtain⟨k,hk,hmk,hbe⟩: ∃k,k<slotsN c∧m.testBit k=true∧b=(64*p+2+k*sz c,sz c):=by
   have:=HB.out
   simp only [blocksOf,List.mem_map] at this
   obtain⟨k,h1,h2⟩:=this
   rw [mem_slotsOf] at h1
   exact⟨k,h1.1,h1.2,h2.symm⟩
  have hFR:Hid (∀v,FindR (p,Hd.small c m) b.1 v→v= .tuple #[.int .i64 (p:Nat), .int .i64 (k:Nat),hdV (.small c m), .bool true]):=Lib.hid (fun v hv=>by
   obtain⟨k',h1,h2,h3,h4⟩:=hv
   have:k' =k:=by
    rw [hbe] at h3
    simp only at h3
    have h5:k' *sz c=k*sz c:=by omega
    exact Nat.eq_of_mul_eq_mul_right (by have:=sz_pos c;omega) h5
   subst this
   exact h4)
  obtain⟨hc8,hm0,hmS⟩:=hok
  simp only at hhd
  obtain⟨hh1,hh2⟩:=hhd
  have hV:=Lib.hid (hdV_eq (.small c m))
  simp only [hdK,hdN,hdW] at hV
  have hlen:(Hd.small c m).len=1:=rfl
  have hperm:=runs_mid L1 L2 (p,Hd.small c m)
  simp only [hlen,List.range'_one,List.singleton_append] at hperm
  have hpermH:=Lib.hid hperm
  have hkH:=Lib.hid hk
  have hmH:=Lib.hid hmk
  have hbH:=Lib.hid hbe
  have h1H:=Lib.hid hh1
  have h2H:=Lib.hid hh2
  have hmSH:=Lib.hid hmS
  obtain⟨addr,bs⟩:=b
  dsimp only at hFR hF ⊢
  clear hlen hperm hk hmk hbe hh1 hh2 hm0 hmS
  go_enter Tryz.func91,Tryz.ntmps91
  go_wp2_with fail
  refine hN.out.mono ?_
  rintro e w' ⟨rfl,rfl⟩
  go_wp2_with fail
  refine hF.out.mono ?_
  rintro e w1 ⟨v,rfl,hv,hb1⟩
  obtain rfl:=hFR.out v hv
  rw [hV.out]
  go_wp2_with fail
  have hbA:Below w.heap.size w (w1.alloc (Obj.cells #[Value.int IntKind.i64 1,Value.int IntKind.i64 (c:Nat),Value.int IntKind.u64 (m:Nat)] 154)):=hb1.alloc hb1.size _
  have HP1:=Lib.hid ((HP.out.below hbA).perm hpermH.out)
  have T1:=Lib.hid (Turn.below (F:=SlabF a mb D) hbA)
  clear hb1 hbA hv hF
  generalize (w1.alloc (Obj.cells #[Value.int IntKind.i64 1,Value.int IntKind.i64 (c:Nat),Value.int IntKind.u64 (m:Nat)] 154))=W1 at*
  refine(leave_at p c m k (h:=HP1.out) hc8 hkH.out hmH.out h1H.out h2H.out).mono ?_
  rintro e W3 ⟨rfl,D',h3,t3⟩
  have HP3:=Lib.hid h3
  have T3:=Lib.hid (T1.out.trans t3)
  clear h3 t3
  go_wp2
  go_ret
  have hlh:=leave_heads (k:=k) HL'.out HH.out
  have hlx:(p,Hd.small c m)∈L1++(p,Hd.small c m)::L2:=by simp
  have hbm:=hbH.out
  have hclr:=blocks_clear (L1:=L1) (L2:=L2) (p:=p) hkH.out hmH.out
  have hlenr:=hpermH.out.length_eq
  rw [←hbm] at hclr
  by_cases h0:m ^^^ 2^k=0
  · have h6:=HP3.out
    rw [if_pos h0] at h6
    rw [h0] at hclr
    have hpf:=hclr.trans ((blocks_drop_zero L1 L2 p c).cons _)
    refine⟨_,L1++L2,_,rfl,⟨⟨mb,D',h6,rfl⟩,lay_drop HL'.out,hlh.1⟩,T3.out,⟨hpf, ?_, ?_⟩⟩
    · rw [hlenr];simp
    · intro b' hb' i hi1 hi2
      exact leave_mem HL'.out hlx (hpf.mem_iff.2 (List.mem_cons_of_mem _ hb')) hi1 hi2
  · have h6:=HP3.out
    rw [if_neg h0] at h6
    have hok' :(Hd.small c (m ^^^ 2^k)).Ok:=⟨hc8,h0,clear_lt hmSH.out hkH.out⟩
    refine⟨_,L1++(p, .small c (m ^^^ 2^k))::L2,_,rfl,⟨⟨mb,D',h6.perm ?_,rfl⟩,lay_turn HL'.out hok' rfl,hlh.2⟩,T3.out,⟨hclr, ?_, ?_⟩⟩
    · rw [runs_turn (p:=p) (hd:=Hd.small c m) (hd' :=Hd.small c (m ^^^ 2^k)) rfl]
      exact hpermH.out.symm
    · rw [runs_turn (p:=p) (hd:=Hd.small c m) (hd' :=Hd.small c (m ^^^ 2^k)) rfl]
      exact Nat.le_refl _
    · intro b' hb' i hi1 hi2
      exact leave_mem HL'.out hlx (hclr.mem_iff.2 (List.mem_cons_of_mem _ hb')) hi1 hi2
def bszN(n:Nat):Nat:=if n≤28 then sz (cls n) else n
def pgsN(n:Nat):Nat:=if n≤28 then 1 else (n+65)/64
theorem cls_fits(n:Nat)(h:n≤28):cls n<8∧n≤sz (cls n):=by
 unfold cls
 (repeat' split)<;>simp [sz]<;>omega
theorem bszN_ge(n:Nat):n≤bszN n:=by
 unfold bszN
 split
 · exact(cls_fits n (by assumption)).2
 · exact Nat.le_refl _
theorem blocks_nodup{L:HL}(h:Lay L):(blocks L).Nodup:=by
 refine List.Pairwise.imp_of_mem (S:=fun a b=>a≠b) (fun {a b} ha hb hab=> ?_) (blocks_rise h)
 rintro rfl
 obtain⟨y,hy,hby⟩:=mem_blocks.1 ha
 have:=block_within (h.ok y hy) hby
 omega
structure Got(L:HL)(mem:Nat→Nat)(addr n:Nat)(L' :HL)(mem' :Nat→Nat):Prop where
 perm:(blocks L').Perm ((addr,bszN n)::blocks L)
 pages:(runs L').length≤(runs L).length+pgsN n
 same: ∀c∈blocks L,∀i,c.1≤i→i<c.1+c.2→mem' i=mem i
 zero: ∀i,addr≤i→i<addr+bszN n→mem' i=0
theorem take_heads{L1 L2:HL}{mem:Nat→Nat}{p c m k:Nat}(hl:Lay (L1++(p, .small c (m ||| 2^k))::L2))(hk:k<slotsN c)(h:Heads (L1++L2) mem):
 Heads (L1++(p, .small c (m ||| 2^k))::L2) (takeM mem p c m k):=by
 have hx:(p,Hd.small c (m ||| 2^k))∈L1++(p, .small c (m ||| 2^k))::L2:=by simp
 have hc8:c<8:=(hl.ok _ hx).1
 have hroom:=slot_room c k hc8 hk
 have h1:Heads (L1++L2) (takeM mem p c m k):=by
  refine h.other fun x hx=>⟨hx, ?_, ?_⟩
  · have hne:=lay_other hl hx
    simp only at hne
    simp only [takeM,zeroW,upd]
    rw [if_neg (by omega),if_neg (by omega),if_neg (by omega)]
  · have hne:=lay_other hl hx
    simp only at hne
    simp only [takeM,zeroW,upd]
    rw [if_neg (by omega),if_neg (by omega),if_neg (by omega)]
 intro x hx
 rcases List.mem_append.1 hx with h2|h2
 · exact h1 x (List.mem_append_left _ h2)
 · rcases List.mem_cons.1 h2 with rfl|h3
   · simp only [takeM,zeroW,upd]
     rw [if_neg (by omega),if_neg (by omega),if_pos trivial,if_neg (by omega),if_pos trivial]
     exact⟨rfl,rfl⟩
   · exact h1 x (List.mem_append_right _ h3)
theorem take_mem{L:HL}{mem:Nat→Nat}{p c m k:Nat}(hl:Lay L)(hx:(p,Hd.small c (m ||| 2^k))∈L)(hn:(64*p+2+k*sz c,sz c)∈blocks L){b:Nat × Nat}(hb:b∈blocks L)(hne:b≠(64*p+2+k*sz c,sz c)){i:Nat}(h1:b.1≤i)(h2:i<b.1+b.2):takeM mem p c m k i=mem i:=by
 have h3:=block_no_head hl hb hx h1 h2
 simp only at h3
 have h4:=blocks_apart hl hb hn
 simp only [takeM,zeroW,upd]
 rw [if_neg (by rcases h4 with h5|h5|h5;exact absurd h5 hne;all_goals (simp only at h5;omega)),if_neg h3.2,if_neg h3.1]
theorem got_slot{L1 L2:HL}{mem:Nat→Nat}{p c m k n:Nat}(hl:Lay (L1++(p, .small c m)::L2))(hh:Heads (L1++(p, .small c m)::L2) mem)(hk:k<slotsN c)(hm:m.testBit k=false)(hn:n≤28)(hc:cls n=c):
 Lay (L1++(p, .small c (m ||| 2^k))::L2)∧Heads (L1++(p, .small c (m ||| 2^k))::L2) (takeM mem p c m k)∧
 Got (L1++(p, .small c m)::L2) mem (64*p+2+k*sz c) n (L1++(p, .small c (m ||| 2^k))::L2) (takeM mem p c m k):=by
 have hok:=hl.ok (p, .small c m) (by simp)
 have hl' :Lay (L1++(p, .small c (m ||| 2^k))::L2):=lay_turn hl (set_ok hok.1 hok.2.2 hk) rfl
 have hperm:=blocks_set (L1:=L1) (L2:=L2) (p:=p) hk hm
 have hb:bszN n=sz c:=by unfold bszN;rw [if_pos hn,hc]
 refine⟨hl',take_heads hl' hk (hh.other fun x hx=>⟨?_,rfl,rfl⟩), ?_, ?_, ?_, ?_⟩
 · rcases List.mem_append.1 hx with h2|h2
   · exact List.mem_append_left _ h2
   · exact List.mem_append_right _ (List.mem_cons_of_mem _ h2)
 · rw [hb];exact hperm
 · rw [runs_turn (p:=p) (hd:=Hd.small c m) (hd' :=Hd.small c (m ||| 2^k)) rfl];omega
 · intro b hb' i h1 h2
   have hnd:=hperm.nodup_iff.1 (blocks_nodup hl')
   rw [List.nodup_cons] at hnd
   exact take_mem hl' (by simp) (hperm.mem_iff.2 List.mem_cons_self) (hperm.mem_iff.2 (List.mem_cons_of_mem _ hb')) (fun e=>hnd.1 (e▸hb')) h1 h2
 · intro i h1 h2
   rw [hb] at h2
   simp only [takeM,zeroW]
   rw [if_pos ⟨h1,h2⟩]
theorem zeroP_out{L:HL}{mem:Nat→Nat}(hl:Lay L){f n:Nat}(hf: ∀i,i<n→f+i∉runs L){p:Nat}(hp:p∈runs L)(i:Nat)(hi:i/64=p):zeroP mem f n i=mem i:=by
 unfold zeroP
 rw [if_neg]
 rintro⟨h1,h2⟩
 exact hf (p-f) (by omega) (by rw [show f+(p-f)=p by omega];exact hp)
theorem got_page{L:HL}{mem:Nat→Nat}{f c n:Nat}(hl:Lay L)(hh:Heads L mem)(hf:f∉runs L)(hn:n≤28)(hc:cls n=c)(mem2:Nat→Nat)(hm2:mem2=upd (upd (zeroP mem f 1) (64*f) (1+256*c)) (64*f+1) 0):
 ∃L',(runs L++ [f]).Perm (runs L')∧Lay L' ∧Heads L' (takeM mem2 f c 0 0)∧Got L mem (64*f+2) n L' (takeM mem2 f c 0 0):=by
 have hcf:=cls_fits n hn
 rw [hc] at hcf
 have hok:(Hd.small c (0 ||| 2^0)).Ok:=by
  refine⟨hcf.1,by decide, ?_⟩
  have:1<2^slotsN c:=Nat.one_lt_two_pow (by
   have h8:=hcf.1
   have:c=0∨c=1∨c=2∨c=3∨c=4∨c=5∨c=6∨c=7:=by omega
   rcases this with rfl|rfl|rfl|rfl|rfl|rfl|rfl|rfl<;>decide)
  simpa using this
 have hk:0<slotsN c:=by
  have h8:=hcf.1
  have:c=0∨c=1∨c=2∨c=3∨c=4∨c=5∨c=6∨c=7:=by omega
  rcases this with rfl|rfl|rfl|rfl|rfl|rfl|rfl|rfl<;>decide
 obtain⟨L1,L2,rfl,h1,h2⟩:=lay_split hl f 1 (Nat.le_refl _) (fun k hk=>by have e:k=0:=(by omega);rw [e];exact hf)
 have hl' :Lay (L1++(f, .small c (0 ||| 2^0))::L2):=lay_insert hl hok h1 h2
 have hperm:(blocks (L1++(f, .small c (0 ||| 2^0))::L2)).Perm ((64*f+2+0*sz c,sz c)::blocks (L1++L2)):=
  (blocks_set hk (Nat.zero_testBit 0)).trans ((blocks_drop_zero L1 L2 f c).cons _)
 have hb:bszN n=sz c:=by unfold bszN;rw [if_pos hn,hc]
 have hfree: ∀i,i<1→f+i∉runs (L1++L2):=fun i hi=>by have e:i=0:=(by omega);rw [e];exact hf
 have hm2' : ∀p∈runs (L1++L2),∀i,i/64=p→mem2 i=mem i:=fun p hp i hi=>by
  have hpf:p≠f:=fun e=>hf (e▸hp)
  rw [hm2]
  simp only [upd]
  rw [if_neg (by omega),if_neg (by omega)]
  exact zeroP_out hl hfree hp i hi
 refine⟨_, ?_,hl',take_heads hl' hk (hh.other fun x hx=>⟨hx, ?_, ?_⟩), ?_, ?_, ?_, ?_⟩
 · exact List.perm_append_comm.trans (runs_mid L1 L2 (f,Hd.small c (0 ||| 2^0))).symm
 · exact hm2' x.1 (mem_runs.2 ⟨x,hx,Nat.le_refl _,by have:=x.2.len_pos;omega⟩) _ (by omega)
 · exact hm2' x.1 (mem_runs.2 ⟨x,hx,Nat.le_refl _,by have:=x.2.len_pos;omega⟩) _ (by omega)
 · rw [hb]
   simpa using hperm
 · have:=(runs_mid L1 L2 (f,Hd.small c (0 ||| 2^0))).length_eq
   simp [Hd.len] at this
   unfold pgsN
   rw [if_pos hn]
   simp
   omega
 · intro b hb' i h1 h2
   have hnd:=hperm.nodup_iff.1 (blocks_nodup hl')
   rw [List.nodup_cons] at hnd
   rw [take_mem hl' (by simp) (hperm.mem_iff.2 List.mem_cons_self) (hperm.mem_iff.2 (List.mem_cons_of_mem _ hb')) (fun e=>hnd.1 (e▸hb')) h1 h2]
   exact hm2' _ (block_page hl hb' h1 h2) i rfl
 · intro i h1 h2
   rw [hb] at h2
   simp only [takeM,zeroW]
   rw [if_pos ⟨by omega,by omega⟩]
theorem got_large{L:HL}{mem:Nat→Nat}{f n:Nat}(hl:Lay L)(hh:Heads L mem)(hn:28<n)(hn2:n≤4000)(hf: ∀i,i<(n+65)/64→f+i∉runs L)(mem2:Nat→Nat)(hm2:mem2=upd (upd (zeroP mem f ((n+65)/64)) (64*f) (2+256*((n+65)/64))) (64*f+1) n):
 ∃L',(runs L++List.range' f ((n+65)/64)).Perm (runs L')∧Lay L' ∧Heads L' mem2∧Got L mem (64*f+2) n L' mem2:=by
 have hok:(Hd.large n).Ok:=⟨hn,hn2⟩
 obtain⟨L1,L2,rfl,h1,h2⟩:=lay_split hl f ((n+65)/64) (by omega) hf
 have hl' :Lay (L1++(f, .large n)::L2):=lay_insert hl hok h1 h2
 have hperm:(blocks (L1++(f, .large n)::L2)).Perm ((64*f+2,n)::blocks (L1++L2)):=blocks_mid L1 L2 (f, .large n)
 have hb:bszN n=n:=by unfold bszN;rw [if_neg (by omega)]
 have hm2' : ∀p∈runs (L1++L2),∀i,i/64=p→mem2 i=mem i:=fun p hp i hi=>by
  have hpf:p≠f:=fun e=>hf 0 (by omega) (by rw [Nat.add_zero];exact e▸hp)
  rw [hm2]
  simp only [upd]
  rw [if_neg (by omega),if_neg (by omega)]
  exact zeroP_out hl hf hp i hi
 have ho:Heads (L1++L2) mem2:=hh.other fun x hx=>⟨hx,hm2' x.1 (mem_runs.2 ⟨x,hx,Nat.le_refl _,by have:=x.2.len_pos;omega⟩) _ (by omega),hm2' x.1 (mem_runs.2 ⟨x,hx,Nat.le_refl _,by have:=x.2.len_pos;omega⟩) _ (by omega)⟩
 refine⟨_, ?_,hl', ?_, ?_, ?_, ?_, ?_⟩
 · exact List.perm_append_comm.trans (runs_mid L1 L2 (f,Hd.large n)).symm
 · intro x hx
   rcases List.mem_append.1 hx with h3|h3
   · exact ho x (List.mem_append_left _ h3)
   · rcases List.mem_cons.1 h3 with rfl|h4
     · simp only [hm2,upd]
       rw [if_neg (by omega),if_pos trivial,if_pos trivial]
       exact⟨rfl,rfl⟩
     · exact ho x (List.mem_append_right _ h4)
 · rw [hb];exact hperm
 · have:=(runs_mid L1 L2 (f,Hd.large n)).length_eq
   simp only [List.length_append,List.length_range',Hd.len] at this
   unfold pgsN
   rw [if_neg (by omega)]
   omega
 · intro b hb' i h1 h2
   exact hm2' _ (block_page hl hb' h1 h2) i rfl
 · intro i h1 h2
   rw [hb] at h2
   rw [hm2]
   simp only [upd]
   rw [if_neg (by omega),if_neg (by omega)]
   unfold zeroP
   rw [if_pos (by omega)]
set_option maxRecDepth 100000 in
theorem alloc_large{w:World}{ha a q:Nat}{F:Nat→Prop}{L:HL}{mem:Nat→Nat}(h:HeapIs w ha a F L q mem)(n:Nat)(hn:28<n)(hn2:n≤4000)(hq:((runs L).length+(n+65)/64)*64≤q):
 Calls Tryz.prog 100 #[.pointer (some ⟨ha,0,none⟩), .int .i64 (n:Nat)] w fun e w' => ∃addr F' L' mem',e= .returned (.tuple #[.int .i64 (addr:Nat), .int .i64 0])∧HeapIs w' ha a F' L' q mem' ∧Turn w F w' F' ∧Got L mem addr n L' mem' ∧addr<20000000:=by
 obtain⟨⟨mb,D,k1,rfl⟩,k3,k4⟩:=h
 have hN:=Lib.hid (heapNone_at k1)
 have hO:=Lib.hid (ofR_big (n:=(n:Nat)) ⟨by omega,by omega⟩ (by omega))
 have hP:Hid (pagesR ((n:Nat):Int)= .tuple #[.int .i64 (((n+65)/64:Nat):Int), .int .i64 0]):=Lib.hid (by
  simp only [pagesR,pagesN,ofE];rw [if_pos ⟨by omega,by omega⟩,if_neg (by omega),if_pos ⟨by omega,by omega⟩];push_cast;rfl)
 have hgot:=Lib.hid (fun(f:Nat) (hf: ∀i,i<(n+65)/64→f+i∉runs L)=>got_large (mem:=mem) k3 k4 hn hn2 hf _ rfl)
 have HP:=Lib.hid k1
 have hs:=k1.hs
 obtain⟨nn,hnn⟩: ∃nn,(n+65)/64=nn:=⟨_,rfl⟩
 rw [hnn] at hP hgot hq
 have hn63:nn≤63:=by omega
 have hn1:1≤nn:=by omega
 clear k1 k3 k4 hnn
 go_enter Tryz.func100,Tryz.ntmps100
 go_wp2_with fail
 refine hN.out.mono ?_
 rintro e w' ⟨rfl,rfl⟩
 go_wp2_with fail
 refine(of_any _ _).mono ?_
 rintro e w1 ⟨rfl,hb1⟩
 rw [hO.out]
 have HP1:=Lib.hid (HP.out.below hb1)
 have T1:=Lib.hid (Turn.below (F:=SlabF a mb D) hb1)
 have hs1:=HP1.out.hs
 clear hb1 hs hN
 go_wp2_with fail
 refine(pages_any _ _).mono ?_
 rintro e w2 ⟨rfl,hb2⟩
 rw [hP.out]
 have HP2:=Lib.hid (HP1.out.below hb2)
 have T2:=Lib.hid (T1.out.trans (Turn.below (F:=SlabF a mb D) hb2))
 have hs2:=HP2.out.hs
 clear hb2 hs1
 go_wp2_with fail
 refine(grant_at HP2.out.sl nn hn1 hn63 hq).mono ?_
 rintro e w3 ⟨f,D',rfl,hfree,hf2,hS3,hGr⟩
 have t3:=gr_turn (a:=a) hGr
 have HP3:=Lib.hid (HP2.out.turn hS3 t3)
 have T3:=Lib.hid (T2.out.trans t3)
 have hfH:=Lib.hid hfree
 clear hS3 hGr t3 hs2 hfree
 go_wp2_with fail
 refine(put_at HP3.out f 2 nn n (by simp;omega) (by omega) (by omega) (by omega)).mono ?_
 rintro e w4 ⟨rfl,h4,t4⟩
 have HP4:=Lib.hid h4
 have T4:=Lib.hid (T3.out.trans t4)
 clear h4 t4
 go_wp2
 go_ret2
 obtain⟨L',hpr,hl',hh',hgt⟩:=hgot.out f hfH.out
 exact⟨64*f+2,_,L',_,by rw [show((64*f+2:Nat):Int)=(f:Int)*64+2 by push_cast;omega];rfl,⟨⟨mb,D',HP4.out.perm hpr,rfl⟩,hl',hh'⟩,T4.out,hgt,by omega⟩
set_option maxRecDepth 100000 in
theorem alloc_large_full{w:World}{ha a q:Nat}{F:Nat→Prop}{L:HL}{mem:Nat→Nat}(h:HeapIs w ha a F L q mem)(n:Nat)(hn:28<n)(hn2:n≤4000)(hq:q<((runs L).length+(n+65)/64)*64):
 Calls Tryz.prog 100 #[.pointer (some ⟨ha,0,none⟩), .int .i64 (n:Nat)] w fun e w' =>e= .returned (.tuple #[.int .i64 0, .int .i64 3])∧Below w.heap.size w w' :=by
 obtain⟨⟨mb,D,k1,rfl⟩,k3,k4⟩:=h
 have hN:=Lib.hid (heapNone_at k1)
 have hO:=Lib.hid (ofR_big (n:=(n:Nat)) ⟨by omega,by omega⟩ (by omega))
 have hP:Hid (pagesR ((n:Nat):Int)= .tuple #[.int .i64 (((n+65)/64:Nat):Int), .int .i64 0]):=Lib.hid (by
  simp only [pagesR,pagesN,ofE];rw [if_pos ⟨by omega,by omega⟩,if_neg (by omega),if_pos ⟨by omega,by omega⟩];push_cast;rfl)
 have HP:=Lib.hid k1
 have hs:=k1.hs
 obtain⟨nn,hnn⟩: ∃nn,(n+65)/64=nn:=⟨_,rfl⟩
 rw [hnn] at hP hq
 have hn63:nn≤63:=by omega
 have hn1:1≤nn:=by omega
 clear k1 k3 k4 hnn
 go_enter Tryz.func100,Tryz.ntmps100
 go_wp2_with fail
 refine hN.out.mono ?_
 rintro e w' ⟨rfl,rfl⟩
 go_wp2_with fail
 refine(of_any _ _).mono ?_
 rintro e w1 ⟨rfl,hb1⟩
 rw [hO.out]
 have HP1:=Lib.hid (HP.out.below hb1)
 have hs1:=HP1.out.hs
 clear hs hN
 go_wp2_with fail
 refine(pages_any _ _).mono ?_
 rintro e w2 ⟨rfl,hb2⟩
 rw [hP.out]
 have HP2:=Lib.hid (HP1.out.below hb2)
 have hs2:=HP2.out.hs
 have hb3:=Lib.hid (hb1.trans (hb2.mono hb1.size))
 clear hb2 hs1 hb1
 go_wp2_with fail
 refine(grant_full HP2.out.sl nn hn1 (by omega) hq).mono ?_
 rintro e w3 ⟨rfl,d,rfl⟩
 go_wp2
 go_ret2
 exact⟨rfl,hb3.out.trans ((drewN_below w2 d).mono hb3.out.size)⟩
set_option maxRecDepth 100000 in
theorem alloc_small{w:World}{ha a q:Nat}{F:Nat→Prop}{L:HL}{mem:Nat→Nat}(h:HeapIs w ha a F L q mem)(n:Nat)(hn1:1≤n)(hn:n≤28):
 Calls Tryz.prog 100 #[.pointer (some ⟨ha,0,none⟩), .int .i64 (n:Nat)] w fun e w' =>
  (∃addr F' L' mem',e= .returned (.tuple #[.int .i64 (addr:Nat), .int .i64 0])∧HeapIs w' ha a F' L' q mem' ∧Turn w F w' F' ∧Got L mem addr n L' mem' ∧addr<40000000)∨
  (e= .returned (.tuple #[.int .i64 0, .int .i64 3])∧Below w.heap.size w w' ∧q<((runs L).length+1)*64):=by
 obtain⟨⟨mb,D,k1,rfl⟩,k3,k4⟩:=h
 have hN:=Lib.hid (heapNone_at k1)
 obtain⟨c,hc⟩: ∃c,cls n=c:=⟨_,rfl⟩
 have hcf:=cls_fits n hn
 rw [hc] at hcf
 have hc8:=hcf.1
 have hO:=Lib.hid (ofR_small (n:=(n:Nat)) ⟨by omega,by omega⟩ (by omega) hc)
 have hSp:=Lib.hid (fun w' (hb:Below w.heap.size w w')=>spot_at (k1.below hb) k3 k4 c hc8)
 have hgot:=Lib.hid (fun(f:Nat) (hf:f∉runs L)=>got_page (mem:=mem) k3 k4 hf hn hc _ rfl)
 have hgs:=Lib.hid (fun(L1 L2:HL) (p m k:Nat) (e:L=L1++(p, .small c m)::L2) (hk:k<slotsN c) (hm:m.testBit k=false)=>got_slot (mem:=mem) (e▸k3) (e▸k4) hk hm hn hc)
 have HP:=Lib.hid k1
 have HLay:=Lib.hid k3
 have HHd:=Lib.hid k4
 have hs:=k1.hs
 have hsl0:0<slotsN c:=by
  have:c=0∨c=1∨c=2∨c=3∨c=4∨c=5∨c=6∨c=7:=by omega
  rcases this with rfl|rfl|rfl|rfl|rfl|rfl|rfl|rfl<;>decide
 have hn28:=Lib.hid hn
 clear k1 k3 k4 hcf hc hn
 go_enter Tryz.func100,Tryz.ntmps100
 go_wp2_with fail
 refine hN.out.mono ?_
 rintro e w' ⟨rfl,rfl⟩
 go_wp2_with fail
 refine(of_any _ _).mono ?_
 rintro e w1 ⟨rfl,hb1⟩
 rw [hO.out]
 go_wp2_with fail
 refine(hSp.out _ hb1).mono ?_
 rintro e w2 ⟨v,rfl,hv,hb2⟩
 have hbA:=Lib.hid (hb1.trans (hb2.mono hb1.size))
 have HP2:=Lib.hid (HP.out.below hbA.out)
 have T2:=Lib.hid (Turn.below (F:=SlabF a mb D) hbA.out)
 have hs2:=HP2.out.hs
 clear hb1 hb2 hs hN
 rcases hv with rfl|⟨L1,L2,p,m,k,hL,hk,hm,rfl⟩
 · go_wp2_with fail
   by_cases hq:((runs L).length+1)*64≤q
   · refine(grant_at HP2.out.sl 1 (by omega) (by omega) hq).mono ?_
     rintro e w3 ⟨f,D',rfl,hfree,hf2,hS3,hGr⟩
     have t3:=gr_turn (a:=a) hGr
     have HP3:=Lib.hid (HP2.out.turn hS3 t3)
     have T3:=Lib.hid (T2.out.trans t3)
     have hfH:Hid (f∉runs L):=Lib.hid (by simpa using hfree 0 (by omega))
     clear hS3 hGr t3 hs2 hfree
     go_wp2_with fail
     refine(put_at HP3.out f 1 c 0 (by simp) (by omega) (by omega) (by omega)).mono ?_
     rintro e w4 ⟨rfl,h4,t4⟩
     have HP4:=Lib.hid h4
     have T4:=Lib.hid (T3.out.trans t4)
     clear h4 t4
     go_wp2_with fail
     refine(take_at HP4.out f c 0 0 (by simp) hc8 hsl0 (by simp only [upd];rw [if_neg (by omega),if_pos trivial]) (by simp only [upd];rw [if_pos trivial])).mono ?_
     rintro e w5 ⟨rfl,h5,t5⟩
     have HP5:=Lib.hid h5
     have T5:=Lib.hid (T4.out.trans t5)
     clear h5 t5
     go_wp2
     go_ret2
     obtain⟨L',hpr,hl',hh',hgt⟩:=hgot.out f hfH.out
     exact .inl ⟨64*f+2,_,L',_,by simp,⟨⟨mb,D',HP5.out.perm (by simpa using hpr),rfl⟩,hl',hh'⟩,T5.out,hgt,by omega⟩
   · refine(grant_full HP2.out.sl 1 (by omega) (by omega) (by omega)).mono ?_
     rintro e w3 ⟨rfl,d,rfl⟩
     have hqH:=Lib.hid hq
     clear hq
     go_wp2
     go_ret2
     exact .inr ⟨rfl,hbA.out.trans ((drewN_below w2 d).mono hbA.out.size),by have:=hqH.out;omega⟩
 · have hkH:=Lib.hid hk
   have hmH:=Lib.hid hm
   have hLH:=Lib.hid hL
   have hx:(p,Hd.small c m)∈L:=by rw [hL];simp
   have hxp:p∈runs L:=mem_runs.2 ⟨_,hx,Nat.le_refl _,by simp [Hd.len]⟩
   have hhx:=HHd.out _ hx
   simp only at hhx
   have hplow:=HP.out.sl.low _ hxp
   have hxpH:=Lib.hid hxp
   have hhxH:=Lib.hid hhx
   clear hk hm hL hx hxp hhx
   go_wp2_with fail
   refine(take_at HP2.out p c m k hxpH.out hc8 hkH.out hhxH.out.1 hhxH.out.2).mono ?_
   rintro e w5 ⟨rfl,h5,t5⟩
   have HP5:=Lib.hid h5
   have T5:=Lib.hid (T2.out.trans t5)
   clear h5 t5
   go_wp2
   go_ret2
   have hroom:=slot_room c k hc8 hkH.out
   have hgg:=hgs.out L1 L2 p m k hLH.out hkH.out hmH.out
   have hLL:=hLH.out
   subst hLL
   refine .inl ⟨64*p+2+k*sz c,_,_,_,rfl,⟨⟨mb,D,HP5.out.perm ?_,rfl⟩,hgg.1,hgg.2.1⟩,T5.out,hgg.2.2,by omega⟩
   rw [runs_turn (p:=p) (hd:=Hd.small c m) (hd' :=Hd.small c (m ||| 2^k)) rfl]
attribute [local go_sem] Oper.semAt_some
structure KE(E:World→Nat→Prop)(A B:World):Prop where
 kb:KB (E A) A B
 grow: ∀k,E B k→E A k∨A.heap.size≤k
theorem KE.trans{E:World→Nat→Prop}{A B C:World}(h:KE E A B)(k:KE E B C):KE E A C:=by
 refine⟨⟨Nat.le_trans h.kb.size k.kb.size,fun i o hi ho hn=> ?_⟩,fun i hi=> ?_⟩
 · have h1:=h.kb.same i o hi ho hn
   refine k.kb.same i o h1 ho (fun hB=> ?_)
   rcases h.grow i hB with h2|h2
   · exact hn h2
   · have:=(Array.getElem?_eq_some_iff.1 hi).1;omega
 · rcases k.grow i hi with h1|h1
   · exact h.grow i h1
   · exact .inr (Nat.le_trans h.kb.size h1)
theorem KE.below{E:World→Nat→Prop}{A B:World}(h:Below A.heap.size A B)(hE: ∀k,E B k→E A k):KE E A B:=⟨KB.below h,fun k hk=> .inl (hE k hk)⟩
structure EOk(E:World→Nat→Prop)(n0 a mb ha B:Nat)(D:DW)(A:Option Addr)(W:World):Prop where
 size:n0≤W.heap.size
 ok: ∀k,E W k→ ¬SlabF a mb D k∧k≠ha∧k≠1∧k≠B∧ ∀r,A=some r→k≠r.block
theorem EOk.below{E:World→Nat→Prop}{n0 a mb ha B:Nat}{D:DW}{A:Option Addr}{X Y:World}(h:EOk E n0 a mb ha B D A X)(hE: ∀X Y:World,n0≤X.heap.size→Below X.heap.size X Y→ ∀k,E Y k→E X k)(hb:Below X.heap.size X Y):EOk E n0 a mb ha B D A Y:=
 ⟨Nat.le_trans h.size hb.size,fun k hk=>h.ok k (hE X Y h.size hb k hk)⟩
theorem row_base{w:World}{base:Nat}{e:TypeId}{A:Option Addr}{n m c:Nat}{xs:List Value}(h:w.ownsRow base e 1 (.slice A m c) n xs){r:Addr}(hr:A=some r):base≤r.block:=by
 rcases h.2 with ⟨h1,_⟩|⟨g,cap,cur,h1,h2,_⟩
 · rw [hr] at h1;cases h1
 · rw [hr] at h1;cases h1;exact h2
theorem row_lt{w:World}{base:Nat}{e:TypeId}{A:Option Addr}{n m c:Nat}{xs:List Value}(h:w.ownsRow base e 1 (.slice A m c) n xs){r:Addr}(hr:A=some r):r.block<w.heap.size:=by
 rcases h.2 with ⟨h1,_⟩|⟨g,cap,cur,h1,h2,h3,_⟩
 · rw [hr] at h1;cases h1
 · rw [hr] at h1;cases h1;exact(Array.getElem?_eq_some_iff.1 h3).1
theorem HWalk.kbE{E:World→Nat→Prop}{w W W' :World}{ha a mb q B base n0:Nat}{D:DW}{L:HL}{mem:Nat→Nat}{A:Option Addr}{n c:Nat}(h:HWalk w ha a mb D L q mem B base (.slice A n c) W)(hk:KE E W W')(ho:EOk E n0 a mb ha B D A W):HWalk w ha a mb D L q mem B base (.slice A n c) W' :=by
 refine⟨h.hp.kb hk.kb (fun k hk=>(ho.ok k hk).1) (fun hk=>(ho.ok _ hk).2.1 rfl) (fun hk=>(ho.ok _ hk).2.2.1 rfl),hk.kb.cell h.box (fun hk=>(ho.ok _ hk).2.2.2.1 rfl), ?_⟩
 refine⟨h.row.1, ?_⟩
 rcases h.row.2 with h1|⟨g,cap,cur,h1,h2,h3,h4⟩
 · exact .inl h1
 · refine .inr ⟨g,cap,cur,h1,h2,hk.kb.same g _ h3 (.inl rfl) (fun hh=> ?_),h4⟩
   cases h1
   exact(ho.ok g hh).2.2.2.2 _ rfl rfl
theorem EOk.step{E:World→Nat→Prop}{w W W' :World}{ha a mb q B base n0:Nat}{D:DW}{L:HL}{mem:Nat→Nat}{A:Option Addr}{n c:Nat}(ho:EOk E n0 a mb ha B D A W)(hk:KE E W W')(h:HWalk w ha a mb D L q mem B base (.slice A n c) W):EOk E n0 a mb ha B D A W' :=by
 refine⟨Nat.le_trans ho.size hk.kb.size,fun k hE=> ?_⟩
 rcases hk.grow k hE with h1|h1
 · exact ho.ok k h1
 · refine⟨fun hf=> ?_, ?_, ?_, ?_,fun r hr=> ?_⟩
   · have:=h.hp.sl.lt hf;omega
   · have:=cell_lt h.hp.hs;simp only at this;omega
   · have h2:=h.hp.tabF a (.inl rfl);have h3:=h.hp.sl.lt (.inl rfl);omega
   · have:=cell_lt h.box;simp only at this;omega
   · have:=row_lt h.row hr;omega
set_option maxRecDepth 100000 in
theorem heads_stopsE{w:World}{ha a mb q B:Nat}{D:DW}{L:HL}{mem:Nat→Nat}(h:HeapAt w ha a mb D (runs L) q mem)(hl:Lay L)(hh:Heads L mem)(hB:w.cell? ⟨B,0,none⟩=some (.pointer (some ⟨ha,0,none⟩)))
 (E:World→Nat→Prop) (hE: ∀X Y:World,w.heap.size≤X.heap.size→Below X.heap.size X Y→ ∀k,E Y k→E X k) (c0:EOk E w.heap.size a mb ha B D none w) (c5: ∀k,E w k→k<w.heap.size):
 SeqStopsK Fence.wide 8 Tryz.prog 106 #[.pointer (some ⟨B,0,none⟩)] (fun x:{y:Nat × Hd // y∈L}=> #[.int .i64 (x.1.1:Nat),hdV x.1.2]) (KE E) (fun xs=>xs.map (·.1)=L) (fun pre=> ∃t,L=pre.map (·.1)++t) L.length w:=fun l J Jx W hBW hJ hJx hY h0=>by
 have hHW:HeapAt W ha a mb D (runs L) q mem:=h.kb (Cs:=fun _=>False) (KB.below hBW) (fun _ h=>h.elim) (fun h=>h) (fun h=>h)
 have hBox:W.cell? ⟨B,0,none⟩=some (.pointer (some ⟨ha,0,none⟩)):=(hBW.cell (p:=⟨B,0,none⟩) (cell_lt hB)).trans hB
 have hs:=hHW.hs
 have hP:=(callsIn_wide (n:=7)).2 (pages_row hHW.sl (runs_rise hl))
 have hPH:=Lib.hid hP
 have hHH:=Lib.hid hHW
 have hlH:=Lib.hid hl
 have hhH:=Lib.hid hh
 have hszW:=hBW.size
 have EW:=Lib.hid (fun k (hk:E W k)=>hE w W (Nat.le_refl _) hBW k hk)
 clear hP hHW hB h hl hh
 refine callsIn_of_wp Tryz.func106 rfl trivial ?_ rfl
 simp only [Tryz.ntmps106,List.size_toArray,List.length_cons,List.length_nil,Nat.reduceAdd,Nat.reduceSub,Array.replicate_succ,Array.replicate_zero,List.push_toArray,List.append_toArray,List.nil_append,List.cons_append]
 gi_wp2_with (refine⟨trivial, ?_⟩;gi_at_call 84;refine hPH.out.mono ?_;rintro e w1 ⟨v,rfl,hrow,hb1⟩;obtain⟨A,c,rfl⟩:=ownsRow_form hrow)
 have hlen:(runs L).length≤4096:=by have h1:=hHH.out.sl.room;have h2:=hHH.out.sl.quota;rw [hHH.out.sl.count] at h1;omega
 have H1:Hid (HWalk w ha a mb D L q mem B W.heap.size (.slice A (runs L).length c) w1):=Lib.hid ⟨hHH.out.below hb1,(hb1.cell (p:=⟨B,0,none⟩) (cell_lt hBox)).trans hBox,hrow⟩
 have J1:=Lib.hid (abides_below hJ h0 hb1)
 have E1:Hid (EOk E w.heap.size a mb ha B D A w1):=Lib.hid ⟨Nat.le_trans hszW hb1.size,fun k hk=>by
  have hk2:=EW.out k (hE W w1 hszW hb1 k hk)
  obtain⟨q1,q2,q3,q4,_⟩:=c0.ok k hk2
  refine⟨q1,q2,q3,q4,fun r hr=> ?_⟩
  have:=row_base hrow hr
  have:=c5 k hk2
  omega⟩
 clear hrow hb1 hBox hs h0 hPH
 gi_loopw [3,13] (fun nv iv wr=> ∃(pre:List {y:Nat × Hd // y∈L}) (i next:Nat),i≤(runs L).length∧iv= .int .i64 i∧nv= .int .i64 next∧next≤1000000∧Hid (HPos L (pre.map (·.1)) i next)∧Hid (HWalk w ha a mb D L q mem B W.heap.size (.slice A (runs L).length c) wr)∧Hid (EOk E w.heap.size a mb ha B D A wr)∧Hid (J pre wr)) (fun _ iv _=>(runs L).length-(intOf iv).toNat)
 case atStart=>exact⟨[],0,0,by omega,rfl,rfl,by omega,Lib.hid (hpos_start L),H1,E1,J1⟩
 case round=>
  obtain⟨pre,i,next,hi,rfl,rfl,hnx,hpos,H,HE,hj⟩:=hrel
  rcases hpos_cases hlH.out hpos.out with ⟨p,hp,hlt,hnext⟩|⟨x,rest,hL,hp,hle,hnext⟩|⟨hL,hend⟩
  · obtain⟨g,c',hv,_,_,hcell⟩:=ownsRow_cell H.out.row (i:=i) (u:= .int .i64 (p:Int)) (by rw [List.getElem?_map,hp];rfl)
    cases hv
    have hil:i<(runs L).length:=(List.getElem?_eq_some_iff.1 hp).1
    have hd:decide ((p:Int)<(next:Int))=true:=by simp;omega
    have hnH:=Lib.hid hnext
    clear hp hnext hY
    gi_wp2
    go_roundw
    case rel=>exact⟨pre,i+1,next,by omega,by go_num,by trivial,hnx,hnH,H,HE,hj⟩
    case measure=>simp [intOf];omega
  · obtain⟨g,c',hv,_,_,hcell⟩:=ownsRow_cell H.out.row (i:=i) (u:= .int .i64 (x.1:Int)) (by rw [List.getElem?_map,hp];rfl)
    cases hv
    have hil:i<(runs L).length:=(List.getElem?_eq_some_iff.1 hp).1
    have hxm:x∈L:=hL▸List.mem_append_right _ List.mem_cons_self
    have hxp:x.1∈runs L:=(List.getElem?_eq_some_iff.1 hp).2▸List.getElem_mem _
    have hlow:=H.out.hp.sl.low _ hxp
    have hok:=hlH.out.ok x hxm
    have hhx:=hhH.out x hxm
    have hpl:pre.length<L.length:=by have h9:=congrArg List.length hL;simp only [List.length_append,List.length_map,List.length_cons] at h9;omega
    have hbx:=H.out.box
    have hd:decide ((x.1:Int)<(next:Int))=false:=by simp;omega
    have hnH:=Lib.hid hnext
    have hpreH:Hid (∃t,L=(pre++ [(⟨x,hxm⟩:{y:Nat × Hd // y∈L})]).map (fun y=>y.1)++t):=Lib.hid ⟨rest,by rw [List.map_append,List.append_assoc];exact hL⟩
    have hmapH:Hid ((pre++ [(⟨x,hxm⟩:{y:Nat × Hd // y∈L})]).map (fun y=>y.1)=pre.map (fun y=>y.1)++ [x]):=Lib.hid (by rw [List.map_append];rfl)
    obtain⟨p,hdx⟩:=x
    simp only at hcell hxp hlow hd hle hhx
    have hYH:=Lib.hid hY
    have hxpH:=Lib.hid hxp
    have hxmH:=Lib.hid hxm
    clear hp hnext hL hY hxp
    cases hdx with
    |small cc m=>
     obtain⟨hm1,hm2⟩:=hhx
     obtain⟨hc8,hm0,hmS⟩:=hok
     have hG:=(callsIn_wide (n:=7)).2 (get_raw H.out.hp p 1 cc m hxpH.out (by omega) (by omega) hm1 hm2)
     have hGH:=Lib.hid hG
     clear hG hm1 hm2
     gi_wp2_with (refine⟨trivial, ?_⟩;gi_at_call 107;refine hGH.out.mono ?_;rintro e w2 ⟨rfl,hb2⟩)
     have hb3:Below wr.heap.size wr (w2.alloc (Obj.cells #[Value.int IntKind.i64 1,Value.int IntKind.i64 (cc:Nat),Value.int IntKind.u64 (m:Nat)] 154)):=hb2.alloc hb2.size _
     have hj3:=abides_below hJ hj.out hb3
     have H3:=Lib.hid (H.out.below hb3)
     have E3:=Lib.hid (HE.out.below hE hb3)
     obtain⟨fn,tmps,assign,body,hy,hR⟩:=hYH.out pre ⟨(p, .small cc m),hxmH.out⟩ _ hj3 hpl
     dsimp only [hdV] at hy
     have hRH:=Lib.hid hR
     clear hR hj3 hb3
     rw [hy]
     gi_wp2
     refine(hRH.out).mono ?_
     rintro e W2 (⟨rfl,hJ2,hK2⟩|⟨rfl,hJx2⟩)
     · have H4:=Lib.hid (H3.out.kbE hK2 E3.out)
       have E4:=Lib.hid (E3.out.step hK2 H3.out)
       have hJ4:=Lib.hid hJ2
       clear hJ2 hK2
       gi_wp2
       go_roundw
       case rel=>exact⟨pre++ [⟨(p, .small cc m),hxmH.out⟩],i+1,next,by omega,by go_num,by trivial,hnx,Lib.hid (by rw [hmapH.out];exact hnH.out _ (.inr ⟨rfl,rfl⟩)),H4,E4,hJ4⟩
       case measure=>simp [intOf];omega
     · have hJx4:=Lib.hid hJx2
       clear hJx2
       gi_wp2
       refine bodyPost_ret (results_none rfl _ _ _) rfl ?_
       exact⟨⟨_,rfl⟩, .inr ⟨_,hpreH.out,hJx4.out⟩⟩
    |large ww=>
     obtain⟨hm1,hm2⟩:=hhx
     obtain⟨hw1,hw2⟩:=hok
     obtain⟨nn,hnn⟩: ∃nn,nn=(ww+65)/64:=⟨_,rfl⟩
     have hnn2:nn≤63:=by omega
     have hG:=(callsIn_wide (n:=7)).2 (get_raw H.out.hp p 2 nn ww hxpH.out (by omega) (by omega) (hnn▸hm1) hm2)
     have hGH:=Lib.hid hG
     have hnnH:=Lib.hid hnn
     clear hG hm1 hm2 hnn
     gi_wp2_with (refine⟨trivial, ?_⟩;gi_at_call 107;refine hGH.out.mono ?_;rintro e w2 ⟨rfl,hb2⟩)
     have hb3:Below wr.heap.size wr (w2.alloc (Obj.cells #[Value.int IntKind.i64 2,Value.int IntKind.i64 (nn:Nat),Value.int IntKind.u64 (ww:Nat)] 154)):=hb2.alloc hb2.size _
     have hj3:=abides_below hJ hj.out hb3
     have H3:=Lib.hid (H.out.below hb3)
     have E3:=Lib.hid (HE.out.below hE hb3)
     obtain⟨fn,tmps,assign,body,hy,hR⟩:=hYH.out pre ⟨(p, .large ww),hxmH.out⟩ _ hj3 hpl
     dsimp only [hdV] at hy
     rw [←hnnH.out] at hy
     have hRH:=Lib.hid hR
     clear hR hj3 hb3
     rw [hy]
     gi_wp2
     refine(hRH.out).mono ?_
     rintro e W2 (⟨rfl,hJ2,hK2⟩|⟨rfl,hJx2⟩)
     · have H4:=Lib.hid (H3.out.kbE hK2 E3.out)
       have E4:=Lib.hid (E3.out.step hK2 H3.out)
       have hJ4:=Lib.hid hJ2
       clear hJ2 hK2
       gi_wp2
       go_roundw
       case rel=>exact⟨pre++ [⟨(p, .large ww),hxmH.out⟩],i+1,p+nn,by omega,by go_num,by go_num,by omega,Lib.hid (by rw [hmapH.out];exact hnH.out _ (.inl (by rw [hnnH.out];rfl))),H4,E4,hJ4⟩
       case measure=>simp [intOf];omega
     · have hJx4:=Lib.hid hJx2
       clear hJx2
       gi_wp2
       refine bodyPost_ret (results_none rfl _ _ _) rfl ?_
       exact⟨⟨_,rfl⟩, .inr ⟨_,hpreH.out,hJx4.out⟩⟩
  · have hLH:=Lib.hid hL
    clear hL
    have hil:i=(runs L).length:=by omega
    subst hil
    clear hY
    gi_wp2
    go_end0
    exact⟨⟨_,rfl⟩, .inl ⟨_,hLH.out.symm,hj.out⟩⟩
end Go.Proofs.YthcmecokejemcaaGreatDoor
namespace Go.Proofs.YthcmecokejemcaaGreatDoor
open Go.RowKit Go.Shelf
attribute [local go_sem] Oper.semAt_some wide_fn
theorem lay_nil:Lay ([]:HL):=⟨List.Pairwise.nil,by simp⟩
theorem heads_nil(mem:Nat→Nat):Heads ([]:HL) mem:=by intro x hx;simp at hx
theorem pages_none{w:World}{a mb q:Nat}{D:DW}{mem:Nat→Nat}(h:SlabAt w a mb D [] q mem):
 Calls Tryz.prog 84 #[.pointer (some ⟨a,0,none⟩)] w fun e w' =>e= .returned (.slice none 0 0)∧Below w.heap.size w w' :=
 (pages_at h).mono fun e w' ⟨v,ss,he,hp,hrow,hn,hb⟩=>by
  obtain⟨h1,h2⟩:=pages_sorted h List.Pairwise.nil hp
  have:ss= []:=List.eq_nil_of_length_eq_zero h1
  rw [hn.2 this] at he
  exact⟨he,hb⟩
set_option maxRecDepth 100000 in
theorem audit_empty{w:World}{ha a q:Nat}{F:Nat→Prop}{mem:Nat→Nat}(h:HeapIs w ha a F [] q mem):
 Calls Tryz.prog 53 #[.pointer (some ⟨ha,0,none⟩)] w fun e w' =>e= .returned (.int .i64 0)∧Below w.heap.size w w' :=by
 obtain⟨⟨mb,D,k1,rfl⟩,k3,k4⟩:=h
 refine(callsIn_wide (n:=9)).1 ?_
 have hN:=Lib.hid (fun w' (hb:Below w.heap.size w w')=>(callsIn_wide (n:=8)).2 (heapNone_at (k1.below hb)))
 have hHd:=Lib.hid (fun w=>(callsIn_wide (n:=8)).2 (heads_calls ha w))
 have HH:=Lib.hid k1
 clear k1 k3 k4
 refine callsIn_of_wp_marks Tryz.func53 rfl trivial ?_ rfl
 simp only [Tryz.ntmps53,List.size_toArray,List.length_cons,List.length_nil,Nat.reduceAdd,Nat.reduceSub,Array.replicate_succ,Array.replicate_zero,List.push_toArray,List.append_toArray,List.nil_append,List.cons_append]
 gi_wp2_with fail
 have hb1:Below w.heap.size w ((w.alloc (Obj.cells #[Value.pointer (some { block:=ha,off:=0 })] 67)).alloc (Obj.cells #[Value.int IntKind.i64 0] 26)):=((Below.refl _ w).alloc (Nat.le_refl _) _).alloc (by simp) _
 refine(hN.out _ hb1).mono ?_
 rintro e w' ⟨rfl,rfl⟩
 gi_wp2_with fail
 have hb2:Below w.heap.size w (((w.alloc (Obj.cells #[Value.pointer (some { block:=ha,off:=0 })] 67)).alloc (Obj.cells #[Value.int IntKind.i64 0] 26)).alloc (Obj.cells #[Value.int IntKind.i64 0] 3)):=hb1.alloc (by simp;omega) _
 have hc0:(((w.alloc (Obj.cells #[Value.pointer (some { block:=ha,off:=0 })] 67)).alloc (Obj.cells #[Value.int IntKind.i64 0] 26)).alloc (Obj.cells #[Value.int IntKind.i64 0] 3)).cell? ⟨w.heap.size,0,none⟩=some (.pointer (some ⟨ha,0,none⟩)):=by go_simp
 have hc1:(((w.alloc (Obj.cells #[Value.pointer (some { block:=ha,off:=0 })] 67)).alloc (Obj.cells #[Value.int IntKind.i64 0] 26)).alloc (Obj.cells #[Value.int IntKind.i64 0] 3)).cell? ⟨w.heap.size+1,0,none⟩=some (.int .i64 0):=by go_simp
 have hf1:(((w.alloc (Obj.cells #[Value.pointer (some { block:=ha,off:=0 })] 67)).alloc (Obj.cells #[Value.int IntKind.i64 0] 26)).alloc (Obj.cells #[Value.int IntKind.i64 0] 3)).frozen? ⟨w.heap.size+1,0,none⟩=false:=by go_simp
 have hc2:(((w.alloc (Obj.cells #[Value.pointer (some { block:=ha,off:=0 })] 67)).alloc (Obj.cells #[Value.int IntKind.i64 0] 26)).alloc (Obj.cells #[Value.int IntKind.i64 0] 3)).cell? ⟨w.heap.size+1+1,0,none⟩=some (.int .i64 0):=by go_simp
 generalize (((w.alloc (Obj.cells #[Value.pointer (some { block:=ha,off:=0 })] 67)).alloc (Obj.cells #[Value.int IntKind.i64 0] 26)).alloc (Obj.cells #[Value.int IntKind.i64 0] 3))=W0 at*
 refine(hHd.out _).mono ?_
 rintro e w2 ⟨rfl,hW2⟩
 have hbe:Below W0.heap.size W0 w2:=by rw [hW2];exact(Below.refl _ _).alloc (Nat.le_refl _) _
 have hx2:w2.cell? ⟨W0.heap.size,0,none⟩=some (.pointer (some ⟨ha,0,none⟩)):=by rw [hW2];go_simp
 have hbw:=hb2.trans (hbe.mono hb2.size)
 have hd0:=(hbe.cell (p:=⟨w.heap.size,0,none⟩) (cell_lt hc0)).trans hc0
 have hd1:=(hbe.cell (p:=⟨w.heap.size+1,0,none⟩) (cell_lt hc1)).trans hc1
 have hg1:=(hbe.frozen (p:=⟨w.heap.size+1,0,none⟩) (cell_lt hc1)).trans hf1
 have hd2:=(hbe.cell (p:=⟨w.heap.size+1+1,0,none⟩) (cell_lt hc2)).trans hc2
 clear hW2 hbe hc0 hc1 hf1 hc2 hb1 hb2 hN
 gi_wp2_with fail
 have HH2:=Lib.hid (HH.out.below hbw)
 refine wpIn_rangeFunc_ownH (α:={z:Nat × Hd // z∈([]:HL)}) rfl (by omega) (gf:=106) (lb:= #[.pointer (some ⟨W0.heap.size,0,none⟩)]) rfl trivial (enters_of Tryz.func106 (by kernel_rfl) rfl)
  (heads_stops HH2.out lay_nil (heads_nil _) hx2 (fun _=>False) (fun _ h=>h.elim) (fun h=>h) (fun h=>h) (fun h=>h) (fun _ h=>h.elim))
  (fun h k=>h.trans k) (fun W l o o' _ hl h1 h2=>KB.putObj o' hl h1 h2) (Below.refl _ _) (fun _=>rfl)
  (fun pre W=>Below w2.heap.size w2 W)
  (fun cd pre W=>False)
  (fun s A B row hs hg hr=>ownFrom_below (Nat.le_refl _) (by omega) s A B row hs hg hr)
  (fun _ _ _ _ _ hs _ _=>hs)
  (Below.refl _ _)
  (fun x a' W=>False)
  (fun _ _ _ _ _ _ hs _ _=>hs)
  ?assign ?body ?done ?stop
 case assign=>
  rintro l pre ⟨x,hx⟩
  simp at hx
 case body=>
  rintro l pre ⟨x,hx⟩
  simp at hx
 case stop=>
  rintro D' cd pre W hD hSp hf
  exact hf.elim
 case done=>
  rintro D' xs W hD hxs hi hK
  have he0:=(hi.cell (p:=⟨w.heap.size,0,none⟩) (cell_lt hd0)).trans hd0
  have he1:=(hi.cell (p:=⟨w.heap.size+1,0,none⟩) (cell_lt hd1)).trans hd1
  have he2:=(hi.cell (p:=⟨w.heap.size+1+1,0,none⟩) (cell_lt hd2)).trans hd2
  have hh1:=(hi.frozen (p:=⟨w.heap.size+1,0,none⟩) (cell_lt hd1)).trans hg1
  have HW:=Lib.hid (HH2.out.kb (Cs:=fun _=>False) (KB.below hi) (fun _ h=>h.elim) (fun h=>h) (fun h=>h))
  have hs:=HW.out.hs
  have x0:=fun X:Bel W=>X.cell he0
  have x2:=fun X:Bel W=>X.cell he2
  have x3:=fun X:Bel W=>X.cell hs
  have hP:=Lib.hid (fun X:Bel W=>(callsIn_wide (n:=8)).2 (pages_none (HW.out.below X.h).sl))
  have hmo:Tryz.prog.follows .mixedOrders=true:=by kernel_rfl
  have hbW:=Lib.hid (hbw.trans (hi.mono hbw.size))
  have hKl:=(Array.getElem?_eq_some_iff.1 hK).1
  clear hxs hi
  gi_wp2
  refine wpIn_region_calm (by kernel_rfl) hmo (by kernel_rfl) ?_
  repeat (gi_big_quiet_step ((gi_at_call 84;exact callsIn_calm (hP.out _))))
  refine wpQuietIn_nil ?_
  rintro _ ⟨X,rfl⟩
  have hj1:=X.cell he1
  have hk1:X.W.frozen? ⟨w.heap.size+1,0,none⟩=false:=(X.frozen (p:=⟨w.heap.size+1,0,none⟩) (cell_lt he1)).trans hh1
  have hKX:=(X.block hKl).trans hK
  have hbX:=Lib.hid (hbW.out.trans (X.h.mono hbW.out.size))
  generalize X.W=W5 at*
  clear x0 x2 x3 he0 he1 he2 hh1 hs hK
  have hset:((W5.setCell ⟨w.heap.size+1,0,none⟩ (.int .i64 0)).putObj D' (.deferred none)).cell? ⟨w.heap.size+1,0,none⟩=some (.int .i64 0):=by
   have h1:(W5.setCell ⟨w.heap.size+1,0,none⟩ (.int .i64 0)).cell? ⟨w.heap.size+1,0,none⟩=some (.int .i64 0):=World.cell?_setCell_same' _ _ _ (by rw [hj1];rfl)
   exact cell_kept h1 (grownBy_putObj' _ D' (.deferred none)) (fun r e=>by cases e;exact⟨_,(KeepsOthers.setCell W5 ⟨w.heap.size+1,0,none⟩ (.int .i64 0)).same D' _ hKX rfl,rfl⟩)
  have hK1:=(KeepsOthers.setCell W5 ⟨w.heap.size+1,0,none⟩ (.int .i64 0)).same D' _ hKX rfl
  gi_wp2
  refine⟨by simp, .inl ⟨_,_,rfl,run_takeDeferred hK1, ?_⟩⟩
  refine⟨.int .i64 0, ?_,rfl,(hbX.out.setCell (p:=⟨w.heap.size+1,0,none⟩) (by simp) _).trans (belowK_b (w:=w) (Nat.le_refl _) _ D' _ _ (by have:=hbw.size;omega) hK1 rfl rfl)⟩
  simp [results,Tryz.f53,go_sem,hset]
end Go.Proofs.YthcmecokejemcaaGreatDoor
namespace Go.Proofs.YthcmecokejemcaaGreatDoor
open Go.RowKit Go.Shelf
set_option maxRecDepth 100000 in
theorem heapNew_at{w:World}{a mb q:Nat}{D:DW}{mem:Nat→Nat}(h:SlabAt w a mb D [] q mem)(hT:Tab w)(htF: ∀b,SlabF a mb D b→1<b):
 Calls Tryz.prog 24 #[.pointer (some ⟨a,0,none⟩)] w fun e w' => ∃ha,e= .returned (.tuple #[.pointer (some ⟨ha,0,none⟩), .int .i64 0])∧HeapIs w' ha a (SlabF a mb D) [] q mem∧w.heap.size≤ha∧Below w.heap.size w w' :=by
 have hR:=Lib.hid (read_none h 0 (by omega) (by simp))
 have hb1:Below w.heap.size w (w.alloc (.cells #[.pointer (some ⟨a,0,none⟩)] 122)):=(Below.refl _ w).alloc (Nat.le_refl _) _
 have hlt:=h.lt (.inl rfl:SlabF a mb D a)
 have hH:HeapIs (w.alloc (.cells #[.pointer (some ⟨a,0,none⟩)] 122)) w.heap.size a (SlabF a mb D) [] q mem:=by
  refine⟨⟨mb,D,⟨by go_simp,h.alloc _,fun hf=>Nat.lt_irrefl _ (h.lt hf),hT.below hb1 (Nat.lt_trans (htF a (.inl rfl)) hlt),htF⟩,rfl⟩,lay_nil,heads_nil _⟩
 have hA:=Lib.hid (audit_empty hH)
 have hHH:=Lib.hid hH
 have hbH:=Lib.hid hb1
 clear h hT hH hb1
 go_enter Tryz.func24,Tryz.ntmps24
 go_wp2_with fail
 refine hR.out.mono ?_
 rintro e w' ⟨rfl,rfl⟩
 go_wp2_with fail
 refine hA.out.mono ?_
 rintro e w2 ⟨rfl,hb2⟩
 have hb3:=Lib.hid (hbH.out.trans (hb2.mono (by simp)))
 have hH2:=Lib.hid (hHH.out.below hb2)
 clear hb2
 go_wp2
 go_ret2
 exact⟨_,rfl,hH2.out,Nat.le_refl _,hb3.out⟩
structure Sl where
 is:Nat
 gen:Nat
 addr:Nat
abbrev Sl.cells(s:Sl):List Value:= [.int .i64 (s.is:Nat), .int .u32 (s.gen:Nat), .int .i64 (s.addr:Nat)]
def slCells(sl:List Sl):List Value:=sl.flatMap Sl.cells
structure Sl.Ok(last:Nat)(s:Sl):Prop where
 is:s.is≤2
 lo:1≤s.gen
 hi:s.gen≤last
 free:s.is=0→s.gen<last
 addr:s.addr<1099511627776
structure HTab(w:World)(t:Nat)(v:Value)(most last:Nat)(sl:List Sl):Prop where
 c0:w.cell? ⟨t,0,none⟩=some (.int .i64 (most:Nat))
 c1:w.cell? ⟨t,1,none⟩=some (.int .u32 (last:Nat))
 c2:w.cell? ⟨t,2,none⟩=some v
 f2:w.frozen? ⟨t,2,none⟩=false
 row:w.ownsRow 0 193 3 v sl.length (slCells sl)
 off:v.ownBlock≠some t
 m1:1≤most
 m2:most≤65536
 l1:1≤last
 l2:last<4294967296
 len:sl.length≤most
 ok: ∀s∈sl,s.Ok last
def HTabF(t:Nat)(v:Value)(b:Nat):Prop:=b=t∨v.ownBlock=some b
theorem slCells_len(sl:List Sl):(slCells sl).length=3*sl.length:=by
 induction sl with
 |nil=>rfl
 |cons s t ih=>simp only [slCells,List.flatMap_cons,List.length_append,List.length_cons] at *; rw [ih];simp;omega
theorem slCells_at(sl:List Sl)(k:Nat)(hk:k<sl.length)(j:Nat)(hj:j<3):(slCells sl)[3*k+j]? =(sl[k]).cells[j]? :=by
 induction sl generalizing k with
 |nil=>simp at hk
 |cons s t ih=>
  cases k with
  |zero=>
   simp only [slCells,List.flatMap_cons,Nat.mul_zero,Nat.zero_add,List.getElem_cons_zero]
   rw [List.getElem?_append_left (by simpa using hj)]
  |succ k=>
   simp only [slCells,List.flatMap_cons,List.getElem_cons_succ]
   rw [List.getElem?_append_right (by simp;omega)]
   rw [show 3*(k+1)+j-s.cells.length=3*k+j by simp;omega]
   exact ih k (by simpa using hk)
theorem HTab.row_form{w:World}{t most last:Nat}{v:Value}{sl:List Sl}(h:HTab w t v most last sl): ∃A c,v= .slice A sl.length c:=by
 rcases h.row.2 with ⟨rfl,h0⟩|⟨g,cap,cur,rfl,_⟩
 · exact⟨none,0,by rw [h0]⟩
 · exact⟨_,_,rfl⟩
theorem HTab.slot{w:World}{t most last:Nat}{v:Value}{sl:List Sl}(h:HTab w t v most last sl){k:Nat}(hk:k<sl.length):
 ∃g c,v= .slice (some ⟨g,0,none⟩) sl.length c∧g<w.heap.size∧w.cell? ⟨g,k*3,none⟩=some (.int .i64 (sl[k].is:Nat))∧w.cell? ⟨g,k*3+1,none⟩=some (.int .u32 (sl[k].gen:Nat))∧w.cell? ⟨g,k*3+2,none⟩=some (.int .i64 (sl[k].addr:Nat))∧
  w.frozen? ⟨g,k*3,none⟩=false∧w.frozen? ⟨g,k*3+1,none⟩=false∧w.frozen? ⟨g,k*3+2,none⟩=false∧w.ownsRow 0 193 3 (.slice (some ⟨g,0,none⟩) sl.length c) sl.length (slCells sl):=by
 have hrow:=h.row
 rcases h.row.2 with ⟨rfl,h0⟩|⟨g,cap,cur,rfl,hb,hg,hcur⟩
 · omega
 · have hc:=fun j (hj:j<3)=>slCells_at sl k hk j hj
   refine⟨g,cap,rfl,(Array.getElem?_eq_some_iff.1 hg).1, ?_, ?_, ?_,hrow.frozenAt _,hrow.frozenAt _,hrow.frozenAt _,hrow⟩
   · rw [hrow.cellAt _ (by omega),show k*3=3*k+0 by omega,hc 0 (by omega)];rfl
   · rw [hrow.cellAt _ (by omega),show k*3+1=3*k+1 by omega,hc 1 (by omega)];rfl
   · rw [hrow.cellAt _ (by omega),show k*3+2=3*k+2 by omega,hc 2 (by omega)];rfl
theorem hnone_at{w:World}{t most last:Nat}{v:Value}{sl:List Sl}(h:HTab w t v most last sl):Calls Tryz.prog 129 #[.pointer (some ⟨t,0,none⟩)] w fun e w' =>e= .returned (.bool false)∧w=w' :=by
 have h0:=h.c0
 have hm:=h.m1
 have d1:((most:Int)==0)=false:=by simp;omega
 clear h
 go_enter Tryz.func129,Tryz.ntmps129
 go_wp2
 go_ret
 exact⟨rfl,rfl⟩
theorem or32(g k:Nat)(hg:g<4294967296)(hk:k<4294967296):bits BinOp.or IntKind.u64 ((g:Int)*4294967296) (k:Int)=((g*4294967296+k:Nat):Int):=by
 rw [show(g:Int)*4294967296=((g*4294967296:Nat):Int) by omega,bits_or_u64_nat _ _ (by omega) (by omega)]
 have:=Nat.shiftLeft_add_eq_or_of_lt (i:=32) (b:=k) (by omega) g
 rw [Nat.shiftLeft_eq] at this
 rw [show(2:Nat)^32=4294967296 by decide] at this
 rw [this]
theorem and32(h:Nat)(hh:h<18446744073709551616):bits BinOp.and IntKind.u64 (h:Int) 4294967295=((h%4294967296:Nat):Int):=by
 have h1:(4294967295:Int)=((2^32-1:Nat):Int):=by decide
 rw [h1,bits_and_u64_nat _ _ hh (by decide),Nat.and_two_pow_sub_one_eq_mod]
def handleN(g k:Nat):Nat:=g*4294967296+(k+1)
set_option maxRecDepth 100000 in
theorem name_at{w:World}{t most last:Nat}{v:Value}{sl:List Sl}(h:HTab w t v most last sl){k:Nat}(hk:k<sl.length):Calls Tryz.prog 130 #[.pointer (some ⟨t,0,none⟩), .int .i64 (k:Nat)] w fun e w' =>e= .returned (.int .u64 (handleN sl[k].gen k:Nat))∧w=w' :=by
 have h2:=h.c2
 obtain⟨g,c,rfl,hg,s0,s1,s2,_⟩:=h.slot hk
 have hok:=h.ok _ (List.getElem_mem hk)
 have hgen:=hok.hi
 have hl2:=h.l2
 have hlen:=h.len
 have hm2:=h.m2
 generalize hgg:sl[k].gen=gen at*
 have hO:Hid (bits BinOp.or IntKind.u64 ((gen:Int)*4294967296) ((k:Int)+1)=((handleN gen k:Nat):Int)):=Lib.hid (by
  have:=or32 gen (k+1) (by omega) (by omega)
  rw [Int.natCast_add] at this
  exact this)
 clear h hok hgg
 go_enter Tryz.func130,Tryz.ntmps130
 go_wp2
 go_ret
 exact⟨by rw [←hO.out];rfl,rfl⟩
structure Names(sl:List Sl)(h k:Nat):Prop where
 lt:k<sl.length
 is: ∀hk:k<sl.length,sl[k].is=1
 gen: ∀hk:k<sl.length,h=handleN sl[k].gen k
def NoName(sl:List Sl)(h:Nat):Prop:= ∀k,¬Names sl h k
set_option maxRecDepth 100000 in
theorem of_hit{w:World}{t most last:Nat}{v:Value}{sl:List Sl}(hT:HTab w t v most last sl){h k:Nat}(hn:Names sl h k):
 Calls Tryz.prog 119 #[.pointer (some ⟨t,0,none⟩), .int .u64 (h:Nat)] w fun e w' => ∃g,v.ownBlock=some g∧e= .returned (.tuple #[.pointer (some ⟨g,k*3,none⟩), .int .i64 0])∧w=w' :=by
 have hk:=hn.lt
 have h2:=hT.c2
 have hN:=Lib.hid (hnone_at hT)
 obtain⟨g,c,rfl,hg,s0,s1,s2,_⟩:=hT.slot hk
 have hok:=hT.ok _ (List.getElem_mem hk)
 have hgen:=hok.hi
 have hl2:=hT.l2
 have hlen:=hT.len
 have hm2:=hT.m2
 have his:=hn.is hk
 have hge:=hn.gen hk
 rw [his] at s0
 generalize hgg:sl[k].gen=gen at*
 unfold handleN at hge
 have hA:=Lib.hid (and32 h (by omega))
 have hmod:h%4294967296=k+1:=by omega
 have hdiv:Hid ((h:Int)/4294967296=(gen:Int)):=Lib.hid (by omega)
 rw [hmod] at hA
 have hh64:h<18446744073709551616:=by omega
 clear hT hok hgg hge hn his hmod
 go_enter Tryz.func119,Tryz.ntmps119
 go_wp2_with fail
 refine hN.out.mono ?_
 rintro e w' ⟨rfl,rfl⟩
 have hA' :=hA.out
 have hdiv' :=hdiv.out
 go_wp2_with fail
 go_ret2
 exact⟨g,rfl,rfl,rfl⟩
set_option maxRecDepth 100000 in
theorem of_miss{w:World}{t most last:Nat}{v:Value}{sl:List Sl}(hT:HTab w t v most last sl){h:Nat}(hh:h<18446744073709551616)(hn:NoName sl h):
 Calls Tryz.prog 119 #[.pointer (some ⟨t,0,none⟩), .int .u64 (h:Nat)] w fun e w' =>e= .returned (.tuple #[.pointer none, .int .i64 7])∧w=w' :=by
 have h2:=hT.c2
 have hN:=Lib.hid (hnone_at hT)
 obtain⟨A,c,rfl⟩:=hT.row_form
 have hl2:=hT.l2
 have hlen:=hT.len
 have hm2:=hT.m2
 have hA:=and32 h hh
 obtain⟨j,hj⟩: ∃j,h%4294967296=j:=⟨_,rfl⟩
 have hjb:j<4294967296:=by omega
 rw [hj] at hA
 cases j with
 |zero=>
  have hAH:=Lib.hid hA
  clear hT hn hj hA
  go_enter Tryz.func119,Tryz.ntmps119
  go_wp2_with fail
  refine hN.out.mono ?_
  rintro e w' ⟨rfl,rfl⟩
  have hA' :=hAH.out
  go_wp2_with fail
  go_ret2
  exact⟨rfl,rfl⟩
 |succ k=>
  by_cases hk:k<sl.length
  · obtain⟨g,c',hv,hg,s0,s1,s2,_⟩:=hT.slot hk
    cases hv
    have hok:=hT.ok _ (List.getElem_mem hk)
    have hgen:=hok.hi
    have his2:=hok.is
    have hdec:sl[k].is≠1∨(sl[k].is=1∧sl[k].gen≠h/4294967296):=by
     by_cases h1:sl[k].is=1
     · refine .inr ⟨h1,fun h3=>hn k ⟨hk,fun _=>h1,fun _=> ?_⟩⟩
       unfold handleN;omega
     · exact .inl h1
    have hAH:=Lib.hid hA
    obtain⟨is,his⟩: ∃is,sl[k].is=is:=⟨_,rfl⟩
    obtain⟨gen,hgg⟩: ∃gen,sl[k].gen=gen:=⟨_,rfl⟩
    rw [his] at s0 hdec his2
    rw [hgg] at s1 hdec hgen
    obtain⟨d,hd⟩: ∃d,h/4294967296=d:=⟨_,rfl⟩
    rw [hd] at hdec
    have hdb:d<4294967296:=by omega
    have hdH:Hid ((h:Int)/4294967296=(d:Int)):=Lib.hid (by omega)
    clear hT hn hj hok his hgg hA hd s2
    rcases hdec with h1|⟨rfl,h1⟩
    · have d1:((is:Int) !=1)=true:=by simp;omega
      clear h1
      go_enter Tryz.func119,Tryz.ntmps119
      go_wp2_with fail
      refine hN.out.mono ?_
      rintro e w' ⟨rfl,rfl⟩
      have hA' :=hAH.out
      have hdiv' :=hdH.out
      go_wp2_with fail
      go_ret2
      exact⟨rfl,rfl⟩
    · have d1:((gen:Int) !=(d:Int))=true:=by simp;omega
      clear h1
      go_enter Tryz.func119,Tryz.ntmps119
      go_wp2_with fail
      refine hN.out.mono ?_
      rintro e w' ⟨rfl,rfl⟩
      have hA' :=hAH.out
      have hdiv' :=hdH.out
      go_wp2_with fail
      go_ret2
      exact⟨rfl,rfl⟩
  · have hAH:=Lib.hid hA
    clear hT hn hj hA
    go_enter Tryz.func119,Tryz.ntmps119
    go_wp2_with fail
    refine hN.out.mono ?_
    rintro e w' ⟨rfl,rfl⟩
    have hA' :=hAH.out
    go_wp2_with fail
    go_ret2
    exact⟨rfl,rfl⟩
theorem slCells_get(sl:List Sl)(i:Nat):(slCells sl)[i]? =(sl[i/3]?).bind (fun s=>s.cells[i%3]?):=by
 by_cases h:i/3<sl.length
 · rw [List.getElem?_eq_getElem h]
   have:=slCells_at sl (i/3) h (i%3) (Nat.mod_lt _ (by omega))
   rw [show 3*(i/3)+i%3=i by omega] at this
   exact this
 · have h1:sl[i/3]? =none:=List.getElem?_eq_none (by omega)
   have h2:(slCells sl)[i]? =none:=List.getElem?_eq_none (by rw [slCells_len];omega)
   rw [h1,h2]
   rfl
theorem slCells_set1(sl:List Sl)(k:Nat)(hk:k<sl.length)(n:Nat):slCells (sl.set k { sl[k] with is:=n })=(slCells sl).set (k*3) (.int .i64 (n:Nat)):=by
 apply List.ext_getElem?
 intro i
 rw [slCells_get,List.getElem?_set,List.getElem?_set,slCells_get,slCells_len]
 by_cases h1:k=i/3
 · rw [if_pos h1]
   by_cases h2:k*3=i
   · rw [if_pos h2,if_pos hk,if_pos (by omega)]
     have:i%3=0:=by omega
     rw [this];rfl
   · rw [if_neg h2,if_pos hk]
     subst h1
     rw [List.getElem?_eq_getElem hk]
     have:i%3=1∨i%3=2:=by omega
     rcases this with h3|h3<;>rw [h3]<;>rfl
 · rw [if_neg h1,if_neg (by omega)]
theorem slCells_set3(sl:List Sl)(k:Nat)(hk:k<sl.length)(s:Sl):slCells (sl.set k s)=(((slCells sl).set (k*3) (.int .i64 (s.is:Nat))).set (k*3+1) (.int .u32 (s.gen:Nat))).set (k*3+2) (.int .i64 (s.addr:Nat)):=by
 apply List.ext_getElem?
 intro i
 rw [slCells_get,List.getElem?_set,List.getElem?_set,List.getElem?_set,List.getElem?_set,slCells_get,List.length_set,List.length_set,slCells_len]
 by_cases h1:k=i/3
 · rw [if_pos h1,if_pos hk]
   have:i%3=0∨i%3=1∨i%3=2:=by omega
   rcases this with h3|h3|h3
   · rw [if_neg (by omega),if_neg (by omega),if_pos (by omega),if_pos (by omega),h3];rfl
   · rw [if_neg (by omega),if_pos (by omega),if_pos (by omega),h3];rfl
   · rw [if_pos (by omega),if_pos (by omega),h3];rfl
 · rw [if_neg h1,if_neg (by omega),if_neg (by omega),if_neg (by omega)]
theorem slCells_snoc(sl:List Sl)(s:Sl):slCells (sl++ [s])=slCells sl++s.cells:=by simp [slCells]
theorem HTab.same{w w' :World}{t most last:Nat}{v:Value}{sl:List Sl}(h:HTab w t v most last sl)(hk: ∀b,HTabF t v b→w'.heap[b]? =w.heap[b]?):HTab w' t v most last sl where
 c0:=(World.cell?_of_block (a:=⟨t,0,none⟩) (hk t (.inl rfl))).trans h.c0
 c1:=(World.cell?_of_block (a:=⟨t,1,none⟩) (hk t (.inl rfl))).trans h.c1
 c2:=(World.cell?_of_block (a:=⟨t,2,none⟩) (hk t (.inl rfl))).trans h.c2
 f2:=(World.frozen?_of_block (a:=⟨t,2,none⟩) (hk t (.inl rfl))).trans h.f2
 row:=by
  refine⟨h.row.1, ?_⟩
  rcases h.row.2 with h1|⟨g,cap,cur,h1,h2,h3,h4⟩
  · exact .inl h1
  · exact .inr ⟨g,cap,cur,h1,h2,(hk g (.inr (by rw [h1];rfl))).trans h3,h4⟩
 off:=h.off
 m1:=h.m1
 m2:=h.m2
 l1:=h.l1
 l2:=h.l2
 len:=h.len
 ok:=h.ok
theorem HTab.lt{w:World}{t most last:Nat}{v:Value}{sl:List Sl}(h:HTab w t v most last sl){b:Nat}(hb:HTabF t v b):b<w.heap.size:=by
 rcases hb with rfl|hb
 · exact cell_lt (a:=⟨_,0,none⟩) h.c0
 · exact(h.row.lt b hb).2
theorem HTab.below{w w' :World}{t most last:Nat}{v:Value}{sl:List Sl}(h:HTab w t v most last sl)(hb:Below w.heap.size w w'):HTab w' t v most last sl:=
 h.same fun b hF=>hb.block b (h.lt hF)
theorem HTab.turn{w w' :World}{t most last:Nat}{v:Value}{sl:List Sl}{G G' :Nat→Prop}(h:HTab w t v most last sl)(ht:Turn w G w' G')(hG: ∀b,HTabF t v b→ ¬G b):HTab w' t v most last sl:=
 h.same fun b hF=>ht.keep b (h.lt hF) (hG b hF)
theorem HTab.setIs{w w' :World}{t most last g c:Nat}{sl:List Sl}(h:HTab w t (.slice (some ⟨g,0,none⟩) sl.length c) most last sl){k:Nat}(hk:k<sl.length)(n:Nat)(hn:n≤2)(hfree:n=0→sl[k].gen<last)
 (hb:w'.heap[t]? =w.heap[t]?) (hr:w'.ownsRow 0 193 3 (.slice (some ⟨g,0,none⟩) sl.length c) sl.length ((slCells sl).set (k*3) (.int .i64 (n:Nat)))):
 HTab w' t (.slice (some ⟨g,0,none⟩) sl.length c) most last (sl.set k { sl[k] with is:=n }):=by
 refine⟨?_, ?_, ?_, ?_, ?_,h.off,h.m1,h.m2,h.l1,h.l2,by rw [List.length_set];exact h.len, ?_⟩
 · exact(World.cell?_of_block (a:=⟨t,0,none⟩) hb).trans h.c0
 · exact(World.cell?_of_block (a:=⟨t,1,none⟩) hb).trans h.c1
 · exact(World.cell?_of_block (a:=⟨t,2,none⟩) hb).trans h.c2
 · exact(World.frozen?_of_block (a:=⟨t,2,none⟩) hb).trans h.f2
 · rw [List.length_set,slCells_set1 sl k hk n]
   exact hr
 · intro s hs
   rcases List.mem_or_eq_of_mem_set hs with h1|h1
   · exact h.ok s h1
   · subst h1
     have:=h.ok _ (List.getElem_mem hk)
     exact⟨hn,this.lo,this.hi,hfree,this.addr⟩
theorem ownsRow_drewN{w:World}{base:Nat}{e:TypeId}{size:Nat}{v:Value}{n:Nat}{xs:List Value}(h:w.ownsRow base e size v n xs)(d:Nat):(w.drewN d).ownsRow base e size v n xs:=h
theorem turn_setCell{w:World}{F:Nat→Prop}(p:Addr)(v:Value)(hF:F p.block):Turn w F (w.setCell p v) F:=
 ⟨rfl,rfl,rfl,by simp,fun k _ hk=>Below.heap_setCell _ _ _ k (fun e=>hk (e▸hF)),fun _ h=> .inl h⟩
set_option maxRecDepth 100000 in
theorem hat_hit{w:World}{t most last:Nat}{v:Value}{sl:List Sl}(hT:HTab w t v most last sl){h k:Nat}(hn:Names sl h k)(hk:k<sl.length):
 Calls Tryz.prog 103 #[.pointer (some ⟨t,0,none⟩), .int .u64 (h:Nat)] w fun e w' =>e= .returned (.tuple #[.int .i64 (sl[k].addr:Nat), .int .i64 0])∧w=w' :=by
 have hO:=Lib.hid (of_hit hT hn)
 obtain⟨g,c,rfl,hg,s0,s1,s2,_⟩:=hT.slot hk
 generalize sl[k].addr=addr at*
 clear hT hn
 go_enter Tryz.func103,Tryz.ntmps103
 go_wp2_with fail
 refine hO.out.mono ?_
 rintro e w' ⟨g',hg',rfl,rfl⟩
 simp only [Value.ownBlock,Option.some.injEq] at hg'
 subst hg'
 go_wp2
 go_ret2
 exact⟨rfl,rfl⟩
set_option maxRecDepth 100000 in
theorem hat_miss{w:World}{t most last:Nat}{v:Value}{sl:List Sl}(hT:HTab w t v most last sl){h:Nat}(hh:h<18446744073709551616)(hn:NoName sl h):
 Calls Tryz.prog 103 #[.pointer (some ⟨t,0,none⟩), .int .u64 (h:Nat)] w fun e w' =>e= .returned (.tuple #[.int .i64 0, .int .i64 7])∧w=w' :=by
 have hO:=Lib.hid (of_miss hT hh hn)
 clear hT hn hh
 go_enter Tryz.func103,Tryz.ntmps103
 go_wp2_with fail
 refine hO.out.mono ?_
 rintro e w' ⟨rfl,rfl⟩
 go_wp2
 go_ret2
 exact⟨rfl,rfl⟩
def closedIs(gen last:Nat):Nat:=if gen=last then 2 else 0
set_option maxRecDepth 100000 in
theorem hclose_hit{w:World}{t most last:Nat}{v:Value}{sl:List Sl}(hT:HTab w t v most last sl){h k:Nat}(hn:Names sl h k)(hk:k<sl.length):
 Calls Tryz.prog 92 #[.pointer (some ⟨t,0,none⟩), .int .u64 (h:Nat)] w fun e w' =>e= .returned (.int .i64 0)∧HTab w' t v most last (sl.set k { sl[k] with is:=closedIs sl[k].gen last })∧Turn w (HTabF t v) w' (HTabF t v):=by
 have hO:=Lib.hid (of_hit hT hn)
 obtain⟨g,c,rfl,hg,s0,s1,s2,f0,f1,f2,_⟩:=hT.slot hk
 have hc1:=hT.c1
 have hgt:g≠t:=fun e=>hT.off (by rw [e];rfl)
 have hHT:=Lib.hid hT
 have hgen:=(hT.ok _ (List.getElem_mem hk)).hi
 have hgF:HTabF t (.slice (some ⟨g,0,none⟩) sl.length c) g:= .inr rfl
 obtain⟨gen,hgg⟩: ∃gen,sl[k].gen=gen:=⟨_,rfl⟩
 rw [hgg] at s1 hgen ⊢
 have hggH:=Lib.hid hgg
 clear hT hn hgg s2
 by_cases hl:gen=last
 · have d1:((gen:Int)==(last:Int))=true:=by simp [hl]
   have hci:closedIs gen last=2:=if_pos hl
   rw [hci]
   have hlH:=Lib.hid hl
   clear hl hci
   go_enter Tryz.func92,Tryz.ntmps92
   go_wp2_with fail
   refine hO.out.mono ?_
   rintro e w' ⟨g',hg',rfl,rfl⟩
   simp only [Value.ownBlock,Option.some.injEq] at hg'
   subst hg'
   go_wp2_with fail
   go_quiet (fail)
   go_wp2
   go_ret
   refine⟨rfl, ?_,((turn_setCell _ _ hgF).trans (.below (drewN_below _ _))).trans (turn_setCell _ _ hgF)⟩
   have r1:=(hHT.out.row.stored (k*3) (.int .i64 0)).1
   have r2:=((ownsRow_drewN r1 nq).stored (k*3) (.int .i64 2)).1
   rw [List.set_set] at r2
   exact hHT.out.setIs hk 2 (by omega) (fun e=>by omega) ((Below.heap_setCell _ _ _ t (Ne.symm hgt)).trans (Below.heap_setCell w _ _ t (Ne.symm hgt))) r2
 · have d1:((gen:Int)==(last:Int))=false:=by simp;omega
   have hci:closedIs gen last=0:=if_neg hl
   rw [hci]
   have hlH:=Lib.hid hl
   clear hl hci
   go_enter Tryz.func92,Tryz.ntmps92
   go_wp2_with fail
   refine hO.out.mono ?_
   rintro e w' ⟨g',hg',rfl,rfl⟩
   simp only [Value.ownBlock,Option.some.injEq] at hg'
   subst hg'
   go_wp2_with fail
   go_quiet (fail)
   go_wp2
   go_ret
   refine⟨rfl, ?_,(turn_setCell _ _ hgF).trans (.below (drewN_below _ _))⟩
   have r1:=(hHT.out.row.stored (k*3) (.int .i64 0)).1
   exact hHT.out.setIs hk 0 (by omega) (fun e=>by rw [hggH.out];have:=hlH.out;omega) (Below.heap_setCell w _ _ t (Ne.symm hgt)) (ownsRow_drewN r1 nq)
set_option maxRecDepth 100000 in
theorem hnew_at(most last:Nat)(h1:1≤most)(h2:most≤65536)(h3:1≤last)(h4:last<4294967296)(w:World):
 Calls Tryz.prog 23 #[.int .i64 (most:Nat), .int .u32 (last:Nat)] w fun e w' => ∃t,e= .returned (.tuple #[.pointer (some ⟨t,0,none⟩), .int .i64 0])∧HTab w' t (.slice none 0 0) most last []∧w.heap.size≤t∧Below w.heap.size w w' :=by
 have d1:decide ((most:Int)<1)=false:=by simp;omega
 have d2:decide ((65536:Int)<(most:Int))=false:=by simp;omega
 have d3:decide ((last:Int)<1)=false:=by simp;omega
 go_enter Tryz.func23,Tryz.ntmps23
 go_wp2
 go_ret2
 refine⟨_,rfl,⟨?_, ?_, ?_, ?_,World.ownsRow_nil _ _ _ _,by simp [Value.ownBlock],h1,h2,h3,h4,by simp,by simp⟩,Nat.le_refl _,(Below.refl _ w).alloc (Nat.le_refl _) _⟩<;>go_simp
end Go.Proofs.YthcmecokejemcaaGreatDoor
