/-
  The seat's own texts, part h: Bits, Heap, Heap2, Heads, Heap3, Spot, Find.
-/
import Derived.Test.YthcmecokejemcaaGreatDoorWMb
import Derived.Test.YthcmecokejemcaaGreatDoorWMg
import Derived.Shelf.Spec.TrailingZeros
import Derived.Laws.Bits64b
import Derived.Ground.Names7Prog
import Derived.Shelf.Lay
import Derived.Shelf.SlGeneric
set_option linter.unusedSimpArgs false
set_option linter.unusedVariables false
set_option maxHeartbeats 4000000
namespace Go.Proofs.YthcmecokejemcaaGreatDoor
open Go.RowKit Go.Shelf
theorem pow_lt64{k:Nat}(hk:k<64):2^k<18446744073709551616:=Nat.lt_of_lt_of_le (Nat.pow_lt_pow_of_lt (by omega) hk) (by decide)
theorem wrap_nat{x:Nat}(h:x<18446744073709551616):IntKind.u64.wrap (x:Int)=(x:Int):=by rw [IntKind.wrap_u64];omega
theorem wrap_pow{k:Nat}(hk:k<64):IntKind.u64.wrap ((2:Int)^k)=((2^k:Nat):Int):=by
 have h:=pow_lt64 hk
 rw [show((2:Int)^k)=((2^k:Nat):Int) by push_cast;rfl,wrap_nat h]
theorem bits_has(m k:Nat)(hm:m<18446744073709551616):(bits BinOp.and IntKind.u64 ((m:Int)/2^k) 1==1)=m.testBit k:=by
 have h1:((m:Int)/2^k)=((m/2^k:Nat):Int):=by push_cast;rfl
 have h2:m/2^k<18446744073709551616:=Nat.lt_of_le_of_lt (Nat.div_le_self _ _) hm
 rw [h1,show(1:Int)=((1:Nat):Int) from rfl,bits_and_u64_nat _ _ h2 (by omega),Nat.and_one_is_mod,Nat.testBit_eq_decide_div_mod_eq]
 by_cases h:m/2^k%2=1
 · simp [h]
 · have:m/2^k%2=0:=by omega
   simp [this]
theorem bits_set(m k:Nat)(hm:m<18446744073709551616)(hk:k<64):bits BinOp.or IntKind.u64 (m:Int) (IntKind.u64.wrap ((2:Int)^k))=((m ||| 2^k:Nat):Int):=by
 rw [wrap_pow hk,bits_or_u64_nat _ _ hm (pow_lt64 hk)]
theorem bits_clear(m k:Nat)(hm:m<18446744073709551616)(hk:k<64)(ht:m.testBit k=true):bits BinOp.andNot IntKind.u64 (m:Int) (IntKind.u64.wrap ((2:Int)^k))=((m ^^^ 2^k:Nat):Int):=by
 have hp:=pow_lt64 hk
 rw [wrap_pow hk]
 have h1:(BitVec.ofInt 64 (m:Int)).toNat=m:=by
  rw [BitVec.ofInt_natCast,BitVec.toNat_ofNat];exact Nat.mod_eq_of_lt (by omega)
 have h2:(BitVec.ofInt 64 ((2^k:Nat):Int)).toNat=2^k:=by
  rw [BitVec.ofInt_natCast,BitVec.toNat_ofNat];exact Nat.mod_eq_of_lt (by omega)
 have h3:(BitVec.ofInt 64 (m:Int) &&& ~~~ BitVec.ofInt 64 ((2^k:Nat):Int)).toNat=m ^^^ 2^k:=by
  rw [BitVec.toNat_and,BitVec.toNat_not,h1,h2]
  apply Nat.eq_of_testBit_eq
  intro j
  rw [Nat.testBit_and,show 2^64-1-2^k=2^64-(2^k+1) by omega,Nat.testBit_two_pow_sub_succ (by omega),Nat.testBit_two_pow,testBit_clear ht]
  by_cases hj:j<64
  · simp [hj]
  · have:m.testBit j=false:=Nat.testBit_lt_two_pow (Nat.lt_of_lt_of_le hm (by have:=Nat.pow_le_pow_right (n:=2) (by omega) (show 64≤j by omega);exact this))
    simp [this]
 have h4:m ^^^ 2^k<18446744073709551616:=Nat.xor_lt_two_pow (n:=64) hm hp
 show IntKind.u64.wrap ((BitVec.ofInt 64 (m:Int) &&& ~~~ BitVec.ofInt 64 ((2^k:Nat):Int)).toNat:Int)=_
 rw [h3,wrap_nat h4]
theorem wrap_full(n:Nat)(hn:n<64):IntKind.u64.wrap (IntKind.u64.wrap ((2:Int)^n)-1)=((2^n-1:Nat):Int):=by
 have h:=pow_lt64 hn
 have h1:=Nat.one_le_two_pow (n:=n)
 rw [wrap_pow hn,show((2^n:Nat):Int)-1=((2^n-1:Nat):Int) by omega,wrap_nat (by omega)]
set_option maxRecDepth 100000 in
theorem has_at(m k:Nat)(hm:m<18446744073709551616)(hk:k<64)(w:World):
 Calls Tryz.prog 79 #[.int .u64 (m:Nat), .int .i64 (k:Nat)] w fun e w' =>e= .returned (.bool (m.testBit k))∧w=w' :=by
 have hH:=Lib.hid (bits_has m k hm)
 go_enter Tryz.func79,Tryz.ntmps79
 go_wp2
 go_ret
 rw [←hH.out]
 exact⟨rfl,rfl⟩
set_option maxRecDepth 100000 in
theorem set_at(m k:Nat)(hm:m<18446744073709551616)(hk:k<64)(w:World):
 Calls Tryz.prog 149 #[.int .u64 (m:Nat), .int .i64 (k:Nat)] w fun e w' =>e= .returned (.tuple #[.int .u64 ((m ||| 2^k:Nat):Int), .int .i64 0])∧w=w' :=by
 have hH:=Lib.hid (bits_set m k hm hk)
 go_enter Tryz.func149,Tryz.ntmps149
 go_wp2
 go_ret2
 rw [←hH.out]
 exact⟨rfl,rfl⟩
set_option maxRecDepth 100000 in
theorem clear_at(m k:Nat)(hm:m<18446744073709551616)(hk:k<64)(ht:m.testBit k=true)(w:World):
 Calls Tryz.prog 135 #[.int .u64 (m:Nat), .int .i64 (k:Nat)] w fun e w' =>e= .returned (.tuple #[.int .u64 ((m ^^^ 2^k:Nat):Int), .int .i64 0])∧w=w' :=by
 have hH:=Lib.hid (bits_clear m k hm hk ht)
 clear ht
 go_enter Tryz.func135,Tryz.ntmps135
 go_wp2
 go_ret2
 rw [←hH.out]
 exact⟨rfl,rfl⟩
set_option maxRecDepth 100000 in
theorem full_at(n:Nat)(hn:n<64)(w:World):
 Calls Tryz.prog 82 #[.int .i64 (n:Nat)] w fun e w' =>e= .returned (.int .u64 ((2^n-1:Nat):Int))∧w=w' :=by
 have hH:=Lib.hid (wrap_full n hn)
 go_enter Tryz.func82,Tryz.ntmps82
 go_wp2
 go_ret
 rw [←hH.out]
 exact⟨rfl,rfl⟩
set_option maxRecDepth 100000 in
theorem cut1_at(m f B:Nat)(hm:m<18446744073709551616)(hf:f<18446744073709551616)(w:World)(hc:w.cell? ⟨B,0,none⟩=some (.int .u64 (f:Nat))):
 Calls Tryz.prog 172 #[.int .u64 (m:Nat), .pointer (some ⟨B,0,none⟩)] w fun e w' =>e= .returned (.int .u64 ((m &&& f:Nat):Int))∧w=w' :=by
 have hH:=Lib.hid (bits_and_u64_nat m f hm hf)
 go_enter Tryz.func172,Tryz.ntmps172
 go_wp2
 go_ret
 rw [←hH.out]
 exact⟨rfl,rfl⟩
set_option maxRecDepth 100000 in
theorem cut_at(n:Nat)(hn:n<64)(w:World):
 Calls Tryz.prog 160 #[.int .i64 (n:Nat)] w fun e w' =>e= .returned (.func (.func 172) #[] #[.pointer (some ⟨w.heap.size,0,none⟩)])∧w' =w.alloc (.cells #[.int .u64 ((2^n-1:Nat):Int)] 22):=by
 have hp:=Nat.lt_of_le_of_lt (Nat.sub_le _ 1) (pow_lt64 hn)
 generalize hx:2^n-1=x at*
 have hF:=Lib.hid (full_at n hn)
 rw [hx] at hF
 clear hx
 go_enter Tryz.func160,Tryz.ntmps160
 go_wp2_with (go_at_call 82;refine(hF.out _).mono ?_;rintro e w' ⟨rfl,rfl⟩)
 go_ret
 exact⟨rfl,rfl⟩
def Tryz.tz64_ren:Go.Shelf.Ren:=⟨fun|29=>161|n=>n,fun|22=>22|3=>3|4=>4|25=>184|54=>238|0=>0|5=>5|n=>n,fun|1=>1|n=>n⟩
theorem Tryz.tz64:Go.Proofs.Lays7.n29 Tryz.prog Tryz.tz64_ren:={
 mixed:=by kernel_rfl
 f29:=Tryz.func161.trans (congrArg some (by kernel_rfl))
 t0:=Tryz.underlying0
 a0:=Tryz.isAgg0
 z0:=Tryz.sizeOf0
 v0:=Tryz.zeroValue0
 i0:=by kernel_rfl
 t3:=Tryz.underlying3
 a3:=Tryz.isAgg3
 z3:=Tryz.sizeOf3
 v3:=Tryz.zeroValue3
 i3:=by kernel_rfl
 t4:=Tryz.underlying4
 a4:=Tryz.isAgg4
 z4:=Tryz.sizeOf4
 v4:=Tryz.zeroValue4
 i4:=by kernel_rfl
 t5:=Tryz.underlying5
 a5:=Tryz.isAgg5
 z5:=Tryz.sizeOf5
 v5:=Tryz.zeroValue5
 i5:=by kernel_rfl
 t22:=Tryz.underlying22
 a22:=Tryz.isAgg22
 z22:=Tryz.sizeOf22
 v22:=Tryz.zeroValue22
 i22:=by kernel_rfl
 t25:=Tryz.underlying184
 a25:=Tryz.isAgg184
 z25:=Tryz.sizeOf184
 v25:=Tryz.zeroValue184
 i25:=by kernel_rfl
 t54:=Tryz.underlying238
 a54:=Tryz.isAgg238
 z54:=Tryz.sizeOf238
 g1:=by kernel_rfl }
def Tab(w:World):Prop:=TabAt 1 Lib.deBruijn64tab w
theorem Tab.below{w w' :World}{B:Nat}(h:Tab w)(hB:Below B w w')(hlt:1<B):Tab w' :=fun j hj=>(hB.cell (p:=⟨1,j,none⟩) hlt).trans (h j hj)
theorem tz_at(x:Nat)(hx:x<18446744073709551616)(w:World)(hT:Tab w):
 Calls Tryz.prog 161 #[.int .u64 (x:Nat)] w fun e w' =>e= .returned (.int .i64 (Lib.ctz 64 x:Nat))∧w' =w:=Any7.bits_TrailingZeros64 Tryz.tz64 x hx w (fun _=>hT)
theorem not_bits(m:Nat)(hm:m<18446744073709551616)(j:Nat):(18446744073709551615-m).testBit j=(decide (j<64)&& !m.testBit j):=by
 rw [show 18446744073709551615-m=2^64-(m+1) by omega,Nat.testBit_two_pow_sub_succ (by omega)]
def FreeR(m n:Nat)(r:Int):Prop:=(r= -1∧ ∀k,k<n→m.testBit k=true)∨ ∃k,k<n∧r=(k:Nat)∧m.testBit k=false
theorem xor_max(m:Nat)(hm:m<18446744073709551616):bits BinOp.xor IntKind.u64 IntKind.u64.max (m:Int)=((18446744073709551615-m:Nat):Int):=by
 rw [show IntKind.u64.max=((18446744073709551615:Nat):Int) from rfl,bits_xor_u64_nat _ _ (by omega) hm]
 congr 1
 apply Nat.eq_of_testBit_eq
 intro j
 rw [not_bits m hm,Nat.testBit_xor,show 18446744073709551615=2^64-1 by rfl,Nat.testBit_two_pow_sub_one]
 by_cases hj:j<64
 · simp [hj]
 · have:m.testBit j=false:=Nat.testBit_lt_two_pow (Nat.lt_of_lt_of_le hm (by have:=Nat.pow_le_pow_right (n:=2) (by omega) (show 64≤j by omega);exact this))
   simp [hj,this]
theorem free_left(m n:Nat)(hm:m<18446744073709551616)(hn:n<64)(j:Nat):((18446744073709551615-m) &&& (2^n-1)).testBit j=(decide (j<n)&& !m.testBit j):=by
 rw [Nat.testBit_and,not_bits m hm,Nat.testBit_two_pow_sub_one]
 by_cases hj:j<n
 · simp [hj,show j<64 by omega]
 · simp [hj]
theorem freeR_of(m n:Nat)(hm:m<18446744073709551616)(hn:n<64)(x:Nat)(hx:x=(18446744073709551615-m) &&& (2^n-1)):
 (x=0→FreeR m n (-1))∧(x≠0→FreeR m n (Lib.ctz 64 x:Nat)):=by
 have hb:=free_left m n hm hn
 rw [←hx] at hb
 constructor
 · intro h0
   refine .inl ⟨rfl,fun k hk=> ?_⟩
   have:=hb k
   rw [h0,Nat.zero_testBit,decide_eq_true hk] at this
   simpa using this.symm
 · intro h0
   have hx64:x<2^64:=by rw [hx];exact Nat.and_lt_two_pow _ (Nat.lt_of_le_of_lt (Nat.sub_le _ _) (pow_lt64 hn))
   obtain⟨hl,hc⟩:=Lib.lowest_bit 64 x h0 hx64
   have ht:x.testBit (Lib.ctz 64 x)=true:=by
    have:=congrArg (fun y=>y.testBit (Lib.ctz 64 x)) hl
    simp only [Nat.testBit_and,Nat.testBit_two_pow_self] at this
    cases hh:x.testBit (Lib.ctz 64 x) with
    |true=>rfl
    |false=>rw [hh] at this;simp at this
   rw [hb] at ht
   simp only [Bool.and_eq_true,decide_eq_true_eq,Bool.not_eq_true'] at ht
   exact .inr ⟨_,ht.1,rfl,ht.2⟩
set_option maxRecDepth 100000 in
theorem free_at(m n:Nat)(hm:m<18446744073709551616)(hn:n<64)(w:World)(hT:Tab w)(hg:1<w.heap.size):
 Calls Tryz.prog 148 #[.int .u64 (m:Nat), .int .i64 (n:Nat)] w fun e w' => ∃r,e= .returned (.int .i64 r)∧FreeR m n r∧w' =w.alloc (.cells #[.int .u64 ((2^n-1:Nat):Int)] 22):=by
 have hp:=Nat.lt_of_le_of_lt (Nat.sub_le _ 1) (pow_lt64 hn)
 have hF:=freeR_of m n hm hn _ rfl
 have hx64:(18446744073709551615-m) &&& (2^n-1)<18446744073709551616:=Nat.and_lt_two_pow (n:=64) _ hp
 have hC:=Lib.hid (cut_at n hn)
 generalize hf:2^n-1=f at*
 have hC1:=Lib.hid (fun w' h=>cut1_at (18446744073709551615-m) f w.heap.size (by omega) hp w' h)
 generalize hxe:(18446744073709551615-m) &&& f=x at*
 have hT2:Tab (w.alloc (.cells #[.int .u64 (f:Nat)] 22)):=hT.below ((Below.refl _ w).alloc (Nat.le_refl _) _) hg
 have hZ:=Lib.hid (tz_at x hx64 _ hT2)
 have hFH:=Lib.hid hF
 clear hF hxe hf hT hT2
 have hnot:=Lib.hid (xor_max m hm)
 have hmax:(if IntKind.u64.signed=true then-1 else IntKind.u64.max)=IntKind.u64.max:=rfl
 have hcell:(w.alloc (.cells #[.int .u64 (f:Nat)] 22)).cell? ⟨w.heap.size,0,none⟩=some (.int .u64 (f:Nat)):=by go_simp
 by_cases h0:x=0
 · have hb:((x:Int)==0)=true:=by simp [h0]
   have h0H:=Lib.hid h0
   clear h0
   go_enter Tryz.func148,Tryz.ntmps148
   go_wp2_with (first|(go_at_call 160;refine(hC.out _).mono ?_;rintro e w' ⟨rfl,rfl⟩)|(go_at_call 172;(first|rw [hnot.out]|rw [hmax,hnot.out]);refine(hC1.out _ hcell).mono ?_;rintro e w' ⟨rfl,rfl⟩))
   go_ret
   exact⟨_,rfl,hFH.out.1 h0H.out,rfl⟩
 · have hb:((x:Int)==0)=false:=by simp;omega
   have h0H:=Lib.hid h0
   clear h0
   go_enter Tryz.func148,Tryz.ntmps148
   go_wp2_with (first|(go_at_call 160;refine(hC.out _).mono ?_;rintro e w' ⟨rfl,rfl⟩)|(go_at_call 172;(first|rw [hnot.out]|rw [hmax,hnot.out]);refine(hC1.out _ hcell).mono ?_;rintro e w' ⟨rfl,rfl⟩)|(go_at_call 161;refine hZ.out.mono ?_;rintro e w' ⟨rfl,rfl⟩))
   go_ret
   exact⟨_,rfl,hFH.out.2 h0H.out,rfl⟩
structure Turn(w:World)(F:Nat→Prop)(w' :World)(F' :Nat→Prop):Prop where
 os:w'.os=w.os
 tape:w'.tape=w.tape
 output:w'.output=w.output
 size:w.heap.size≤w'.heap.size
 keep: ∀k,k<w.heap.size→ ¬F k→w'.heap[k]? =w.heap[k]?
 grow: ∀k,F' k→F k∨w.heap.size≤k
theorem Turn.refl(w:World)(F:Nat→Prop):Turn w F w F:=⟨rfl,rfl,rfl,Nat.le_refl _,fun _ _ _=>rfl,fun _ h=> .inl h⟩
theorem Turn.trans{w w1 w2:World}{F F1 F2:Nat→Prop}(h:Turn w F w1 F1)(k:Turn w1 F1 w2 F2):Turn w F w2 F2 where
 os:=k.os.trans h.os
 tape:=k.tape.trans h.tape
 output:=k.output.trans h.output
 size:=Nat.le_trans h.size k.size
 keep:=fun i hi hF=>by
  refine(k.keep i (Nat.lt_of_lt_of_le hi h.size) (fun hF1=> ?_)).trans (h.keep i hi hF)
  rcases h.grow i hF1 with h1|h1
  · exact hF h1
  · omega
 grow:=fun i hi=>by
  rcases k.grow i hi with h1|h1
  · exact h.grow i h1
  · exact .inr (Nat.le_trans h.size h1)
theorem Turn.below{w w' :World}{F:Nat→Prop}(h:Below w.heap.size w w'):Turn w F w' F:=⟨h.os,h.tape,h.output,h.size,fun k hk _=>h.block k hk,fun _ h=> .inl h⟩
theorem Turn.to_below{w w' :World}{F F' :Nat→Prop}{B:Nat}(h:Turn w F w' F')(hB:B≤w.heap.size)(hF: ∀k,F k→B≤k):Below B w w' :=
 ⟨h.os,h.tape,h.output,h.size,fun k hk=>h.keep k (by omega) (fun hf=>by have:=hF k hf;omega)⟩
theorem Turn.cell{w w' :World}{F F' :Nat→Prop}(h:Turn w F w' F'){p:Addr}{v:Value}(hc:w.cell? p=some v)(hF: ¬F p.block):w'.cell? p=some v:=
 (World.cell?_of_block (h.keep p.block (cell_lt hc) hF)).trans hc
theorem Turn.not{w w' :World}{F F' :Nat→Prop}(h:Turn w F w' F'){b:Nat}(hb:b<w.heap.size)(hF: ¬F b): ¬F' b:=fun hh=>by
 rcases h.grow b hh with h1|h1
 · exact hF h1
 · omega
theorem wrote_turn{w w' :World}{a mb x v:Nat}{D:DW}(h:Wrote w D x v w'):Turn w (SlabF a mb D) w' (SlabF a mb D):=by
 obtain⟨g,hg,rfl⟩:=h
 exact⟨rfl,rfl,rfl,by simp,fun k hk hF=>Below.heap_setCell _ _ _ k (fun e=>hF (.inr (.inr ⟨x/64,by subst e;exact hg⟩))),fun _ h=> .inl h⟩
theorem gr_turn{w w' :World}{a mb:Nat}{D D' :DW}(h:Gr w D w' D' mb):Turn w (SlabF a mb D) w' (SlabF a mb D'):=
 ⟨h.1.os,h.1.tape,h.1.output,h.1.size,fun k hk hF=>h.1.block k hk (fun e=>hF (.inr (.inl (by cases e;rfl)))),fun k hk=>by
  rcases hk with rfl|rfl|⟨p,hp⟩
  · exact .inl (.inl rfl)
  · exact .inl (.inr (.inl rfl))
  · rcases h.2 p k hp with h1|h1
    · exact .inl (.inr (.inr ⟨p,h1⟩))
    · exact .inr h1⟩
theorem sh_turn{w w' :World}{a mb:Nat}{D D' :DW}(h:Sh w D w' D' mb):Turn w (SlabF a mb D) w' (SlabF a mb D'):=by
 have hg:=h.1.grown
 exact⟨hg.os,hg.tape,hg.output,hg.size,fun k hk hF=>hg.block k hk (fun e=>hF (.inr (.inl (by cases e;rfl)))),fun k hk=>by
  rcases hk with rfl|rfl|⟨p,hp⟩
  · exact .inl (.inl rfl)
  · exact .inl (.inr (.inl rfl))
  · exact .inl (.inr (.inr ⟨p,h.2 p k hp⟩))⟩
structure HeapAt(w:World)(ha a mb:Nat)(D:DW)(ps:List Nat)(q:Nat)(mem:Nat→Nat):Prop where
 hs:w.cell? ⟨ha,0,none⟩=some (.pointer (some ⟨a,0,none⟩))
 sl:SlabAt w a mb D ps q mem
 off: ¬SlabF a mb D ha
 tab:Tab w
 tabF: ∀b,SlabF a mb D b→1<b
theorem HeapAt.below{w w' :World}{ha a mb q:Nat}{D:DW}{ps:List Nat}{mem:Nat→Nat}(h:HeapAt w ha a mb D ps q mem)(hB:Below w.heap.size w w'):HeapAt w' ha a mb D ps q mem where
 hs:=(hB.cell (p:=⟨ha,0,none⟩) (cell_lt h.hs)).trans h.hs
 sl:=h.sl.below hB (fun b hb=>h.sl.lt hb)
 off:=h.off
 tab:=h.tab.below hB (Nat.lt_trans (h.tabF a (.inl rfl)) (h.sl.lt (.inl rfl)))
 tabF:=h.tabF
theorem HeapAt.turn{w w' :World}{ha a mb q:Nat}{D D' :DW}{ps ps' :List Nat}{mem mem' :Nat→Nat}(h:HeapAt w ha a mb D ps q mem)(hs:SlabAt w' a mb D' ps' q mem')(ht:Turn w (SlabF a mb D) w' (SlabF a mb D')):HeapAt w' ha a mb D' ps' q mem' where
 hs:=(World.cell?_of_block (a:=⟨ha,0,none⟩) (ht.keep ha (cell_lt h.hs) h.off)).trans h.hs
 sl:=hs
 off:=fun hh=>by
  rcases ht.grow ha hh with h1|h1
  · exact h.off h1
  · have:=cell_lt h.hs;simp only at this;omega
 tab:=fun j hj=>by
  have hlt:=Nat.lt_trans (h.tabF a (.inl rfl)) (h.sl.lt (.inl rfl))
  exact(World.cell?_of_block (a:=⟨1,j,none⟩) (ht.keep _ hlt (fun hf=>Nat.lt_irrefl _ (h.tabF _ hf)))).trans (h.tab j hj)
 tabF:=fun b hb=>by
  rcases ht.grow b hb with h1|h1
  · exact h.tabF b h1
  · exact Nat.lt_of_lt_of_le (Nat.lt_trans (h.tabF a (.inl rfl)) (h.sl.lt (.inl rfl))) h1
def hdV:Hd→Value
 | .small c m=> .agg #[.int .i64 1, .int .i64 (c:Nat), .int .u64 (m:Nat)]
 | .large w=> .agg #[.int .i64 2, .int .i64 ((w+65)/64:Nat), .int .u64 (w:Nat)]
theorem and255(k n:Nat)(hk:k<256)(hn:k+256*n<18446744073709551616):bits BinOp.and IntKind.u64 ((k+256*n:Nat):Int) 255=(k:Nat):=by
 rw [show(255:Int)=((255:Nat):Int) from rfl,bits_and_u64_nat _ _ hn (by omega),show 255=2^8-1 from rfl,Nat.and_two_pow_sub_one_eq_mod]
 omega
theorem SlabAt.alloc{w:World}{a mb q:Nat}{D:DW}{ps:List Nat}{mem:Nat→Nat}(h:SlabAt w a mb D ps q mem)(o:Obj):SlabAt (w.alloc o) a mb D ps q mem:=
 h.below ((Below.refl _ w).alloc (Nat.le_refl _) o) (fun b hb=>h.lt hb)
set_option maxRecDepth 100000 in
theorem get_raw{w:World}{ha a mb q:Nat}{D:DW}{ps:List Nat}{mem:Nat→Nat}(h:HeapAt w ha a mb D ps q mem)(p k n m:Nat)(hp:p∈ps)(hk:k<256)(hn:n<1000000)(h1:mem (64*p)=k+256*n)(h2:mem (64*p+1)=m):
 Calls Tryz.prog 107 #[.pointer (some ⟨ha,0,none⟩), .int .i64 (p:Nat)] w fun e w' =>e= .returned (.agg #[.int .i64 (k:Nat), .int .i64 (n:Nat), .int .u64 (m:Nat)])∧Below w.heap.size w w' :=by
 have hp2:=h.sl.low p hp
 have hR1:=fun o=>read_at (h.sl.alloc o) (64*p) (by rw [show 64*p/64=p by omega];exact hp)
 have hR2:=fun o=>read_at (h.sl.alloc o) (64*p+1) (by rw [show(64*p+1)/64=p by omega];exact hp)
 rw [h1] at hR1
 rw [h2] at hR2
 have hA:=Lib.hid (and255 k n hk (by omega))
 have hR1H:=Lib.hid hR1
 have hR2H:=Lib.hid hR2
 have hs:=h.hs
 have hlt:ha<w.heap.size:=cell_lt hs
 clear hR1 hR2 h h1 h2
 generalize hx:k+256*n=x at*
 have hxd:(x:Int)/256=(n:Nat):=by omega
 have hxl:x<18446744073709551616:=by omega
 go_enter Tryz.func107,Tryz.ntmps107
 go_wp2_with (go_at_call 52;first|(rw [show((p:Int)*64+1)=((64*p+1:Nat):Int) by push_cast;omega];refine(hR2H.out _).mono ?_;rintro e w' ⟨rfl,rfl⟩)|(rw [show((p:Int)*64)=((64*p:Nat):Int) by push_cast;omega];refine(hR1H.out _).mono ?_;rintro e w' ⟨rfl,rfl⟩))
 rw [hA.out,show wrap64 ((k:Nat):Int)=(k:Nat) by unfold wrap64;omega]
 refine bodyPost_ret_by (v:= .agg #[.int .i64 (k:Nat), .int .i64 (n:Nat), .int .u64 (m:Nat)]) ?_ rfl ⟨rfl,(Below.refl _ w).alloc (Nat.le_refl _) _⟩
 simp [results,Tryz.f107,go_sem]
theorem or_low(k n:Nat)(hk:k<256):k ||| 256*n=k+256*n:=by
 have:=Nat.shiftLeft_add_eq_or_of_lt (i:=8) (b:=k) (by omega) n
 rw [Nat.shiftLeft_eq] at this
 rw [Nat.or_comm,show 256*n=n*2^8 by omega,←this]
 omega
theorem or256(k n:Nat)(hk:k<256)(hn:n<1000000):bits BinOp.or IntKind.u64 ((k:Nat):Int) ((256*n:Nat):Int)=((k+256*n:Nat):Int):=by
 rw [bits_or_u64_nat _ _ (by omega) (by omega),or_low k n hk]
set_option maxRecDepth 100000 in
theorem put_at{w:World}{ha a mb q:Nat}{D:DW}{ps:List Nat}{mem:Nat→Nat}(h:HeapAt w ha a mb D ps q mem)(p k n m:Nat)(hp:p∈ps)(hk:k<256)(hn:n<1000000)(hm:m<18446744073709551616):
 Calls Tryz.prog 126 #[.pointer (some ⟨ha,0,none⟩), .int .i64 (p:Nat), .agg #[.int .i64 (k:Nat), .int .i64 (n:Nat), .int .u64 (m:Nat)]] w fun e w' =>e= .returned (.tuple #[])∧HeapAt w' ha a mb D ps q (upd (upd mem (64*p) (k+256*n)) (64*p+1) m)∧Turn w (SlabF a mb D) w' (SlabF a mb D):=by
 have hp2:=h.sl.low p hp
 have hs:=h.hs
 have hlt:ha<w.heap.size:=cell_lt hs
 have hO:=Lib.hid (or256 k n hk hn)
 have HP:=Lib.hid h
 clear h
 go_enter Tryz.func126,Tryz.ntmps126
 go_wp2_with fail
 have HP0:=Lib.hid (HP.out.below ((Below.refl _ w).alloc (Nat.le_refl _) (Obj.cells #[Value.int IntKind.i64 (k:Nat),Value.int IntKind.i64 (n:Nat),Value.int IntKind.u64 (m:Nat)] 154)))
 have hc0:(w.alloc (Obj.cells #[Value.int IntKind.i64 (k:Nat),Value.int IntKind.i64 (n:Nat),Value.int IntKind.u64 (m:Nat)] 154)).cell? ⟨w.heap.size,0,none⟩=some (.int .i64 (k:Nat)):=by go_simp
 have hc1:(w.alloc (Obj.cells #[Value.int IntKind.i64 (k:Nat),Value.int IntKind.i64 (n:Nat),Value.int IntKind.u64 (m:Nat)] 154)).cell? ⟨w.heap.size,1,none⟩=some (.int .i64 (n:Nat)):=by go_simp
 have hc2:(w.alloc (Obj.cells #[Value.int IntKind.i64 (k:Nat),Value.int IntKind.i64 (n:Nat),Value.int IntKind.u64 (m:Nat)] 154)).cell? ⟨w.heap.size,2,none⟩=some (.int .u64 (m:Nat)):=by go_simp
 have hT0:Turn w (SlabF a mb D) (w.alloc (Obj.cells #[Value.int IntKind.i64 (k:Nat),Value.int IntKind.i64 (n:Nat),Value.int IntKind.u64 (m:Nat)] 154)) (SlabF a mb D):= .below ((Below.refl _ w).alloc (Nat.le_refl _) _)
 have hz0:w.heap.size<(w.alloc (Obj.cells #[Value.int IntKind.i64 (k:Nat),Value.int IntKind.i64 (n:Nat),Value.int IntKind.u64 (m:Nat)] 154)).heap.size:=by simp
 have hFn: ¬SlabF a mb D w.heap.size:=fun hf=>Nat.lt_irrefl _ (HP.out.sl.lt hf)
 generalize (w.alloc (Obj.cells #[Value.int IntKind.i64 (k:Nat),Value.int IntKind.i64 (n:Nat),Value.int IntKind.u64 (m:Nat)] 154))=W at*
 have hs0:=HP0.out.hs
 refine wp_region_quiet_tail 14 (by kernel_rfl) (by kernel_rfl) ?_
 simp only [List.take_succ_cons,List.take_zero,List.drop_succ_cons,List.drop_zero]
 repeat (go_big_quiet_step (fail))
 refine wpQuiet_nil ?_
 rintro _ ⟨nq,rfl⟩
 go_wp2_with fail
 have HP1:=Lib.hid (HP0.out.below (drewN_below W nq))
 rw [show((p:Int)*64)=((64*p:Nat):Int) by push_cast;omega,show((n:Int)*256)=((256*n:Nat):Int) by push_cast;omega,hO.out]
 refine(write_at HP1.out.sl (64*p) (k+256*n) (by rw [show 64*p/64=p by omega];exact hp) (by omega)).mono ?_
 rintro e w1 ⟨rfl,hW1,hS1⟩
 have hT1:=(hT0.trans (.below (drewN_below W nq))).trans (wrote_turn (a:=a) (mb:=mb) hW1)
 have HP2:=Lib.hid (HP1.out.turn hS1 (wrote_turn hW1))
 have hc2' :=(wrote_turn (a:=a) (mb:=mb) hW1).cell (p:=⟨w.heap.size,2,none⟩) (v:= .int .u64 (m:Nat)) hc2 hFn
 have hs1:=HP2.out.hs
 have HT1:=Lib.hid hT1
 clear hT1 hT0 hW1 hS1 hc0 hc1 hc2 hs0
 go_wp2_with fail
 refine wp_region_quiet_tail 9 (by kernel_rfl) (by kernel_rfl) ?_
 simp only [List.take_succ_cons,List.take_zero,List.drop_succ_cons,List.drop_zero]
 repeat (go_big_quiet_step (fail))
 refine wpQuiet_nil ?_
 rintro _ ⟨nq2,rfl⟩
 go_wp2_with fail
 have HP3:=Lib.hid (HP2.out.below (drewN_below w1 nq2))
 rw [show((p:Int)*64+1)=((64*p+1:Nat):Int) by push_cast;omega]
 refine(write_at HP3.out.sl (64*p+1) m (by rw [show(64*p+1)/64=p by omega];exact hp) hm).mono ?_
 rintro e w2 ⟨rfl,hW2,hS2⟩
 have HP4:=Lib.hid (HP3.out.turn hS2 (wrote_turn hW2))
 have HT2:=Lib.hid ((HT1.out.trans (.below (drewN_below w1 nq2))).trans (wrote_turn (a:=a) (mb:=mb) hW2))
 clear hW2 hS2
 go_wp2_with fail
 go_end0
 exact⟨rfl,HP4.out,HT2.out⟩
set_option maxRecDepth 100000 in
theorem heapNone_at{w:World}{ha a mb q:Nat}{D:DW}{ps:List Nat}{mem:Nat→Nat}(h:HeapAt w ha a mb D ps q mem):Calls Tryz.prog 76 #[.pointer (some ⟨ha,0,none⟩)] w fun e w' =>e= .returned (.bool false)∧w=w' :=by
 have hs:=h.hs
 clear h
 go_enter Tryz.func76,Tryz.ntmps76
 go_wp2
 go_ret
 exact⟨rfl,rfl⟩
set_option maxRecDepth 100000 in
theorem hplace_at(p c k:Nat)(hp:p<524288)(hc:c<8)(hk:k<slotsN c)(w:World):
 Calls Tryz.prog 80 #[.int .i64 (p:Nat), .int .i64 (c:Nat), .int .i64 (k:Nat)] w fun e w' =>e= .returned (.int .i64 (64*p+2+k*sz c:Nat))∧Below w.heap.size w w' :=by
 have hroom:=slot_room c k hc hk
 have hP:=place_any (c:Nat) (k:Nat) w (by omega) (by have:=slots_small c;omega)
 rw [show placeR ((c:Nat):Int) ((k:Nat):Int)= .tuple #[.int .i64 (2+k*sz c:Nat), .int .i64 0] by
  unfold placeR
  rw [if_pos ⟨by omega,by omega,by simpa using hk⟩]
  simp] at hP
 have hPH:=Lib.hid hP
 clear hP
 generalize hx:2+k*sz c=x at*
 have hxe:64*p+2+k*sz c=64*p+x:=by omega
 rw [hxe]
 have hx2:x≤64:=by omega
 clear hxe hx hroom
 go_enter Tryz.func80,Tryz.ntmps80
 go_wp2_with (go_at_call 109;refine hPH.out.mono ?_;rintro e w' ⟨rfl,hb⟩)
 go_ret
 exact⟨by rw [show((64*p+x:Nat):Int)=(p:Int)*64+(x:Nat) by push_cast;omega];rfl,hb⟩
def zeroW(mem:Nat→Nat)(x n:Nat):Nat→Nat:=fun i=>if x≤i∧i<x+n then 0 else mem i
theorem zeroW_zero(mem:Nat→Nat)(x:Nat):zeroW mem x 0=mem:=by funext i;unfold zeroW;rw [if_neg (by omega)]
theorem zeroW_succ(mem:Nat→Nat)(x n:Nat):upd (zeroW mem x n) (x+n) 0=zeroW mem x (n+1):=by
 funext i
 unfold upd zeroW
 by_cases h1:i=x+n
 · rw [if_pos h1,if_pos (by omega)]
 · rw [if_neg h1]
   by_cases h2:x≤i∧i<x+n
   · rw [if_pos h2,if_pos (by omega)]
   · rw [if_neg h2,if_neg (by omega)]
set_option maxRecDepth 100000 in
theorem hclear_at{w:World}{ha a mb q:Nat}{D:DW}{ps:List Nat}{mem:Nat→Nat}(h:HeapAt w ha a mb D ps q mem)(x n:Nat)(hn:n≤4096)(hp: ∀k,k<n→(x+k)/64∈ps):
 Calls Tryz.prog 150 #[.pointer (some ⟨ha,0,none⟩), .int .i64 (x:Nat), .int .i64 (n:Nat)] w fun e w' =>e= .returned (.tuple #[])∧HeapAt w' ha a mb D ps q (zeroW mem x n)∧Turn w (SlabF a mb D) w' (SlabF a mb D):=by
 have HP:=Lib.hid h
 clear h
 go_enter Tryz.func150,Tryz.ntmps150
 go_wp2
 go_loopw [8] (fun kv wr=> ∃k:Nat,k≤n∧kv= .int .i64 k∧Hid (HeapAt wr ha a mb D ps q (zeroW mem x k))∧Hid (Turn w (SlabF a mb D) wr (SlabF a mb D))) (fun kv _=>n-(intOf kv).toNat)
 case atStart=>exact⟨0,by omega,rfl,by rw [zeroW_zero];exact HP,Lib.hid (.refl _ _)⟩
 case round=>
  obtain⟨k,hk,rfl,H,T⟩:=hrel
  by_cases hkn:k<n
  · have hpk:=hp k hkn
    have hxk:=H.out.sl.low _ hpk
    have hs:=H.out.hs
    have hpH:=Lib.hid hpk
    clear hpk
    go_wp2_with (go_at_call 75;rw [show((x:Int)+(k:Int))=((x+k:Nat):Int) by push_cast;rfl,show(0:Int)=((0:Nat):Int) from rfl];refine(write_at H.out.sl (x+k) 0 hpH.out (by omega)).mono ?_;rintro e w1 ⟨rfl,hW,hS⟩)
    rw [zeroW_succ] at hS
    have H2:=Lib.hid (H.out.turn hS (wrote_turn hW))
    have T2:=Lib.hid (T.out.trans (wrote_turn (a:=a) (mb:=mb) hW))
    clear hS hW
    go_roundw
    case rel=>exact⟨k+1,by omega,by go_num,H2,T2⟩
    case measure=>simp [intOf];omega
  · obtain rfl:k=n:=by omega
    go_wp2
    go_end0
    exact⟨rfl,H.out,T.out⟩
attribute [local go_sem] Oper.semAt_some
structure KB(Cs:Nat→Prop)(A B:World):Prop where
 size:A.heap.size≤B.heap.size
 same: ∀(k:Nat) (o:Obj),A.heap[k]? =some o→(o.isCells=true∨o.isWalk=true)→ ¬Cs k→B.heap[k]? =some o
theorem KB.refl(Cs:Nat→Prop)(A:World):KB Cs A A:=⟨Nat.le_refl _,fun _ _ h _ _=>h⟩
theorem KB.trans{Cs:Nat→Prop}{A B C:World}(h:KB Cs A B)(k:KB Cs B C):KB Cs A C:=⟨Nat.le_trans h.size k.size,fun i o hi ho hc=>k.same i o (h.same i o hi ho hc) ho hc⟩
theorem KB.below{Cs:Nat→Prop}{A B:World}(h:Below A.heap.size A B):KB Cs A B:=⟨h.size,fun k o hk _ _=>(h.block k (Array.getElem?_eq_some_iff.1 hk).1).trans hk⟩
theorem KB.putObj{Cs:Nat→Prop}{W:World}{l:Nat}{o:Obj}(o' :Obj)(h:W.heap[l]? =some o)(h1:o.isCells=false)(h2:o.isWalk=false):KB Cs W (W.putObj l o'):=by
 have hg:=grownBy_putObj' W l o'
 refine⟨hg.size,fun k u hk hu _=> ?_⟩
 have hkl:k≠l:=by
  rintro rfl
  rw [h] at hk
  cases hk
  rcases hu with h3|h3
  · rw [h1] at h3;cases h3
  · rw [h2] at h3;cases h3
 exact(hg.block k (Array.getElem?_eq_some_iff.1 hk).1 (by simpa using hkl)).trans hk
theorem KB.setCell{Cs:Nat→Prop}{W:World}{p:Addr}(h:Cs p.block)(v:Value):KB Cs W (W.setCell p v):=
 ⟨by simp,fun k o hk _ hc=>(Below.heap_setCell W p v k (fun e=>hc (e▸h))).trans hk⟩
theorem cell_obj{w:World}{p:Addr}{v:Value}(h:w.cell? p=some v): ∃o,w.heap[p.block]? =some o∧o.isCells=true:=by
 unfold World.cell? at h
 cases hb:w.heap[p.block]? with
 |none=>rw [hb] at h;simp at h
 |some o=>
  rw [hb] at h
  cases o<;>first|exact⟨_,rfl,rfl⟩|(simp at h)
theorem KB.cell{Cs:Nat→Prop}{A B:World}(h:KB Cs A B){p:Addr}{v:Value}(hc:A.cell? p=some v)(hn: ¬Cs p.block):B.cell? p=some v:=by
 obtain⟨o,ho,h1⟩:=cell_obj hc
 exact(World.cell?_of_block (w:=A) (w' :=B) ((h.same _ o ho (.inl h1) hn).trans ho.symm)).trans hc
theorem HeapAt.kb{Cs:Nat→Prop}{w w' :World}{ha a mb q:Nat}{D:DW}{ps:List Nat}{mem:Nat→Nat}(h:HeapAt w ha a mb D ps q mem)(hk:KB Cs w w')(h1: ∀k,Cs k→ ¬SlabF a mb D k)(h2: ¬Cs ha)(h3: ¬Cs 1):HeapAt w' ha a mb D ps q mem where
 hs:=hk.cell h.hs h2
 sl:=h.sl.same fun b hb=>by
  have hn: ¬Cs b:=fun hc=>h1 b hc hb
  rcases hb with rfl|rfl|⟨p,hp⟩
  · obtain⟨o,ho,h4⟩:=cell_obj h.sl.cq
    exact(hk.same _ o ho (.inl h4) hn).trans ho.symm
  · obtain⟨es,clock,ho,_⟩:=h.sl.own
    exact(hk.same _ _ ho (.inr rfl) hn).trans ho.symm
  · obtain⟨o,ho,h4⟩:=cell_obj (h.sl.words p b hp 0 (by omega)).1
    exact(hk.same _ o ho (.inl h4) hn).trans ho.symm
 off:=h.off
 tab:=fun j hj=>hk.cell (h.tab j hj) h3
 tabF:=h.tabF
theorem abides_below{β:Type}{B:Nat}{J:β→World→Prop}(hJ:AbidesFrom B J){s:β}{W W' :World}(h:J s W)(hb:Below W.heap.size W W'):J s W' :=
 hJ s W W' none h ⟨hb.os,hb.tape,hb.output,hb.size,fun k hk _=>hb.block k hk⟩ (fun r e=>by cases e)
set_option maxRecDepth 100000 in
theorem heads_calls(ha:Nat)(w:World):Calls Tryz.prog 77 #[.pointer (some ⟨ha,0,none⟩)] w fun e w' =>e= .returned (.func (.func 106) #[] #[.pointer (some ⟨w.heap.size,0,none⟩)])∧w' =w.alloc (.cells #[.pointer (some ⟨ha,0,none⟩)] 67):=by
 go_enter Tryz.func77,Tryz.ntmps77
 go_wp2
 go_ret
 exact⟨rfl,rfl⟩
def HPos(L:HL)(pre:HL)(i next:Nat):Prop:= ∃rest cont,L=pre++rest∧(runs L).drop i=cont++runs rest∧(∀p∈cont,p<next)∧ ∀x∈rest,next≤x.1
theorem hpos_start(L:HL):HPos L [] 0 0:=⟨L,[],rfl,by simp,by simp,by simp⟩
theorem runs_cons(x:Nat × Hd)(t:HL):runs (x::t)=x.1::(List.range' (x.1+1) (x.2.len-1)++runs t):=by
 have h:=x.2.len_pos
 obtain⟨n,hn⟩: ∃n,x.2.len=n+1:=⟨x.2.len-1,by omega⟩
 simp [runs,hn,List.range'_succ]
theorem hpos_cases{L pre:HL}{i next:Nat}(hl:Lay L)(h:HPos L pre i next):
 (∃p,(runs L)[i]? =some p∧p<next∧HPos L pre (i+1) next)∨
 (∃x rest,L=pre++x::rest∧(runs L)[i]? =some x.1∧next≤x.1∧ ∀next',(next' =x.1+x.2.len∨(next' =next∧x.2.len=1))→HPos L (pre++ [x]) (i+1) next')∨
 (L=pre∧(runs L).length≤i):=by
 obtain⟨rest,cont,rfl,hd,hc,hr⟩:=h
 cases cont with
 |cons c cont=>
  refine .inl ⟨c, ?_,hc c List.mem_cons_self,rest,cont,rfl, ?_,fun p hp=>hc p (List.mem_cons_of_mem _ hp),hr⟩
  · have:=congrArg (fun l=>l[0]?) hd
    simpa using this
  · have:=congrArg (fun l=>l.drop 1) hd
    simpa [List.drop_drop,Nat.add_comm] using this
 |nil=>
  cases rest with
  |nil=>
   refine .inr (.inr ⟨by simp, ?_⟩)
   have h2:(runs (pre++ [])).length-i=0:=by rw [←List.length_drop,hd];simp [runs]
   omega
  |cons x rest=>
   rw [List.nil_append,runs_cons] at hd
   refine .inr (.inl ⟨x,rest,rfl, ?_,hr x List.mem_cons_self,fun next' hn=> ?_⟩)
   · have:=congrArg (fun l=>l[0]?) hd
     simpa using this
   · have hrise:=hl.rise
     rw [List.pairwise_append,List.pairwise_cons] at hrise
     refine⟨rest,List.range' (x.1+1) (x.2.len-1),by simp, ?_, ?_, ?_⟩
     · have:=congrArg (fun l=>l.drop 1) hd
       simpa [List.drop_drop,Nat.add_comm] using this
     · intro p hp
       rw [List.mem_range'_1] at hp
       have:=x.2.len_pos
       rcases hn with rfl|⟨_,h1⟩<;>omega
     · intro y hy
       have h1:=hrise.2.1.1 y hy
       have h2:=hr y (List.mem_cons_of_mem _ hy)
       rcases hn with rfl|⟨rfl,_⟩<;>omega
theorem ownsRow_cell{w:World}{base:Nat}{e:TypeId}{v:Value}{n:Nat}{xs:List Value}(h:w.ownsRow base e 1 v n xs){i:Nat}{u:Value}(hi:xs[i]? =some u): ∃g c,v= .slice (some ⟨g,0,none⟩) n c∧base≤g∧g<w.heap.size∧w.cell? ⟨g,i,none⟩=some u:=by
 have h' :=h
 rcases h.2 with ⟨rfl,h0⟩|⟨g,cap,cur,rfl,hb,_⟩
 · have:=h.1
   rw [h0] at this
   have h3:xs= []:=List.eq_nil_of_length_eq_zero (by omega)
   rw [h3] at hi;simp at hi
 · have:=h'.cells (g:=g) rfl i u hi
   refine⟨g,cap,rfl,hb,(h'.lt g rfl).2, ?_⟩
   by_cases h0:i=0
   · subst h0;simpa [Addr.add] using this
   · simpa [Addr.add,h0] using this
theorem ownsRow_form{w:World}{base:Nat}{e:TypeId}{v:Value}{n:Nat}{xs:List Value}(h:w.ownsRow base e 1 v n xs): ∃A c,v= .slice A n c:=by
 rcases h.2 with ⟨rfl,rfl⟩|⟨g,cap,cur,rfl,_⟩
 · exact⟨none,0,rfl⟩
 · exact⟨_,_,rfl⟩
structure HWalk(w:World)(ha a mb:Nat)(D:DW)(L:HL)(q:Nat)(mem:Nat→Nat)(B base:Nat)(v:Value)(W:World):Prop where
 hp:HeapAt W ha a mb D (runs L) q mem
 box:W.cell? ⟨B,0,none⟩=some (.pointer (some ⟨ha,0,none⟩))
 row:W.ownsRow base 3 1 v (runs L).length ((runs L).map fun p:Nat=>Value.int .i64 (p:Int))
theorem ownsRow_kb{Cs:Nat→Prop}{w w' :World}{base:Nat}{e:TypeId}{v:Value}{n:Nat}{xs:List Value}(h:w.ownsRow base e 1 v n xs)(hk:KB Cs w w')(hc: ∀k,Cs k→k<base):w'.ownsRow base e 1 v n xs:=by
 refine⟨h.1, ?_⟩
 rcases h.2 with h1|⟨g,cap,cur,h1,h2,h3,h4⟩
 · exact .inl h1
 · exact .inr ⟨g,cap,cur,h1,h2,hk.same g _ h3 (.inl rfl) (fun hh=>by have:=hc g hh;omega),h4⟩
theorem HWalk.kb{Cs:Nat→Prop}{w W W' :World}{ha a mb q B base:Nat}{D:DW}{L:HL}{mem:Nat→Nat}{v:Value}(h:HWalk w ha a mb D L q mem B base v W)(hk:KB Cs W W')
 (h1: ∀k,Cs k→ ¬SlabF a mb D k) (h2: ¬Cs ha) (h3: ¬Cs 1) (h4: ¬Cs B) (h5: ∀k,Cs k→k<base):HWalk w ha a mb D L q mem B base v W' :=
 ⟨h.hp.kb hk h1 h2 h3,hk.cell h.box h4,ownsRow_kb h.row hk h5⟩
theorem HWalk.below{w W W' :World}{ha a mb q B base:Nat}{D:DW}{L:HL}{mem:Nat→Nat}{v:Value}(h:HWalk w ha a mb D L q mem B base v W)(hb:Below W.heap.size W W'):HWalk w ha a mb D L q mem B base v W' :=
 h.kb (Cs:=fun _=>False) (KB.below hb) (fun _ h=>h.elim) (fun h=>h) (fun h=>h) (fun h=>h) (fun _ h=>h.elim)
set_option maxRecDepth 100000 in
theorem heads_stops{w:World}{ha a mb q B:Nat}{D:DW}{L:HL}{mem:Nat→Nat}(h:HeapAt w ha a mb D (runs L) q mem)(hl:Lay L)(hh:Heads L mem)(hB:w.cell? ⟨B,0,none⟩=some (.pointer (some ⟨ha,0,none⟩)))
 (Cs:Nat→Prop) (c1: ∀k,Cs k→ ¬SlabF a mb D k) (c2: ¬Cs ha) (c3: ¬Cs 1) (c4: ¬Cs B) (c5: ∀k,Cs k→k<w.heap.size):
 SeqStopsK Fence.wide 8 Tryz.prog 106 #[.pointer (some ⟨B,0,none⟩)] (fun x:{y:Nat × Hd // y∈L}=> #[.int .i64 (x.1.1:Nat),hdV x.1.2]) (KB Cs) (fun xs=>xs.map (·.1)=L) (fun pre=> ∃t,L=pre.map (·.1)++t) L.length w:=fun l J Jx W hBW hJ hJx hY h0=>by
 have hHW:HeapAt W ha a mb D (runs L) q mem:=h.kb (Cs:=fun _=>False) (KB.below hBW) (fun _ h=>h.elim) (fun h=>h) (fun h=>h)
 have hBox:W.cell? ⟨B,0,none⟩=some (.pointer (some ⟨ha,0,none⟩)):=(hBW.cell (p:=⟨B,0,none⟩) (cell_lt hB)).trans hB
 have hs:=hHW.hs
 have hP:=(callsIn_wide (n:=7)).2 (pages_row hHW.sl (runs_rise hl))
 have hPH:=Lib.hid hP
 have hHH:=Lib.hid hHW
 have hlH:=Lib.hid hl
 have hhH:=Lib.hid hh
 have hszW:=hBW.size
 clear hP hHW hB h hl hh
 refine callsIn_of_wp Tryz.func106 rfl trivial ?_ rfl
 simp only [Tryz.ntmps106,List.size_toArray,List.length_cons,List.length_nil,Nat.reduceAdd,Nat.reduceSub,Array.replicate_succ,Array.replicate_zero,List.push_toArray,List.append_toArray,List.nil_append,List.cons_append]
 gi_wp2_with (refine⟨trivial, ?_⟩;gi_at_call 84;refine hPH.out.mono ?_;rintro e w1 ⟨v,rfl,hrow,hb1⟩;obtain⟨A,c,rfl⟩:=ownsRow_form hrow)
 have hlen:(runs L).length≤4096:=by have h1:=hHH.out.sl.room;have h2:=hHH.out.sl.quota;rw [hHH.out.sl.count] at h1;omega
 have H1:Hid (HWalk w ha a mb D L q mem B W.heap.size (.slice A (runs L).length c) w1):=Lib.hid ⟨hHH.out.below hb1,(hb1.cell (p:=⟨B,0,none⟩) (cell_lt hBox)).trans hBox,hrow⟩
 have J1:=Lib.hid (abides_below hJ h0 hb1)
 clear hrow hb1 hBox hs h0 hPH
 gi_loopw [3,13] (fun nv iv wr=> ∃(pre:List {y:Nat × Hd // y∈L}) (i next:Nat),i≤(runs L).length∧iv= .int .i64 i∧nv= .int .i64 next∧next≤1000000∧Hid (HPos L (pre.map (·.1)) i next)∧Hid (HWalk w ha a mb D L q mem B W.heap.size (.slice A (runs L).length c) wr)∧Hid (J pre wr)) (fun _ iv _=>(runs L).length-(intOf iv).toNat)
 case atStart=>exact⟨[],0,0,by omega,rfl,rfl,by omega,Lib.hid (hpos_start L),H1,J1⟩
 case round=>
  obtain⟨pre,i,next,hi,rfl,rfl,hnx,hpos,H,hj⟩:=hrel
  rcases hpos_cases hlH.out hpos.out with ⟨p,hp,hlt,hnext⟩|⟨x,rest,hL,hp,hle,hnext⟩|⟨hL,hend⟩
  · obtain⟨g,c',hv,_,_,hcell⟩:=ownsRow_cell H.out.row (i:=i) (u:= .int .i64 (p:Int)) (by rw [List.getElem?_map,hp];rfl)
    cases hv
    have hil:i<(runs L).length:=(List.getElem?_eq_some_iff.1 hp).1
    have hd:decide ((p:Int)<(next:Int))=true:=by simp;omega
    have hnH:=Lib.hid hnext
    clear hp hnext hY
    gi_wp2
    go_roundw
    case rel=>exact⟨pre,i+1,next,by omega,by go_num,by trivial,hnx,hnH,H,hj⟩
    case measure=>simp [intOf];omega
  · obtain⟨g,c',hv,_,_,hcell⟩:=ownsRow_cell H.out.row (i:=i) (u:= .int .i64 (x.1:Int)) (by rw [List.getElem?_map,hp];rfl)
    cases hv
    have hil:i<(runs L).length:=(List.getElem?_eq_some_iff.1 hp).1
    have hxm:x∈L:=hL▸List.mem_append_right _ List.mem_cons_self
    have hxp:x.1∈runs L:=(List.getElem?_eq_some_iff.1 hp).2▸List.getElem_mem _
    have hlow:=H.out.hp.sl.low _ hxp
    have hok:=hlH.out.ok x hxm
    have hhx:=hhH.out x hxm
    have hpl:pre.length<L.length:=by have h9:=congrArg List.length hL;simp only [List.length_append,List.length_map,List.length_cons] at h9;omega
    have hbx:=H.out.box
    have hd:decide ((x.1:Int)<(next:Int))=false:=by simp;omega
    have hnH:=Lib.hid hnext
    have hpreH:Hid (∃t,L=(pre++ [(⟨x,hxm⟩:{y:Nat × Hd // y∈L})]).map (fun y=>y.1)++t):=Lib.hid ⟨rest,by rw [List.map_append,List.append_assoc];exact hL⟩
    have hmapH:Hid ((pre++ [(⟨x,hxm⟩:{y:Nat × Hd // y∈L})]).map (fun y=>y.1)=pre.map (fun y=>y.1)++ [x]):=Lib.hid (by rw [List.map_append];rfl)
    obtain⟨p,hdx⟩:=x
    simp only at hcell hxp hlow hd hle hhx
    have hYH:=Lib.hid hY
    have hxpH:=Lib.hid hxp
    have hxmH:=Lib.hid hxm
    clear hp hnext hL hY hxp
    cases hdx with
    |small cc m=>
     obtain⟨hm1,hm2⟩:=hhx
     obtain⟨hc8,hm0,hmS⟩:=hok
     have hG:=(callsIn_wide (n:=7)).2 (get_raw H.out.hp p 1 cc m hxpH.out (by omega) (by omega) hm1 hm2)
     have hGH:=Lib.hid hG
     clear hG hm1 hm2
     gi_wp2_with (refine⟨trivial, ?_⟩;gi_at_call 107;refine hGH.out.mono ?_;rintro e w2 ⟨rfl,hb2⟩)
     have hb3:Below wr.heap.size wr (w2.alloc (Obj.cells #[Value.int IntKind.i64 1,Value.int IntKind.i64 (cc:Nat),Value.int IntKind.u64 (m:Nat)] 154)):=hb2.alloc hb2.size _
     have hj3:=abides_below hJ hj.out hb3
     have H3:=Lib.hid (H.out.below hb3)
     obtain⟨fn,tmps,assign,body,hy,hR⟩:=hYH.out pre ⟨(p, .small cc m),hxmH.out⟩ _ hj3 hpl
     dsimp only [hdV] at hy
     have hRH:=Lib.hid hR
     clear hR hj3 hb3
     rw [hy]
     gi_wp2
     refine(hRH.out).mono ?_
     rintro e W2 (⟨rfl,hJ2,hK2⟩|⟨rfl,hJx2⟩)
     · have H4:=Lib.hid (H3.out.kb hK2 c1 c2 c3 c4 (fun k hk=>Nat.lt_of_lt_of_le (c5 k hk) hszW))
       have hJ4:=Lib.hid hJ2
       clear hJ2 hK2
       gi_wp2
       go_roundw
       case rel=>exact⟨pre++ [⟨(p, .small cc m),hxmH.out⟩],i+1,next,by omega,by go_num,by trivial,hnx,Lib.hid (by rw [hmapH.out];exact hnH.out _ (.inr ⟨rfl,rfl⟩)),H4,hJ4⟩
       case measure=>simp [intOf];omega
     · have hJx4:=Lib.hid hJx2
       clear hJx2
       gi_wp2
       refine bodyPost_ret (results_none rfl _ _ _) rfl ?_
       exact⟨⟨_,rfl⟩, .inr ⟨_,hpreH.out,hJx4.out⟩⟩
    |large ww=>
     obtain⟨hm1,hm2⟩:=hhx
     obtain⟨hw1,hw2⟩:=hok
     obtain⟨nn,hnn⟩: ∃nn,nn=(ww+65)/64:=⟨_,rfl⟩
     have hnn2:nn≤63:=by omega
     have hG:=(callsIn_wide (n:=7)).2 (get_raw H.out.hp p 2 nn ww hxpH.out (by omega) (by omega) (hnn▸hm1) hm2)
     have hGH:=Lib.hid hG
     have hnnH:=Lib.hid hnn
     clear hG hm1 hm2 hnn
     gi_wp2_with (refine⟨trivial, ?_⟩;gi_at_call 107;refine hGH.out.mono ?_;rintro e w2 ⟨rfl,hb2⟩)
     have hb3:Below wr.heap.size wr (w2.alloc (Obj.cells #[Value.int IntKind.i64 2,Value.int IntKind.i64 (nn:Nat),Value.int IntKind.u64 (ww:Nat)] 154)):=hb2.alloc hb2.size _
     have hj3:=abides_below hJ hj.out hb3
     have H3:=Lib.hid (H.out.below hb3)
     obtain⟨fn,tmps,assign,body,hy,hR⟩:=hYH.out pre ⟨(p, .large ww),hxmH.out⟩ _ hj3 hpl
     dsimp only [hdV] at hy
     rw [←hnnH.out] at hy
     have hRH:=Lib.hid hR
     clear hR hj3 hb3
     rw [hy]
     gi_wp2
     refine(hRH.out).mono ?_
     rintro e W2 (⟨rfl,hJ2,hK2⟩|⟨rfl,hJx2⟩)
     · have H4:=Lib.hid (H3.out.kb hK2 c1 c2 c3 c4 (fun k hk=>Nat.lt_of_lt_of_le (c5 k hk) hszW))
       have hJ4:=Lib.hid hJ2
       clear hJ2 hK2
       gi_wp2
       go_roundw
       case rel=>exact⟨pre++ [⟨(p, .large ww),hxmH.out⟩],i+1,p+nn,by omega,by go_num,by go_num,by omega,Lib.hid (by rw [hmapH.out];exact hnH.out _ (.inl (by rw [hnnH.out];rfl))),H4,hJ4⟩
       case measure=>simp [intOf];omega
     · have hJx4:=Lib.hid hJx2
       clear hJx2
       gi_wp2
       refine bodyPost_ret (results_none rfl _ _ _) rfl ?_
       exact⟨⟨_,rfl⟩, .inr ⟨_,hpreH.out,hJx4.out⟩⟩
  · have hLH:=Lib.hid hL
    clear hL
    have hil:i=(runs L).length:=by omega
    subst hil
    clear hY
    gi_wp2
    go_end0
    exact⟨⟨_,rfl⟩, .inl ⟨_,hLH.out.symm,hj.out⟩⟩
end Go.Proofs.YthcmecokejemcaaGreatDoor
namespace Go.Proofs.YthcmecokejemcaaGreatDoor
open Go.RowKit Go.Shelf
def takeM(mem:Nat→Nat)(p c m k:Nat):Nat→Nat:=zeroW (upd (upd mem (64*p) (1+256*c)) (64*p+1) (m ||| 2^k)) (64*p+2+k*sz c) (sz c)
set_option maxRecDepth 100000 in
theorem take_at{w:World}{ha a mb q:Nat}{D:DW}{ps:List Nat}{mem:Nat→Nat}(h:HeapAt w ha a mb D ps q mem)(p c m k:Nat)(hp:p∈ps)(hc:c<8)(hk:k<slotsN c)(h1:mem (64*p)=1+256*c)(h2:mem (64*p+1)=m):
 Calls Tryz.prog 128 #[.pointer (some ⟨ha,0,none⟩), .int .i64 (p:Nat), .int .i64 (k:Nat)] w fun e w' =>e= .returned (.int .i64 (64*p+2+k*sz c:Nat))∧HeapAt w' ha a mb D ps q (takeM mem p c m k)∧Turn w (SlabF a mb D) w' (SlabF a mb D):=by
 have hp2:=h.sl.low p hp
 have hk31:=slots_small c
 have hroom:=slot_room c k hc hk
 have hm64:m<18446744073709551616:=h2▸h.sl.word _
 have hor:m ||| 2^k<18446744073709551616:=Nat.or_lt_two_pow (n:=64) hm64 (pow_lt64 (by omega))
 have hG:=Lib.hid (get_raw h p 1 c m hp (by omega) (by omega) h1 h2)
 have hS:=Lib.hid (fun w=>set_at m k hm64 (by omega) w)
 have hPl:=Lib.hid (fun w=>hplace_at p c k hp2 hc hk w)
 have hsz:sizeR ((c:Nat):Int)= .tuple #[.int .i64 (sz c:Nat), .int .i64 0]:=if_pos ⟨by omega,by omega⟩
 have hsz31:sz c≤31:=by obtain⟨h3,_⟩:=sz_next c hc;omega
 have HP:=Lib.hid h
 have hlt:ha<w.heap.size:=cell_lt h.hs
 have hFn: ∀b,w.heap.size≤b→ ¬SlabF a mb D b:=fun b hb hf=>by have:=h.sl.lt hf;omega
 have hpH:=Lib.hid hp
 have hkH:=Lib.hid hk
 clear h h1 h2 hp hk
 unfold takeM
 obtain⟨ad,hadH⟩: ∃ad,Hid (64*p+2+k*sz c=ad):=⟨_,Lib.hid rfl⟩
 rw [hadH.out] at hPl ⊢
 have hadp: ∀j,j<sz c→(ad+j)/64=p:=fun j hj=>by have:=hadH.out;omega
 have hadH2:=Lib.hid hadp
 clear hadp
 generalize sz c=s at*
 generalize hmk:m ||| 2^k=mk at*
 clear hmk
 go_enter Tryz.func128,Tryz.ntmps128
 go_wp2_with (first|(go_at_call 107;refine hG.out.mono ?_;rintro e w1 ⟨rfl,hb1⟩)|(go_at_call 149;refine(hS.out _).mono ?_;rintro e w2 ⟨rfl,rfl⟩))
 have hb4:Below w.heap.size w (w1.alloc (Obj.cells #[Value.int IntKind.i64 1,Value.int IntKind.i64 (c:Nat),Value.int IntKind.u64 (mk:Nat)] 154)):=hb1.alloc hb1.size _
 have HP4:=Lib.hid (HP.out.below hb4)
 have hc4:(w1.alloc (Obj.cells #[Value.int IntKind.i64 1,Value.int IntKind.i64 (c:Nat),Value.int IntKind.u64 (mk:Nat)] 154)).cell? ⟨w1.heap.size,1,none⟩=some (.int .i64 (c:Nat)):=by go_simp
 have hz1:=hb1.size
 have T4:=Lib.hid (Turn.below (F:=SlabF a mb D) hb4)
 clear hb1 hb4
 refine(put_at HP4.out p 1 c mk hpH.out (by omega) (by omega) hor).mono ?_
 rintro e w5 ⟨rfl,h5,t5⟩
 have hc5:=t5.cell hc4 (hFn _ hz1)
 have HP5:=Lib.hid h5
 have T5:=Lib.hid (T4.out.trans t5)
 have hl5:w1.heap.size<w5.heap.size:=cell_lt hc5
 clear h5 t5 hc4
 go_wp2_with fail
 refine(size_any _ _).mono ?_
 rintro e w6 ⟨rfl,hb6⟩
 rw [hsz]
 have hc6:=(hb6.cell (p:=⟨w1.heap.size,1,none⟩) hl5).trans hc5
 have HP6:=Lib.hid (HP5.out.below hb6)
 have T6:=Lib.hid (T5.out.trans (.below hb6))
 clear hb6 hc5
 go_wp2_with fail
 refine(hPl.out _).mono ?_
 rintro e w7 ⟨rfl,hb7⟩
 have HP7:=Lib.hid (HP6.out.below hb7)
 have T7:=Lib.hid (T6.out.trans (.below hb7))
 clear hb7 hc6
 go_wp2_with fail
 refine(hclear_at HP7.out ad s (by omega) (fun j hj=>by rw [hadH2.out j hj];exact hpH.out)).mono ?_
 rintro e w8 ⟨rfl,h8,t8⟩
 have HP8:=Lib.hid h8
 have T8:=Lib.hid (T7.out.trans t8)
 clear h8 t8
 go_wp2
 go_ret
 exact⟨rfl,HP8.out,T8.out⟩
def leaveM(mem:Nat→Nat)(p c m k:Nat):Nat→Nat:=upd (upd mem (64*p) (1+256*c)) (64*p+1) (m ^^^ 2^k)
set_option maxRecDepth 100000 in
theorem leave_at{w:World}{ha a mb q:Nat}{D:DW}{ps:List Nat}{mem:Nat→Nat}(p c m k:Nat)(h:HeapAt w ha a mb D (p::ps) q mem)(hc:c<8)(hk:k<slotsN c)(hm:m.testBit k=true)(h1:mem (64*p)=1+256*c)(h2:mem (64*p+1)=m):
 Calls Tryz.prog 118 #[.pointer (some ⟨ha,0,none⟩), .int .i64 (p:Nat), .int .i64 (k:Nat)] w fun e w' =>e= .returned (.tuple #[])∧ ∃D',HeapAt w' ha a mb D' (if m ^^^ 2^k=0 then ps else p::ps) q (leaveM mem p c m k)∧Turn w (SlabF a mb D) w' (SlabF a mb D'):=by
 have hp2:=h.sl.low p List.mem_cons_self
 have hk31:=slots_small c
 have hm64:m<18446744073709551616:=h2▸h.sl.word _
 have hx:m ^^^ 2^k<18446744073709551616:=Nat.xor_lt_two_pow (n:=64) hm64 (pow_lt64 (by omega))
 have hG:=Lib.hid (get_raw h p 1 c m List.mem_cons_self (by omega) (by omega) h1 h2)
 have hS:=Lib.hid (fun w=>clear_at m k hm64 (by omega) hm w)
 have HP:=Lib.hid h
 have hlt:ha<w.heap.size:=cell_lt h.hs
 have hFn: ∀b,w.heap.size≤b→ ¬SlabF a mb D b:=fun b hb hf=>by have:=h.sl.lt hf;omega
 clear h h1 h2 hm hk
 unfold leaveM
 generalize hmk:m ^^^ 2^k=mk at*
 clear hmk
 by_cases h0:mk=0
 · rw [if_pos h0]
   have h0b:((mk:Int)==0)=true:=by simp [h0]
   have h0H:=Lib.hid h0
   clear h0
   go_enter Tryz.func118,Tryz.ntmps118
   go_wp2_with (first|(go_at_call 107;refine hG.out.mono ?_;rintro e w1 ⟨rfl,hb1⟩)|(go_at_call 135;refine(hS.out _).mono ?_;rintro e w2 ⟨rfl,rfl⟩))
   have hb4:Below w.heap.size w (w1.alloc (Obj.cells #[Value.int IntKind.i64 1,Value.int IntKind.i64 (c:Nat),Value.int IntKind.u64 (mk:Nat)] 154)):=hb1.alloc hb1.size _
   have HP4:=Lib.hid (HP.out.below hb4)
   have hc0:(w1.alloc (Obj.cells #[Value.int IntKind.i64 1,Value.int IntKind.i64 (c:Nat),Value.int IntKind.u64 (mk:Nat)] 154)).cell? ⟨w1.heap.size,0,none⟩=some (.int .i64 1):=by go_simp
   have hc1:(w1.alloc (Obj.cells #[Value.int IntKind.i64 1,Value.int IntKind.i64 (c:Nat),Value.int IntKind.u64 (mk:Nat)] 154)).cell? ⟨w1.heap.size,1,none⟩=some (.int .i64 (c:Nat)):=by go_simp
   have hc2:(w1.alloc (Obj.cells #[Value.int IntKind.i64 1,Value.int IntKind.i64 (c:Nat),Value.int IntKind.u64 (mk:Nat)] 154)).cell? ⟨w1.heap.size,2,none⟩=some (.int .u64 (mk:Nat)):=by go_simp
   have hz1:=hb1.size
   have T4:=Lib.hid (Turn.below (F:=SlabF a mb D) hb4)
   clear hb1 hb4
   refine(put_at HP4.out p 1 c mk List.mem_cons_self (by omega) (by omega) hx).mono ?_
   rintro e w5 ⟨rfl,h5,t5⟩
   have hc50:=t5.cell hc0 (hFn _ hz1)
   have hc51:=t5.cell hc1 (hFn _ hz1)
   have hc52:=t5.cell hc2 (hFn _ hz1)
   have hs5:=h5.hs
   have HP5:=Lib.hid h5
   have T5:=Lib.hid (T4.out.trans t5)
   clear h5 t5 hc0 hc1 hc2
   go_wp2_with fail
   have hR:=release_at (ps:=ps) p 1 (h:=HP5.out.sl) (by omega) (by omega)
   refine hR.mono ?_
   rintro e w6 ⟨D',rfl,hS6,hSh⟩
   have t6:=sh_turn (a:=a) hSh
   have HP6:=Lib.hid (HP5.out.turn hS6 t6)
   have T6:=Lib.hid (T5.out.trans t6)
   clear hS6 hSh t6 hR
   go_wp2
   go_end0
   exact⟨rfl,_,HP6.out,T6.out⟩
 · rw [if_neg h0]
   have h0b:((mk:Int)==0)=false:=by simp;omega
   have h0H:=Lib.hid h0
   clear h0
   go_enter Tryz.func118,Tryz.ntmps118
   go_wp2_with (first|(go_at_call 107;refine hG.out.mono ?_;rintro e w1 ⟨rfl,hb1⟩)|(go_at_call 135;refine(hS.out _).mono ?_;rintro e w2 ⟨rfl,rfl⟩))
   have hb4:Below w.heap.size w (w1.alloc (Obj.cells #[Value.int IntKind.i64 1,Value.int IntKind.i64 (c:Nat),Value.int IntKind.u64 (mk:Nat)] 154)):=hb1.alloc hb1.size _
   have HP4:=Lib.hid (HP.out.below hb4)
   have hc0:(w1.alloc (Obj.cells #[Value.int IntKind.i64 1,Value.int IntKind.i64 (c:Nat),Value.int IntKind.u64 (mk:Nat)] 154)).cell? ⟨w1.heap.size,0,none⟩=some (.int .i64 1):=by go_simp
   have hc1:(w1.alloc (Obj.cells #[Value.int IntKind.i64 1,Value.int IntKind.i64 (c:Nat),Value.int IntKind.u64 (mk:Nat)] 154)).cell? ⟨w1.heap.size,1,none⟩=some (.int .i64 (c:Nat)):=by go_simp
   have hc2:(w1.alloc (Obj.cells #[Value.int IntKind.i64 1,Value.int IntKind.i64 (c:Nat),Value.int IntKind.u64 (mk:Nat)] 154)).cell? ⟨w1.heap.size,2,none⟩=some (.int .u64 (mk:Nat)):=by go_simp
   have hz1:=hb1.size
   have T4:=Lib.hid (Turn.below (F:=SlabF a mb D) hb4)
   clear hb1 hb4
   refine(put_at HP4.out p 1 c mk List.mem_cons_self (by omega) (by omega) hx).mono ?_
   rintro e w5 ⟨rfl,h5,t5⟩
   have hc50:=t5.cell hc0 (hFn _ hz1)
   have hc51:=t5.cell hc1 (hFn _ hz1)
   have hc52:=t5.cell hc2 (hFn _ hz1)
   have hs5:=h5.hs
   have HP5:=Lib.hid h5
   have T5:=Lib.hid (T4.out.trans t5)
   clear h5 t5 hc0 hc1 hc2
   go_wp2_with fail
   go_end0
   exact⟨rfl,_,HP5.out,T5.out⟩
attribute [local go_sem] Oper.semAt_some
def hdK:Hd→Nat
 | .small _ _=>1
 | .large _=>2
def hdN:Hd→Nat
 | .small c _=>c
 | .large w=>(w+65)/64
def hdW:Hd→Nat
 | .small _ m=>m
 | .large w=>w
theorem hdV_eq(h:Hd):hdV h= .agg #[.int .i64 (hdK h:Nat), .int .i64 (hdN h:Nat), .int .u64 (hdW h:Nat)]:=by cases h<;>rfl
structure HdBox(W:World)(B:Nat)(h:Hd):Prop where
 k:W.cell? ⟨B,0,none⟩=some (.int .i64 (hdK h:Nat))
 n:W.cell? ⟨B,1,none⟩=some (.int .i64 (hdN h:Nat))
 w:W.cell? ⟨B,2,none⟩=some (.int .u64 (hdW h:Nat))
theorem HdBox.kept{W W' :World}{B:Nat}{h:Hd}{row:Option Nat}(hb:HdBox W B h)(hg:W.grownBy W' row)(hr: ∀r,row=some r→ ∃o:Obj,W.heap[r]? =some o∧o.isCells=false):HdBox W' B h:=
 ⟨cell_kept hb.k hg hr,cell_kept hb.n hg hr,cell_kept hb.w hg hr⟩
theorem hdBox_new(W:World)(h:Hd)(t:TypeId):HdBox (W.alloc (.cells #[.int .i64 (hdK h:Nat), .int .i64 (hdN h:Nat), .int .u64 (hdW h:Nat)] t)) W.heap.size h:=by
 refine⟨?_, ?_, ?_⟩<;>go_simp
def SpotR(L:HL)(c:Nat)(v:Value):Prop:=
 (v= .tuple #[.int .i64 0, .int .i64 0, .bool false])∨
 ∃L1 L2 p m k,L=L1++(p, .small c m)::L2∧k<slotsN c∧m.testBit k=false∧v= .tuple #[.int .i64 (p:Nat), .int .i64 (k:Nat), .bool true]
def Out3(B:Nat)(u v x:Value)(W:World):Prop:=W.cell? ⟨B+1,0,none⟩=some u∧W.cell? ⟨B+1+1,0,none⟩=some v∧W.cell? ⟨B+1+1+1,0,none⟩=some x∧W.frozen? ⟨B+1,0,none⟩=false∧W.frozen? ⟨B+1+1,0,none⟩=false∧W.frozen? ⟨B+1+1+1,0,none⟩=false
theorem Out3.kept{B:Nat}{u v x:Value}{W W' :World}{row:Option Nat}(h:Out3 B u v x W)(hg:W.grownBy W' row)(hr: ∀r,row=some r→ ∃o:Obj,W.heap[r]? =some o∧o.isCells=false):Out3 B u v x W' :=by
 obtain⟨h1,h2,h3,f1,f2,f3⟩:=h
 exact⟨cell_kept h1 hg hr,cell_kept h2 hg hr,cell_kept h3 hg hr,(frozen_kept h1 hg hr).trans f1,(frozen_kept h2 hg hr).trans f2,(frozen_kept h3 hg hr).trans f3⟩
theorem Out3.below{B:Nat}{u v x:Value}{W W' :World}(h:Out3 B u v x W)(hb:Below W.heap.size W W'):Out3 B u v x W' :=by
 obtain⟨h1,h2,h3,f1,f2,f3⟩:=h
 exact⟨(hb.cell (p:=⟨B+1,0,none⟩) (cell_lt h1)).trans h1,(hb.cell (p:=⟨B+1+1,0,none⟩) (cell_lt h2)).trans h2,(hb.cell (p:=⟨B+1+1+1,0,none⟩) (cell_lt h3)).trans h3,(hb.frozen (p:=⟨B+1,0,none⟩) (cell_lt h1)).trans f1,(hb.frozen (p:=⟨B+1+1,0,none⟩) (cell_lt h2)).trans f2,(hb.frozen (p:=⟨B+1+1+1,0,none⟩) (cell_lt h3)).trans f3⟩
theorem Out3.set{B:Nat}{u v x:Value}{W:World}(h:Out3 B u v x W)(u' v' x' :Value):Out3 B u' v' x' (((W.setCell ⟨B+1,0,none⟩ u').setCell ⟨B+1+1,0,none⟩ v').setCell ⟨B+1+1+1,0,none⟩ x'):=by
 obtain⟨h1,h2,h3,f1,f2,f3⟩:=h
 refine⟨?_, ?_, ?_, ?_, ?_, ?_⟩
 · exact(World.cell?_setCell_other _ _ _ _ (by simp)).trans ((World.cell?_setCell_other _ _ _ _ (by simp)).trans (World.cell?_setCell_same' _ _ _ (by rw [h1];rfl)))
 · exact(World.cell?_setCell_other _ _ _ _ (by simp)).trans (World.cell?_setCell_same' _ _ _ (by rw [World.cell?_setCell_other _ _ _ _ (by simp),h2];rfl))
 · exact World.cell?_setCell_same' _ _ _ (by rw [World.cell?_setCell_other _ _ _ _ (by simp),World.cell?_setCell_other _ _ _ _ (by simp),h3];rfl)
 · simp [f1]
 · simp [f2]
 · simp [f3]
theorem keepsOthers_below{W W' :World}(h:Below W.heap.size W W'):KeepsOthers W W' :=⟨h.size,fun k o hk _=>(h.block k (Array.getElem?_eq_some_iff.1 hk).1).trans hk⟩
set_option maxRecDepth 100000 in
theorem spot_at{w:World}{ha a mb q:Nat}{D:DW}{L:HL}{mem:Nat→Nat}(h:HeapAt w ha a mb D (runs L) q mem)(hl:Lay L)(hh:Heads L mem)(c:Nat)(hc:c<8):
 Calls Tryz.prog 127 #[.pointer (some ⟨ha,0,none⟩), .int .i64 (c:Nat)] w fun e w' => ∃v,e= .returned v∧SpotR L c v∧Below w.heap.size w w' :=by
 refine(callsIn_wide (n:=9)).1 ?_
 have hsl:slotsR ((c:Nat):Int)= .tuple #[.int .i64 (slotsN c:Nat), .int .i64 0]:=if_pos ⟨by omega,by omega⟩
 have hS:=Lib.hid (fun w=>(callsIn_wide (n:=8)).2 (slots_any (c:Nat) w))
 have hHd:=Lib.hid (fun w=>(callsIn_wide (n:=8)).2 (heads_calls ha w))
 have HH:=Lib.hid h
 have Hl:=Lib.hid hl
 have Hh:=Lib.hid hh
 clear h hl hh
 refine callsIn_of_wp_marks Tryz.func127 rfl trivial ?_ rfl
 simp only [Tryz.ntmps127,List.size_toArray,List.length_cons,List.length_nil,Nat.reduceAdd,Nat.reduceSub,Array.replicate_succ,Array.replicate_zero,List.push_toArray,List.append_toArray,List.nil_append,List.cons_append]
 gi_wp2_with (refine⟨trivial, ?_⟩;fail)
 have ho0:Out3 w.heap.size (.int .i64 0) (.int .i64 0) (.bool false) ((((w.alloc (Obj.cells #[Value.int IntKind.i64 (c:Nat)] 3)).alloc (Obj.cells #[Value.int IntKind.i64 0] 3)).alloc (Obj.cells #[Value.int IntKind.i64 0] 3)).alloc (Obj.cells #[Value.bool false] 4)):=by
  refine⟨?_, ?_, ?_, ?_, ?_, ?_⟩<;>go_simp
 have hn0:((((w.alloc (Obj.cells #[Value.int IntKind.i64 (c:Nat)] 3)).alloc (Obj.cells #[Value.int IntKind.i64 0] 3)).alloc (Obj.cells #[Value.int IntKind.i64 0] 3)).alloc (Obj.cells #[Value.bool false] 4)).cell? ⟨w.heap.size,0,none⟩=some (.int .i64 (c:Nat)):=by go_simp
 have hb0:Below w.heap.size w ((((w.alloc (Obj.cells #[Value.int IntKind.i64 (c:Nat)] 3)).alloc (Obj.cells #[Value.int IntKind.i64 0] 3)).alloc (Obj.cells #[Value.int IntKind.i64 0] 3)).alloc (Obj.cells #[Value.bool false] 4)):=((((Below.refl _ w).alloc (Nat.le_refl _) _).alloc (by simp) _).alloc (by simp;omega) _).alloc (by simp;omega) _
 have hz0:((((w.alloc (Obj.cells #[Value.int IntKind.i64 (c:Nat)] 3)).alloc (Obj.cells #[Value.int IntKind.i64 0] 3)).alloc (Obj.cells #[Value.int IntKind.i64 0] 3)).alloc (Obj.cells #[Value.bool false] 4)).heap.size=w.heap.size+4:=by simp
 generalize ((((w.alloc (Obj.cells #[Value.int IntKind.i64 (c:Nat)] 3)).alloc (Obj.cells #[Value.int IntKind.i64 0] 3)).alloc (Obj.cells #[Value.int IntKind.i64 0] 3)).alloc (Obj.cells #[Value.bool false] 4))=W0 at*
 refine⟨trivial, ?_⟩
 refine(hS.out _).mono ?_
 rintro e w1 ⟨rfl,hb1⟩
 rw [hsl]
 have hn1:=(hb1.cell (p:=⟨w.heap.size,0,none⟩) (cell_lt hn0)).trans hn0
 have ho1:=ho0.below hb1
 have hz1:=hb1.size
 have hbw:=hb0.trans (hb1.mono hb0.size)
 clear hb1 hb0 ho0 hn0
 gi_wp2_with (refine⟨trivial, ?_⟩;fail)
 refine⟨trivial, ?_⟩
 refine(hHd.out _).mono ?_
 rintro e w2 ⟨rfl,rfl⟩
 gi_wp2_with (refine⟨trivial, ?_⟩;fail)
 obtain⟨W2,hW2⟩: ∃W2,W2=(w1.alloc (Obj.cells #[Value.int IntKind.i64 (slotsN c:Nat)] 3)).alloc (Obj.cells #[Value.pointer (some { block:=ha,off:=0 })] 67):=⟨_,rfl⟩
 have hb2:Below w1.heap.size w1 W2:=hW2▸((Below.refl _ w1).alloc (Nat.le_refl _) _).alloc (by simp) _
 have hn2:=(hb2.cell (p:=⟨w.heap.size,0,none⟩) (cell_lt hn1)).trans hn1
 have ho2:=ho1.below hb2
 have hs2:W2.cell? ⟨w1.heap.size,0,none⟩=some (.int .i64 (slotsN c:Nat)):=by rw [hW2];go_simp
 have hx2:W2.cell? ⟨w1.heap.size+1,0,none⟩=some (.pointer (some ⟨ha,0,none⟩)):=by rw [hW2];go_simp
 have hz2:W2.heap.size=w1.heap.size+2:=by rw [hW2];simp
 have hb2w:=hbw.trans (hb2.mono (by omega))
 rw [←hW2]
 clear hW2 hb2 hn1 ho1 hbw
 have HH2:=Lib.hid (HH.out.below hb2w)
 refine wpIn_rangeFunc_ownH rfl (by omega) (gf:=106) (lb:= #[.pointer (some ⟨w1.heap.size+1,0,none⟩)]) rfl trivial (enters_of Tryz.func106 (by kernel_rfl) rfl)
  (heads_stops HH2.out Hl.out Hh.out hx2 (fun _=>False) (fun _ h=>h.elim) (fun h=>h) (fun h=>h) (fun h=>h) (fun _ h=>h.elim))
  (fun h k=>h.trans k) (fun W l o o' _ hl h1 h2=>KB.putObj o' hl h1 h2) (Below.refl _ _) (fun _=>rfl)
  (fun pre W=>Below W2.heap.size W2 W)
  (fun cd pre W=>cd= .ret∧(∃p0 p m k,pre.map (fun y=>y.1)=p0++ [(p,Hd.small c m)]∧k<slotsN c∧m.testBit k=false∧Out3 w.heap.size (.int .i64 (p:Nat)) (.int .i64 (k:Nat)) (.bool true) W)∧Below w.heap.size w W)
  (fun s A B row hs hg hr=>ownFrom_below (Nat.le_refl _) (by omega) s A B row hs hg hr)
  (fun cd s A B row hs hg hr=>by
   obtain⟨h1,⟨p0,p,m,k,h2,h3,h4,h5⟩,h6⟩:=hs
   exact⟨h1,⟨p0,p,m,k,h2,h3,h4,h5.kept hg (fun r e=>(hr r e).2)⟩,ownFrom_below (Nat.le_refl _) (by omega) s A B row h6 hg hr⟩)
  (Below.refl _ _)
  (fun x a' W=> ∃B,W2.heap.size≤B∧HdBox W B x.1.2∧a' ={ tmps:= #[Value.pointer (some { block:=ha,off:=0 }),Value.int IntKind.i64 (c:Nat),undef,Value.pointer (some { block:=w.heap.size,off:=0 }),Value.pointer (some { block:=w.heap.size+1,off:=0 }),Value.pointer (some { block:=w.heap.size+1+1,off:=0 }),Value.pointer (some { block:=w.heap.size+1+1+1,off:=0 }),Value.pointer (some { block:=w1.heap.size,off:=0 }),Value.int IntKind.i64 0,Value.int IntKind.i64 (x.1.1:Nat),Value.pointer (some { block:=B,off:=0 }),undef,Value.tuple #[Value.int IntKind.i64 (slotsN c:Nat),Value.int IntKind.i64 0],Value.int IntKind.i64 (c:Nat),Value.tuple #[Value.int IntKind.i64 (slotsN c:Nat),Value.int IntKind.i64 0],Value.int IntKind.i64 (slotsN c:Nat),Value.int IntKind.i64 0,Value.pointer (some { block:=ha,off:=0 }),Value.func (Fn.func 106) #[] #[Value.pointer (some { block:=w1.heap.size+1,off:=0 })],Value.int IntKind.i64 (x.1.1:Nat),hdV x.1.2,undef,undef,undef,undef,undef,undef,undef,undef,undef,undef,undef,undef,undef,undef,undef,undef,undef],defers:= [] })
  (fun x a' s A B row hs hg hr=>by
   obtain⟨B',h1,h2,h3⟩:=hs
   exact⟨B',h1,h2.kept hg (fun r e=>(hr r e).2),h3⟩)
  ?assign ?body ?done ?stop
 case assign=>
  rintro l pre ⟨⟨p,hd⟩,hxm⟩ W K hi hK
  dsimp only at hK ⊢
  have hb:Below W.heap.size W (W.alloc (Obj.cells #[Value.int IntKind.i64 (hdK hd:Nat),Value.int IntKind.i64 (hdN hd:Nat),Value.int IntKind.u64 (hdW hd:Nat)] 154)):=(Below.refl _ W).alloc (Nat.le_refl _) _
  have hK2:=hK _ (W.alloc (Obj.cells #[Value.int IntKind.i64 (hdK hd:Nat),Value.int IntKind.i64 (hdN hd:Nat),Value.int IntKind.u64 (hdW hd:Nat)] 154)) ((keepsOthers_below hb).from _) (KB.below hb) (hi.trans (hb.mono hi.size)) ⟨W.heap.size,hi.size,hdBox_new _ _ _,rfl⟩
  have hK2H:=Lib.hid hK2
  clear hK hK2 hb hi
  rw [hdV_eq] at hK2H ⊢
  gi_wp2
  exact hK2H.out
 case body=>
  rintro l pre ⟨⟨p,hd⟩,hxm⟩ a' W hl ⟨r,hr⟩ hi ⟨B,hBz,hbx,rfl⟩ hlen
  dsimp only at hbx ⊢
  have hn3:=(hi.cell (p:=⟨w.heap.size,0,none⟩) (cell_lt hn2)).trans hn2
  have ho3:=ho2.below hi
  have hs3:=(hi.cell (p:=⟨w1.heap.size,0,none⟩) (cell_lt hs2)).trans hs2
  have hok:=Hl.out.ok _ hxm
  have hk:=hbx.k
  have hn:=hbx.n
  have hw:=hbx.w
  have hbw:=hb2w.trans (hi.mono hb2w.size)
  have hii:=Lib.hid hi
  have hTw:=(HH.out.below hbw).tab
  have hTlt:1<W.heap.size:=by have:=HH.out.tabF a (.inl rfl);have h2:=HH.out.sl.lt (.inl rfl);have:=hbw.size;omega
  have hbwH:=Lib.hid hbw
  have hTH:=Lib.hid hTw
  clear hbx hi hbw hTw
  cases hd with
  |large ww=>
   simp only [hdK,hdN,hdW] at hk hn hw
   have d1:((2:Int) !=1)=true:=by decide
   clear hok
   gi_wp2
   exact⟨KeepsFrom.refl _ _,KB.refl _ _,hii.out⟩
  |small cc m=>
   simp only [hdK,hdN,hdW] at hk hn hw
   obtain⟨hc8,hm0,hmS⟩:=hok
   have hm64:m<18446744073709551616:=Nat.lt_trans hmS (pow_lt64 (by have:=slots_small cc;omega))
   have d1:((1:Int) !=1)=false:=by decide
   by_cases hcc:cc=c
   · subst hcc
     have d2:(((cc:Nat):Int) !=(cc:Nat))=false:=by simp
     have hF:=Lib.hid (CallsIn.inRound l ((callsIn_wide (n:=6)).2 (free_at m (slotsN cc) hm64 (by have:=slots_small cc;omega) W hTH.out hTlt)))
     clear hm0 hmS hm64
     gi_wp2_with (refine⟨trivial, ?_⟩;fail)
     refine⟨trivial, ?_⟩
     refine hF.out.mono ?_
     rintro e W' ⟨r',rfl,hr',hW'⟩
     have hbW:Below W.heap.size W W' :=hW' ▸(Below.refl _ W).alloc (Nat.le_refl _) _
     clear hW'
     have ho4:=ho3.below hbW
     have hi4:=Lib.hid (hii.out.trans (hbW.mono hii.out.size))
     have hb4:=Lib.hid (hbwH.out.trans (hbW.mono hbwH.out.size))
     have hk4:=Lib.hid ((keepsOthers_below hbW).from W2.heap.size)
     have hkb4:=Lib.hid (KB.below (Cs:=fun _=>False) hbW)
     have hsz4:w.heap.size+4≤W'.heap.size:=by have:=hb4.out.size;have:=hi4.out.size;omega
     clear hbW ho3 hn3 hs3 hk hn hw hF
     rcases hr' with ⟨rfl,_⟩|⟨k,hkn,rfl,hkm⟩
     · have d3:decide ((0:Int)≤ -1)=false:=by decide
       gi_wp2
       exact⟨hk4.out,hkb4.out,hi4.out⟩
     · have d3:decide ((0:Int)≤(k:Int))=true:=by simp
       have hkmH:=Lib.hid hkm
       have hknH:=Lib.hid hkn
       clear hkm hkn
       obtain⟨q1,q2,q3,q4,q5,q6⟩:=ho4
       have hset:=Lib.hid (Out3.set ⟨q1,q2,q3,q4,q5,q6⟩ (.int .i64 (p:Nat)) (.int .i64 (k:Nat)) (.bool true))
       gi_wp2
       refine⟨?_,rfl,⟨pre.map (fun y=>y.1),p,m,k,by rw [List.map_append];rfl,hknH.out,hkmH.out,hset.out⟩, ?_⟩
       · exact hk4.out.trans ((((KeepsOthers.setCell _ _ _).trans (KeepsOthers.setCell _ _ _)).trans (KeepsOthers.setCell _ _ _)).from _)
       · exact((hb4.out.setCell (p:=⟨w.heap.size+1,0,none⟩) (by simp) _).setCell (p:=⟨w.heap.size+1+1,0,none⟩) (by simp;omega) _).setCell (p:=⟨w.heap.size+1+1+1,0,none⟩) (by simp;omega) _
   · have d2:(((cc:Nat):Int) !=(c:Nat))=true:=by simp;omega
     clear hm0 hmS hcc
     gi_wp2
     exact⟨KeepsFrom.refl _ _,KB.refl _ _,hii.out⟩
 case done=>
  rintro D' xs W hD hxs hi hK
  have ho3:=ho2.below hi
  have hbw:=Lib.hid (hb2w.trans (hi.mono hb2w.size))
  obtain⟨q1,q2,q3,q4,q5,q6⟩:=ho3
  have hset:=Out3.set ⟨q1,q2,q3,q4,q5,q6⟩ (.int .i64 0) (.int .i64 0) (.bool false)
  have hK1:=(KeepsOthers.setCell W ⟨w.heap.size+1,0,none⟩ (.int .i64 0)).same D' _ hK rfl
  have hK2:=(KeepsOthers.setCell (W.setCell ⟨w.heap.size+1,0,none⟩ (.int .i64 0)) ⟨w.heap.size+1+1,0,none⟩ (.int .i64 0)).same D' _ hK1 rfl
  have hK3:=(KeepsOthers.setCell ((W.setCell ⟨w.heap.size+1,0,none⟩ (.int .i64 0)).setCell ⟨w.heap.size+1+1,0,none⟩ (.int .i64 0)) ⟨w.heap.size+1+1+1,0,none⟩ (.bool false)).same D' _ hK2 rfl
  have hset2:=hset.kept (grownBy_putObj' _ D' (.deferred none)) (fun r e=>by cases e;exact⟨_,hK3,rfl⟩)
  obtain⟨u1,u2,u3,_⟩:=hset2
  clear hxs hi hset hK1 hK2
  gi_wp2
  refine⟨by simp, .inl ⟨_,_,rfl,run_takeDeferred hK3, ?_⟩⟩
  refine⟨.tuple #[.int .i64 0, .int .i64 0, .bool false], ?_, ?_⟩
  · simp [results,Tryz.f127,go_sem,u1,u2,u3]
  · exact⟨_,rfl, .inl rfl,(((hbw.out.setCell (p:=⟨w.heap.size+1,0,none⟩) (by simp) _).setCell (p:=⟨w.heap.size+1+1,0,none⟩) (by simp;omega) _).setCell (p:=⟨w.heap.size+1+1+1,0,none⟩) (by simp;omega) _).trans (belowK_b (w:=w) (Nat.le_refl _) _ D' _ _ (by omega) hK3 rfl rfl)⟩
 case stop=>
  rintro D' cd pre W hD ⟨t,ht⟩ ⟨rfl,⟨p0,p,m,k,hpre,hk,hm,ho⟩,hb⟩ hK
  have hbH:=Lib.hid hb
  have hset2:=ho.kept (grownBy_putObj' _ D' (.deferred none)) (fun r e=>by cases e;exact⟨_,hK,rfl⟩)
  obtain⟨u1,u2,u3,_⟩:=hset2
  have hfin:Hid (SpotR L c (.tuple #[.int .i64 (p:Nat), .int .i64 (k:Nat), .bool true])):=Lib.hid (.inr ⟨p0,t,p,m,k,by rw [ht,hpre,List.append_assoc];rfl,hk,hm,rfl⟩)
  clear hb ho ht hpre hk hm
  gi_wp2
  refine⟨by simp, .inl ⟨_,_,rfl,run_takeDeferred hK, ?_⟩⟩
  refine⟨.tuple #[.int .i64 (p:Nat), .int .i64 (k:Nat), .bool true], ?_, ?_⟩
  · simp [results,Tryz.f127,go_sem,u1,u2,u3]
  · exact⟨_,rfl,hfin.out,hbH.out.trans (belowK_b (w:=w) (Nat.le_refl _) _ D' _ _ (by omega) hK rfl rfl)⟩
end Go.Proofs.YthcmecokejemcaaGreatDoor
namespace Go.Proofs.YthcmecokejemcaaGreatDoor
open Go.RowKit Go.Shelf
attribute [local go_sem] Oper.semAt_some wide_fn
structure Out4(B:Nat)(u v:Value)(x y z:Value)(t:Value)(W:World):Prop where
 c1:W.cell? ⟨B+1,0,none⟩=some u
 c2:W.cell? ⟨B+1+1,0,none⟩=some v
 c3:W.cell? ⟨B+1+1+1,0,none⟩=some x
 c4:W.cell? ⟨B+1+1+1,1,none⟩=some y
 c5:W.cell? ⟨B+1+1+1,2,none⟩=some z
 c6:W.cell? ⟨B+1+1+1+1,0,none⟩=some t
 f1:W.frozen? ⟨B+1,0,none⟩=false
 f2:W.frozen? ⟨B+1+1,0,none⟩=false
 f3:W.frozen? ⟨B+1+1+1,0,none⟩=false
 f4:W.frozen? ⟨B+1+1+1,1,none⟩=false
 f5:W.frozen? ⟨B+1+1+1,2,none⟩=false
 f6:W.frozen? ⟨B+1+1+1+1,0,none⟩=false
theorem Out4.kept{B:Nat}{u v x y z t:Value}{W W' :World}{row:Option Nat}(h:Out4 B u v x y z t W)(hg:W.grownBy W' row)(hr: ∀r,row=some r→ ∃o:Obj,W.heap[r]? =some o∧o.isCells=false):Out4 B u v x y z t W' :=
 ⟨cell_kept h.c1 hg hr,cell_kept h.c2 hg hr,cell_kept h.c3 hg hr,cell_kept h.c4 hg hr,cell_kept h.c5 hg hr,cell_kept h.c6 hg hr,
  (frozen_kept h.c1 hg hr).trans h.f1,(frozen_kept h.c2 hg hr).trans h.f2,(frozen_kept h.c3 hg hr).trans h.f3,(frozen_kept h.c4 hg hr).trans h.f4,(frozen_kept h.c5 hg hr).trans h.f5,(frozen_kept h.c6 hg hr).trans h.f6⟩
theorem Out4.below{B:Nat}{u v x y z t:Value}{W W' :World}(h:Out4 B u v x y z t W)(hb:Below W.heap.size W W'):Out4 B u v x y z t W' :=
 h.kept (row:=none) ⟨hb.os,hb.tape,hb.output,hb.size,fun k hk _=>hb.block k hk⟩ (fun r e=>by cases e)
def wr6(W:World)(B:Nat)(u v x y z t:Value):World:=((((((W.setCell ⟨B+1,0,none⟩ u).setCell ⟨B+1+1,0,none⟩ v).setCell ⟨B+1+1+1,0,none⟩ x).setCell ⟨B+1+1+1,1,none⟩ y).setCell ⟨B+1+1+1,2,none⟩ z).setCell ⟨B+1+1+1+1,0,none⟩ t).drew
theorem cell_set(W:World)(p r:Addr)(v:Value):p≠r→(W.setCell p v).cell? r=W.cell? r:=fun h=>World.cell?_setCell_other _ _ _ _ h
theorem Out4.set{B:Nat}{u v x y z t:Value}{W:World}(h:Out4 B u v x y z t W)(u' v' x' y' z' t' :Value):Out4 B u' v' x' y' z' t' (wr6 W B u' v' x' y' z' t'):=by
 obtain⟨h1,h2,h3,h4,h5,h6,f1,f2,f3,f4,f5,f6⟩:=h
 unfold wr6
 refine⟨?_, ?_, ?_, ?_, ?_, ?_, ?_, ?_, ?_, ?_, ?_, ?_⟩
 · rw [cell_drew_own,cell_set _ _ _ _ (by simp),cell_set _ _ _ _ (by simp),cell_set _ _ _ _ (by simp),cell_set _ _ _ _ (by simp),cell_set _ _ _ _ (by simp)]
   exact World.cell?_setCell_same' _ _ _ (by rw [h1];rfl)
 · rw [cell_drew_own,cell_set _ _ _ _ (by simp),cell_set _ _ _ _ (by simp),cell_set _ _ _ _ (by simp),cell_set _ _ _ _ (by simp)]
   exact World.cell?_setCell_same' _ _ _ (by rw [cell_set _ _ _ _ (by simp),h2];rfl)
 · rw [cell_drew_own,cell_set _ _ _ _ (by simp),cell_set _ _ _ _ (by simp),cell_set _ _ _ _ (by simp)]
   exact World.cell?_setCell_same' _ _ _ (by rw [cell_set _ _ _ _ (by simp),cell_set _ _ _ _ (by simp),h3];rfl)
 · rw [cell_drew_own,cell_set _ _ _ _ (by simp),cell_set _ _ _ _ (by simp)]
   exact World.cell?_setCell_same' _ _ _ (by rw [cell_set _ _ _ _ (by simp),cell_set _ _ _ _ (by simp),cell_set _ _ _ _ (by simp),h4];rfl)
 · rw [cell_drew_own,cell_set _ _ _ _ (by simp)]
   exact World.cell?_setCell_same' _ _ _ (by rw [cell_set _ _ _ _ (by simp),cell_set _ _ _ _ (by simp),cell_set _ _ _ _ (by simp),cell_set _ _ _ _ (by simp),h5];rfl)
 · rw [cell_drew_own]
   exact World.cell?_setCell_same' _ _ _ (by rw [cell_set _ _ _ _ (by simp),cell_set _ _ _ _ (by simp),cell_set _ _ _ _ (by simp),cell_set _ _ _ _ (by simp),cell_set _ _ _ _ (by simp),h6];rfl)
 all_goals rw [frozen_drew_own];simp only [World.frozen?_setCell];assumption
theorem out4_below{w W:World}(h:Below w.heap.size w W)(u v x y z t:Value):Below w.heap.size w (wr6 W w.heap.size u v x y z t):=
 ((((((h.setCell (p:=⟨_,_,_⟩) (by simp) _).setCell (p:=⟨_,_,_⟩) (by simp;omega) _).setCell (p:=⟨_,_,_⟩) (by simp;omega) _).setCell (p:=⟨_,_,_⟩) (by simp;omega) _).setCell (p:=⟨_,_,_⟩) (by simp;omega) _).setCell (p:=⟨_,_,_⟩) (by simp;omega) _).drew
theorem out4_keeps(W:World)(B C:Nat)(u v x y z t:Value):KeepsFrom C W (wr6 W B u v x y z t):=
 (((((((KeepsOthers.setCell _ _ _).trans (KeepsOthers.setCell _ _ _)).trans (KeepsOthers.setCell _ _ _)).trans (KeepsOthers.setCell _ _ _)).trans (KeepsOthers.setCell _ _ _)).trans (KeepsOthers.setCell _ _ _)).trans (KeepsOthers.drew _)).from _
theorem block_div{x:Nat × Hd}(hx:x.2.Ok){b:Nat × Nat}(hb:b∈blocksOf x):x.1≤b.1/64∧b.1/64<x.1+x.2.len:=by
 have:=block_within hx hb
 omega
def FindR(x:Nat × Hd)(addr:Nat)(v:Value):Prop:=
 match x.2 with
 | .small c m=> ∃k,k<slotsN c∧m.testBit k=true∧addr=64*x.1+2+k*sz c∧v= .tuple #[.int .i64 (x.1:Nat), .int .i64 (k:Nat),hdV x.2, .bool true]
 | .large _=>addr=64*x.1+2∧v= .tuple #[.int .i64 (x.1:Nat), .int .i64 0,hdV x.2, .bool true]
set_option maxRecDepth 100000 in
theorem find_at{w:World}{ha a mb q:Nat}{D:DW}{L:HL}{mem:Nat→Nat}(h:HeapAt w ha a mb D (runs L) q mem)(hl:Lay L)(hh:Heads L mem)(y:Nat × Hd)(hy:y∈L)(b:Nat × Nat)(hb:b∈blocksOf y):
 Calls Tryz.prog 116 #[.pointer (some ⟨ha,0,none⟩), .int .i64 (b.1:Nat)] w fun e w' => ∃v,e= .returned v∧FindR y b.1 v∧Below w.heap.size w w' :=by
 refine(callsIn_wide (n:=9)).1 ?_
 have hHd:=Lib.hid (fun w=>(callsIn_wide (n:=8)).2 (heads_calls ha w))
 have hyp:y.1∈runs L:=mem_runs.2 ⟨y,hy,Nat.le_refl _,by have:=y.2.len_pos;omega⟩
 have hlow:=h.sl.low _ hyp
 have hdiv:=block_div (hl.ok y hy) hb
 have hwi:=block_within (hl.ok y hy) hb
 have hap:Hid (∀x∈L,x=y∨(x.1≠b.1/64∧b.1≠64*x.1+2)):=Lib.hid (fun x hx=>by
  rcases heads_apart hl hx hy with h1|h1|h1
  · exact .inl h1
  · have:=x.2.len_pos;exact .inr ⟨by omega,by omega⟩
  · exact .inr ⟨by omega,by omega⟩)
 have HH:=Lib.hid h
 have Hl:=Lib.hid hl
 have Hh:=Lib.hid hh
 have HY:=Lib.hid hy
 have HB:=Lib.hid hb
 have hylen:y.2.len≤63:=by
  have:=hl.ok y hy
  obtain⟨p,hd⟩:=y
  cases hd with
  |small c m=>simp [Hd.len]
  |large ww=>obtain⟨h1,h2⟩:=this;simp only [Hd.len];omega
 obtain⟨addr,bsz⟩:=b
 dsimp only at*
 clear h hl hh hyp hy hb
 refine callsIn_of_wp_marks Tryz.func116 rfl trivial ?_ rfl
 simp only [Tryz.ntmps116,List.size_toArray,List.length_cons,List.length_nil,Nat.reduceAdd,Nat.reduceSub,Array.replicate_succ,Array.replicate_zero,List.push_toArray,List.append_toArray,List.nil_append,List.cons_append]
 gi_wp2_with fail
 have ho0:Out4 w.heap.size (.int .i64 0) (.int .i64 0) (.int .i64 0) (.int .i64 0) (.int .u64 0) (.bool false) (((((w.alloc (Obj.cells #[Value.int IntKind.i64 (addr:Nat)] 3)).alloc (Obj.cells #[Value.int IntKind.i64 0] 3)).alloc (Obj.cells #[Value.int IntKind.i64 0] 3)).alloc (Obj.cells #[Value.int IntKind.i64 0,Value.int IntKind.i64 0,Value.int IntKind.u64 0] 154)).alloc (Obj.cells #[Value.bool false] 4)):=by
  refine⟨?_, ?_, ?_, ?_, ?_, ?_, ?_, ?_, ?_, ?_, ?_, ?_⟩<;>go_simp
 have hn0:(((((w.alloc (Obj.cells #[Value.int IntKind.i64 (addr:Nat)] 3)).alloc (Obj.cells #[Value.int IntKind.i64 0] 3)).alloc (Obj.cells #[Value.int IntKind.i64 0] 3)).alloc (Obj.cells #[Value.int IntKind.i64 0,Value.int IntKind.i64 0,Value.int IntKind.u64 0] 154)).alloc (Obj.cells #[Value.bool false] 4)).cell? ⟨w.heap.size,0,none⟩=some (.int .i64 (addr:Nat)):=by go_simp
 have hb0:Below w.heap.size w (((((w.alloc (Obj.cells #[Value.int IntKind.i64 (addr:Nat)] 3)).alloc (Obj.cells #[Value.int IntKind.i64 0] 3)).alloc (Obj.cells #[Value.int IntKind.i64 0] 3)).alloc (Obj.cells #[Value.int IntKind.i64 0,Value.int IntKind.i64 0,Value.int IntKind.u64 0] 154)).alloc (Obj.cells #[Value.bool false] 4)):=(((((Below.refl _ w).alloc (Nat.le_refl _) _).alloc (by simp) _).alloc (by simp;omega) _).alloc (by simp;omega) _).alloc (by simp;omega) _
 have hz0:(((((w.alloc (Obj.cells #[Value.int IntKind.i64 (addr:Nat)] 3)).alloc (Obj.cells #[Value.int IntKind.i64 0] 3)).alloc (Obj.cells #[Value.int IntKind.i64 0] 3)).alloc (Obj.cells #[Value.int IntKind.i64 0,Value.int IntKind.i64 0,Value.int IntKind.u64 0] 154)).alloc (Obj.cells #[Value.bool false] 4)).heap.size≥w.heap.size+5:=by simp
 generalize (((((w.alloc (Obj.cells #[Value.int IntKind.i64 (addr:Nat)] 3)).alloc (Obj.cells #[Value.int IntKind.i64 0] 3)).alloc (Obj.cells #[Value.int IntKind.i64 0] 3)).alloc (Obj.cells #[Value.int IntKind.i64 0,Value.int IntKind.i64 0,Value.int IntKind.u64 0] 154)).alloc (Obj.cells #[Value.bool false] 4))=w1 at*
 refine(hHd.out _).mono ?_
 rintro e w2 ⟨rfl,hW2⟩
 have hb2:Below w1.heap.size w1 w2:=hW2▸(Below.refl _ w1).alloc (Nat.le_refl _) _
 have hx2:w2.cell? ⟨w1.heap.size,0,none⟩=some (.pointer (some ⟨ha,0,none⟩)):=by rw [hW2];go_simp
 have hz2:w1.heap.size+1≤w2.heap.size:=by rw [hW2];simp
 have hn2:=(hb2.cell (p:=⟨w.heap.size,0,none⟩) (cell_lt hn0)).trans hn0
 have ho2:=ho0.below hb2
 have hb2w:=hb0.trans (hb2.mono hb0.size)
 clear hW2 hb2 hn0 ho0 hb0
 gi_wp2_with fail
 have HH2:=Lib.hid (HH.out.below hb2w)
 refine wpIn_rangeFunc_ownH (α:={z:Nat × Hd // z∈L}) rfl (by omega) (gf:=106) (lb:= #[.pointer (some ⟨w1.heap.size,0,none⟩)]) rfl trivial (enters_of Tryz.func106 (by kernel_rfl) rfl)
  (heads_stops HH2.out Hl.out Hh.out hx2 (fun _=>False) (fun _ h=>h.elim) (fun h=>h) (fun h=>h) (fun h=>h) (fun _ h=>h.elim))
  (fun h k=>h.trans k) (fun W l o o' _ hl h1 h2=>KB.putObj o' hl h1 h2) (Below.refl _ _) (fun _=>rfl)
  (fun pre W=>y∉pre.map (fun(z:{z:Nat × Hd // z∈L})=>z.1)∧Below w2.heap.size w2 W)
  (fun cd pre W=>cd= .ret∧(∃u v,FindR y addr (.tuple #[u,v,hdV y.2, .bool true])∧Out4 w.heap.size u v (.int .i64 (hdK y.2:Nat)) (.int .i64 (hdN y.2:Nat)) (.int .u64 (hdW y.2:Nat)) (.bool true) W)∧Below w.heap.size w W)
  (fun s A B row hs hg hr=>⟨hs.1,ownFrom_below (Nat.le_refl _) (by omega) s A B row hs.2 hg hr⟩)
  (fun cd s A B row hs hg hr=>by
   obtain⟨h1,⟨u,v,h2,h5⟩,h6⟩:=hs
   exact⟨h1,⟨u,v,h2,h5.kept hg (fun r e=>(hr r e).2)⟩,ownFrom_below (Nat.le_refl _) (by omega) s A B row h6 hg hr⟩)
  ⟨by simp,Below.refl _ _⟩
  (fun x a' W=> ∃B,w2.heap.size≤B∧HdBox W B x.1.2∧a' ={ tmps:= #[Value.pointer (some { block:=ha,off:=0 }),Value.int IntKind.i64 (addr:Nat),undef,Value.pointer (some { block:=w.heap.size,off:=0 }),Value.pointer (some { block:=w.heap.size+1,off:=0 }),Value.pointer (some { block:=w.heap.size+1+1,off:=0 }),Value.pointer (some { block:=w.heap.size+1+1+1,off:=0 }),Value.pointer (some { block:=w.heap.size+1+1+1+1,off:=0 }),Value.int IntKind.i64 (x.1.1:Nat),Value.pointer (some { block:=B,off:=0 }),undef,undef,undef,Value.pointer (some { block:=ha,off:=0 }),Value.func (Fn.func 106) #[] #[Value.pointer (some { block:=w1.heap.size,off:=0 })],Value.int IntKind.i64 (x.1.1:Nat),hdV x.1.2,undef,undef,undef,undef,undef,undef,undef,undef,undef,undef,undef,undef,undef,undef,undef,undef,undef,undef,undef,undef,undef,undef,undef,undef,undef,undef,undef,undef,undef,undef,undef,undef,undef,undef,undef,undef,undef,undef,undef,undef,undef,undef,undef,undef,undef,undef,undef,undef,undef],defers:= [] })
  (fun x a' s A B row hs hg hr=>by
   obtain⟨B',h1,h2,h3⟩:=hs
   exact⟨B',h1,h2.kept hg (fun r e=>(hr r e).2),h3⟩)
  ?assign ?body ?done ?stop
 case assign=>
  rintro l pre ⟨⟨p,hd⟩,hxm⟩ W K ⟨hny,hi⟩ hK
  dsimp only at hK ⊢
  have hb:Below W.heap.size W (W.alloc (Obj.cells #[Value.int IntKind.i64 (hdK hd:Nat),Value.int IntKind.i64 (hdN hd:Nat),Value.int IntKind.u64 (hdW hd:Nat)] 154)):=(Below.refl _ W).alloc (Nat.le_refl _) _
  have hK2:=hK _ (W.alloc (Obj.cells #[Value.int IntKind.i64 (hdK hd:Nat),Value.int IntKind.i64 (hdN hd:Nat),Value.int IntKind.u64 (hdW hd:Nat)] 154)) ((keepsOthers_below hb).from _) (KB.below hb) ⟨hny,hi.trans (hb.mono hi.size)⟩ ⟨W.heap.size,hi.size,hdBox_new _ _ _,rfl⟩
  have hK2H:=Lib.hid hK2
  clear hK hK2 hb hi
  rw [hdV_eq] at hK2H ⊢
  gi_wp2
  exact hK2H.out
 case body=>
  rintro l pre ⟨⟨p,hd⟩,hxm⟩ a' W hl ⟨r,hr⟩ ⟨hny,hi⟩ ⟨B,hBz,hbx,rfl⟩ hlen
  dsimp only at hbx ⊢
  have hnyH:Hid (y∉pre.map (fun(z:{z:Nat × Hd // z∈L})=>z.1)):=Lib.hid hny
  have hn3:=(hi.cell (p:=⟨w.heap.size,0,none⟩) (cell_lt hn2)).trans hn2
  have ho3:=ho2.below hi
  have hok:=Hl.out.ok _ hxm
  have hapx:=hap.out _ hxm
  have hxp:p∈runs L:=mem_runs.2 ⟨(p,hd),hxm,Nat.le_refl _,by have:=hd.len_pos;simp only;omega⟩
  have hplow:=HH.out.sl.low _ hxp
  have hk:=hbx.k
  have hn:=hbx.n
  have hw:=hbx.w
  have hbw:=hb2w.trans (hi.mono hb2w.size)
  have hii:=Lib.hid hi
  have hbwH:=Lib.hid hbw
  have hBW:B<W.heap.size:=cell_lt hk
  clear hi hbw hxp hny
  by_cases hxy:(p,hd)=y
  · subst hxy
    clear hapx
    cases hd with
    |large ww=>
     have hbl:addr=64*p+2:=by
      have:=HB.out
      simp only [blocksOf,List.mem_singleton,Prod.mk.injEq] at this
      exact this.1
     have hfin:Hid (FindR (p,Hd.large ww) addr (.tuple #[.int .i64 (p:Nat), .int .i64 0,hdV (Hd.large ww), .bool true])):=Lib.hid ⟨hbl,rfl⟩
     simp only [hdK,hdN,hdW] at hk hn hw ⊢
     generalize (ww+65)/64=nn at*
     have d0:((2:Int)==2)=true:=by decide
     have d2:((addr:Int)==(p:Int)*64+2)=true:=by simp;omega
     clear hok hbl
     have hset:=Lib.hid (ho3.set (.int .i64 (p:Nat)) (.int .i64 0) (.int .i64 2) (.int .i64 (nn:Nat)) (.int .u64 (ww:Nat)) (.bool true))
     have hsb:=Lib.hid (out4_below (w:=w) hbwH.out (.int .i64 (p:Nat)) (.int .i64 0) (.int .i64 2) (.int .i64 (nn:Nat)) (.int .u64 (ww:Nat)) (.bool true))
     have hsk:=Lib.hid (out4_keeps W w.heap.size w2.heap.size (.int .i64 (p:Nat)) (.int .i64 0) (.int .i64 2) (.int .i64 (nn:Nat)) (.int .u64 (ww:Nat)) (.bool true))
     obtain⟨q1,q2,q3,q4,q5,q6,u1,u2,u3,u4,u5,u6⟩:=ho3
     gi_wp2
     gi_region_with_o (fail)
     all_goals
      gi_wp2
      exact⟨hsk.out,rfl,⟨_,_,hfin.out,hset.out⟩,hsb.out⟩
    |small cc m=>
     obtain⟨k0,hk0,hm0,had⟩: ∃k0,k0<slotsN cc∧m.testBit k0=true∧addr=64*p+2+k0*sz cc:=by
      have:=HB.out
      simp only [blocksOf,List.mem_map,Prod.mk.injEq] at this
      obtain⟨k0,h1,h2,_⟩:=this
      rw [mem_slotsOf] at h1
      exact⟨k0,h1.1,h1.2,h2.symm⟩
     have hfin:Hid (FindR (p,Hd.small cc m) addr (.tuple #[.int .i64 (p:Nat), .int .i64 (k0:Nat),hdV (Hd.small cc m), .bool true])):=Lib.hid ⟨k0,hk0,hm0,had,rfl⟩
     obtain⟨hc8,_,hmS⟩:=hok
     have hm64:Hid (m<18446744073709551616):=Lib.hid (Nat.lt_trans hmS (pow_lt64 (by have:=slots_small cc;omega)))
     have hs31:=slots_small cc
     have hroom:=slot_room cc k0 hc8 hk0
     have hsl:slotsR ((cc:Nat):Int)= .tuple #[.int .i64 (slotsN cc:Nat), .int .i64 0]:=if_pos ⟨by omega,by omega⟩
     have hS:=Lib.hid (fun w=>CallsIn.inRound l ((callsIn_wide (n:=6)).2 (slots_any (cc:Nat) w)))
     have hkH:=Lib.hid hk0
     have hmH:=Lib.hid hm0
     have hadH:=Lib.hid had
     simp only [hdK,hdN,hdW] at hk hn hw ⊢
     have d0:((1:Int)==2)=false:=by decide
     have d1:((1:Int) !=1)=false:=by decide
     have d2:((addr:Int)/64 !=(p:Int))=false:=by simp;simp only [Hd.len] at hdiv;omega
     have haB:addr<67108864:=by omega
     clear hmS had hk0 hm0 hdiv hwi
     gi_wp2_with fail
     refine(hS.out _).mono ?_
     rintro e W' ⟨rfl,hbS⟩
     rw [hsl]
     have ho4:=ho3.below hbS
     have hn4:=(hbS.cell (p:=⟨w.heap.size,0,none⟩) (cell_lt hn3)).trans hn3
     have hbx4:HdBox W' B (.small cc m):=⟨(hbS.cell (p:=⟨B,0,none⟩) hBW).trans hk,(hbS.cell (p:=⟨B,1,none⟩) hBW).trans hn,(hbS.cell (p:=⟨B,2,none⟩) hBW).trans hw⟩
     have hk4:=Lib.hid ((keepsOthers_below hbS).from w2.heap.size)
     have hbw4:=Lib.hid (hbwH.out.trans (hbS.mono hbwH.out.size))
     have hz4:=hbS.size
     clear hbS hk hn hw hn3 ho3 d0 d1 d2
     gi_wp2_with fail
     generalize hsn:slotsN cc=sn at*
     have hsnH:=Lib.hid hsn
     clear hsn
     gi_loopw [45] (fun kv wr=> ∃k:Nat,k≤k0∧kv= .int .i64 k∧Hid (Below W'.heap.size W' wr)) (fun kv _=>k0+1-(intOf kv).toNat)
     case atStart=>exact⟨0,by omega,rfl,Lib.hid (Below.refl _ _)⟩
     case round=>
      obtain⟨k,hkk,rfl,hbr⟩:=hrel
      have hkn:=hkH.out
      have hlt:k<sn:=by omega
      have ho5:=ho4.below hbr.out
      have hn5:=(hbr.out.cell (p:=⟨w.heap.size,0,none⟩) (cell_lt hn4)).trans hn4
      have hbk:=(hbr.out.cell (p:=⟨B,0,none⟩) (cell_lt hbx4.k)).trans hbx4.k
      have hbn:=(hbr.out.cell (p:=⟨B,1,none⟩) (cell_lt hbx4.n)).trans hbx4.n
      have hbm:=(hbr.out.cell (p:=⟨B,2,none⟩) (cell_lt hbx4.w)).trans hbx4.w
      simp only [hdK,hdN,hdW] at hbk hbn hbm
      have hPl:=Lib.hid (fun w=>CallsIn.inRound l ((callsIn_wide (n:=6)).2 (hplace_at p cc k hplow hc8 (by rw [hsnH.out];omega) w)))
      have hHas:=Lib.hid (fun w=>CallsIn.inRound l ((callsIn_wide (n:=6)).2 (has_at m k hm64.out (by omega) w)))
      by_cases hkk0:k<k0
      · have hne:((64*p+2+k*sz cc:Nat):Int)≠(addr:Int):=by
         have h1:=hadH.out
         have h2:(k+1)*sz cc≤k0*sz cc:=Nat.mul_le_mul_right _ hkk0
         have h3:=sz_pos cc
         rw [Nat.add_mul] at h2
         omega
        generalize 64*p+2+k*sz cc=A at*
        have d4:((A:Int)==(addr:Int))=false:=by simpa using hne
        clear hne
        have hmo:Tryz.prog.follows .mixedOrders=true:=by kernel_rfl
        have x1:=fun X:Bel wr=>X.cell hn5
        have x2:=fun X:Bel wr=>X.cell hbk
        have x3:=fun X:Bel wr=>X.cell hbn
        have x4:=fun X:Bel wr=>X.cell hbm
        gi_wp2
        refine wpIn_region_calm (by kernel_rfl) hmo (by kernel_rfl) ?_
        repeat (gi_big_quiet_step ((gi_at_call 80;exact callsIn_calm (hPl.out _))))
        refine wpQuietIn_nil ?_
        rintro _ ⟨X,rfl⟩
        have hbX:=Lib.hid (hbr.out.trans (X.h.mono hbr.out.size))
        gi_wp2
        go_roundw
        case rel=>exact⟨k+1,by omega,by go_num,hbX⟩
        case measure=>simp [intOf];omega
      · obtain rfl:k=k0:=by omega
        have hA:=hadH.out
        have d4:(((64*p+2+k*sz cc:Nat):Int)==(addr:Int))=true:=by rw [←hA];simp
        generalize 64*p+2+k*sz cc=A at*
        have d5:=hmH.out
        clear hA
        have hmo:Tryz.prog.follows .mixedOrders=true:=by kernel_rfl
        have x1:=fun X:Bel wr=>X.cell hn5
        have x2:=fun X:Bel wr=>X.cell hbk
        have x3:=fun X:Bel wr=>X.cell hbn
        have x4:=fun X:Bel wr=>X.cell hbm
        gi_wp2
        refine wpIn_region_calm (by kernel_rfl) hmo (by kernel_rfl) ?_
        repeat (gi_big_quiet_step ((first|(gi_at_call 80;exact callsIn_calm (hPl.out _))|(gi_at_call 79;exact callsIn_calm ((hHas.out _).mono fun e w' h=>⟨h.1,h.2▸Below.refl _ _⟩)))))
        refine wpQuietIn_nil ?_
        rintro _ ⟨X,rfl⟩
        have ho6:=ho5.below X.h
        have y1:=X.cell hbk
        have y2:=X.cell hbn
        have y3:=X.cell hbm
        have hkX:=Lib.hid ((keepsOthers_below (hbr.out.trans (X.h.mono hbr.out.size))).from w2.heap.size)
        have hbX:=Lib.hid (hbw4.out.trans ((hbr.out.trans (X.h.mono hbr.out.size)).mono hbw4.out.size))
        generalize X.W=W6 at*
        have hset:=Lib.hid (ho6.set (.int .i64 (p:Nat)) (.int .i64 (k:Nat)) (.int .i64 1) (.int .i64 (cc:Nat)) (.int .u64 (m:Nat)) (.bool true))
        have hsb:=Lib.hid (out4_below (w:=w) hbX.out (.int .i64 (p:Nat)) (.int .i64 (k:Nat)) (.int .i64 1) (.int .i64 (cc:Nat)) (.int .u64 (m:Nat)) (.bool true))
        have hsk:=Lib.hid (out4_keeps W6 w.heap.size w2.heap.size (.int .i64 (p:Nat)) (.int .i64 (k:Nat)) (.int .i64 1) (.int .i64 (cc:Nat)) (.int .u64 (m:Nat)) (.bool true))
        obtain⟨q1,q2,q3,q4,q5,q6,u1,u2,u3,u4,u5,u6⟩:=ho6
        clear x1 x2 x3 x4 hbk hbn hbm hn5 ho5
        gi_wp2
        gi_region_with_o (fail)
        all_goals
         gi_wp2
         exact⟨hk4.out.trans (hkX.out.trans hsk.out),rfl,⟨_,_,hfin.out,hset.out⟩,hsb.out⟩
  · have hapx2:=hapx.resolve_left hxy
    obtain⟨hp1,hp2⟩:=hapx2
    have hnyx:Hid (y∉(pre++ [(⟨(p,hd),hxm⟩:{z:Nat × Hd // z∈L})]).map (fun(z:{z:Nat × Hd // z∈L})=>z.1)):=Lib.hid (by
     have:=hnyH.out
     simp only [List.map_append,List.mem_append,not_or,List.map_cons,List.map_nil,List.mem_singleton] at this ⊢
     exact⟨this,fun e=>hxy e.symm⟩)
    clear hapx hxy hbx
    cases hd with
    |large ww=>
     simp only [hdK,hdN,hdW] at hk hn hw
     dsimp only at hp1 hp2
     have d0:((2:Int)==2)=true:=by decide
     have d1:((2:Int) !=1)=true:=by decide
     have d2:((addr:Int)==(p:Int)*64+2)=false:=by simp;omega
     clear hok
     gi_wp2
     exact⟨KeepsFrom.refl _ _,KB.refl _ _,hnyx.out,hii.out⟩
    |small cc m=>
     simp only [hdK,hdN,hdW] at hk hn hw
     dsimp only at hp1 hp2
     have d0:((1:Int)==2)=false:=by decide
     have d1:((1:Int) !=1)=false:=by decide
     have d2:((addr:Int)/64 !=(p:Int))=true:=by simp;omega
     clear hok
     gi_wp2
     exact⟨KeepsFrom.refl _ _,KB.refl _ _,hnyx.out,hii.out⟩
 case done=>
  rintro D' xs W hD hxs ⟨hny,hi⟩ hK
  exact absurd (by rw [hxs];exact HY.out) hny
 case stop=>
  rintro D' cd pre W hD ⟨t,ht⟩ ⟨rfl,⟨u,v,hf,ho⟩,hb⟩ hK
  have hbH:=Lib.hid hb
  have hfH:=Lib.hid hf
  have hset2:=ho.kept (grownBy_putObj' _ D' (.deferred none)) (fun r e=>by cases e;exact⟨_,hK,rfl⟩)
  obtain⟨u1,u2,u3,u4,u5,u6,_⟩:=hset2
  clear hb ho ht hf hdiv hwi
  gi_wp2
  refine⟨by simp, .inl ⟨_,_,rfl,run_takeDeferred hK, ?_⟩⟩
  refine⟨.tuple #[u,v,hdV y.2, .bool true], ?_, ?_⟩
  · simp [results,Tryz.f116,go_sem,u1,u2,u3,u4,u5,u6,hdV_eq]
  · exact⟨_,rfl,hfH.out,hbH.out.trans (belowK_b (w:=w) (Nat.le_refl _) _ D' _ _ (by omega) hK rfl rfl)⟩
end Go.Proofs.YthcmecokejemcaaGreatDoor
