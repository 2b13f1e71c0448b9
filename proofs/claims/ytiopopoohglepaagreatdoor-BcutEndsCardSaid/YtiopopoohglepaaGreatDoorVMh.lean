/- A part. -/
import Derived.Test.YtiopopoohglepaaGreatDoorVMb
import Derived.Test.YtiopopoohglepaaGreatDoorVMg
import Derived.Shelf.Spec.TrailingZeros
import Derived.Laws.Bits64b
import Derived.Ground.Names7Prog
import Derived.Shelf.Lay
import Derived.Shelf.SlGeneric
set_option linter.all false
set_option maxRecDepth 100000
set_option maxHeartbeats 4000000
namespace Go.Proofs.YtiopopoohglepaaGreatDoor
open Go.Proofs.Tryz
open Go.RowKit Go.Shelf
variable {A W W' w w':World}{B a base ha i k mb n q x:Nat}{Cs F F':Nat->Prop}{e:TypeId}{mem:Nat->Nat}{p:Addr}{ps:List Nat}{v:Value}{xs:List Value}
theorem Du(d:k<64):2^k<18446744073709551616:=Nat.lt_of_lt_of_le (Nat.pow_lt_pow_of_lt (by omega) d) (by decide)
theorem Js(h:x<18446744073709551616):IntKind.u64.wrap (x:Int)=(x:Int):=by rw [IntKind.wrap_u64];omega
theorem Lc(d:k<64):IntKind.u64.wrap ((2:Int)^k)=((2^k:Nat):Int):=by
 have h:=Du d;rw [show((2:Int)^k)=((2^k:Nat):Int) by push_cast;rfl,Js h]
theorem Wk(m k:Nat)(hm:m<18446744073709551616):(bits BinOp.and IntKind.u64 ((m:Int)/2^k) 1==1)=m.testBit k:=by
 have h1:((m:Int)/2^k)=((m/2^k:Nat):Int):=by push_cast;rfl
 have d:m/2^k<18446744073709551616:=Nat.lt_of_le_of_lt (Nat.div_le_self _ _) hm;rw [h1,show(1:Int)=((1:Nat):Int) from rfl,bits_and_u64_nat _ _ d (by omega),Nat.and_one_is_mod,Nat.testBit_eq_decide_div_mod_eq];by_cases h:m/2^k%2=1
 . simp [h]
 . have:m/2^k%2=0:=by omega
   simp [this]
theorem Vn(m k:Nat)(hm:m<18446744073709551616)(d:k<64):bits BinOp.or IntKind.u64 (m:Int) (IntKind.u64.wrap ((2:Int)^k))=((m ||| 2^k:Nat):Int):=by
 rw [Lc d,bits_or_u64_nat _ _ hm (Du d)]
def Yfy{P}(h:P:=by
 rw [BitVec.ofInt_natCast,BitVec.toNat_ofNat];exact Nat.mod_eq_of_lt (by omega)):=h
theorem R5(m k:Nat)(hm:m<18446744073709551616)(d:k<64)(I:m.testBit k=true):bits BinOp.andNot IntKind.u64 (m:Int) (IntKind.u64.wrap ((2:Int)^k))=((m ^^^ 2^k:Nat):Int):=by
 have hp:=Du d;rw [Lc d];have h1:(BitVec.ofInt 64 (m:Int)).toNat=m:=by
  exact Yfy
 have J:(BitVec.ofInt 64 ((2^k:Nat):Int)).toNat=2^k:=by
  exact Yfy
 have O:(BitVec.ofInt 64 (m:Int) &&& ~~~ BitVec.ofInt 64 ((2^k:Nat):Int)).toNat=m ^^^ 2^k:=by
  rw [BitVec.toNat_and,BitVec.toNat_not,h1,J];apply Nat.eq_of_testBit_eq;intro j;rw [Nat.testBit_and,show 2^64-1-2^k=2^64-(2^k+1) by omega,Nat.testBit_two_pow_sub_succ (by omega),Nat.testBit_two_pow,GC I];by_cases U:j<64
  . simp [U]
  . have:m.testBit j=false:=Nat.testBit_lt_two_pow (Nat.lt_of_lt_of_le hm (by have:=Nat.pow_le_pow_right (n:=2) (by omega) (show 64<=j by omega);exact this))
    simp [this]
 have V:m ^^^ 2^k<18446744073709551616:=Nat.xor_lt_two_pow (n:=64) hm hp
 show IntKind.u64.wrap ((BitVec.ofInt 64 (m:Int) &&& ~~~ BitVec.ofInt 64 ((2^k:Nat):Int)).toNat:Int)=_
 rw [O,Js V]
theorem TE(n:Nat)(d:n<64):IntKind.u64.wrap (IntKind.u64.wrap ((2:Int)^n)-1)=((2^n-1:Nat):Int):=by
 have h:=Du d;have h1:=Nat.one_le_two_pow (n:=n);rw [Lc d,show((2^n:Nat):Int)-1=((2^n-1:Nat):Int) by omega,Js (by omega)]
theorem Y0(m k:Nat)(hm:m<18446744073709551616)(I:k<64)(w:World):
 Calls prog 94 #[.int .u64 m, .int .i64 k] w λe w' =>e= .returned (.bool (m.testBit k))/\w=w' :=by
 have d:=Zh (Wk m k hm);go_enter func94,ntmps94;go_wp2;go_ret;rw [<-d.out];exact⟨rfl,rfl⟩
theorem Zv(m k:Nat)(hm:m<18446744073709551616)(d:k<64)(w:World):
 Calls prog 147 #[.int .u64 m, .int .i64 k] w λe w' =>e= .returned (.tuple #[.int .u64 ((m ||| 2^k:Nat):Int), .int .i64 0])/\w=w' :=by
 have I:=Zh (Vn m k hm d);go_enter func147,ntmps147;go_wp2
 go_ret2
 rw [<-I.out];exact⟨rfl,rfl⟩
theorem Wt(m k:Nat)(hm:m<18446744073709551616)(I:k<64)(d:m.testBit k=true)(w:World):
 Calls prog 149 #[.int .u64 m, .int .i64 k] w λe w' =>e= .returned (.tuple #[.int .u64 ((m ^^^ 2^k:Nat):Int), .int .i64 0])/\w=w' :=by
 have J:=Zh (R5 m k hm I d);clear d;go_enter func149,ntmps149;go_wp2
 go_ret2
 rw [<-J.out];exact⟨rfl,rfl⟩
theorem X2(n:Nat)(d:n<64)(w:World):
 Calls prog 117 #[.int .i64 n] w λe w' =>e= .returned (.int .u64 ((2^n-1:Nat):Int))/\w=w' :=by
 have I:=Zh (TE n d);go_enter func117,ntmps117;go_wp2;go_ret;rw [<-I.out];exact⟨rfl,rfl⟩
theorem Xq(m f B:Nat)(hm:m<18446744073709551616)(d:f<18446744073709551616)(w:World)(J:w.cell? ⟨B,0,none⟩=some (.int .u64 f)):
 Calls prog 176 #[.int .u64 m, .pointer (some ⟨B,0,none⟩)] w λe w' =>e= .returned (.int .u64 ((m &&& f:Nat):Int))/\w=w' :=by
 have I:=Zh (bits_and_u64_nat m f hm d);go_enter func176,ntmps176;go_wp2;go_ret;rw [<-I.out];exact⟨rfl,rfl⟩
theorem Y2(n:Nat)(I:n<64)(w:World):
 Calls prog 164 #[.int .i64 n] w λe w' =>e= .returned (.func (.func 176) #[] #[.pointer (some ⟨w.heap.size,0,none⟩)])/\w' =w.alloc (.cells #[.int .u64 ((2^n-1:Nat):Int)] 22):=by
 generalize hx:2^n-1=x at*;have d:=Zh (X2 n I);rw [hx] at d;clear hx;go_enter func164,ntmps164;go_wp2_with (go_at_call 117;refine(d _).mono ?_;rintro e w' ⟨rfl,rfl⟩);go_ret;exact⟨rfl,rfl⟩
def Tryz.Vq:Go.Shelf.Ren:=⟨fun|29=>165|n=>n,fun|22=>22|3=>3|4=>4|25=>209|54=>246|0=>0|5=>5|n=>n,fun|1=>1|n=>n⟩
theorem Tryz.Aev:Go.Proofs.Lays7.n29 Tryz.prog Tryz.Vq:={
 mixed:=by kernel_rfl
 f29:=Tryz.func165.trans (congrArg some (by kernel_rfl))
 t0:=Tryz.underlying0
 a0:=Tryz.isAgg0
 z0:=Tryz.sizeOf0
 v0:=Tryz.zeroValue0
 i0:=by kernel_rfl
 t3:=Tryz.underlying3
 a3:=Tryz.isAgg3
 z3:=Tryz.sizeOf3
 v3:=Tryz.zeroValue3
 i3:=by kernel_rfl
 t4:=Tryz.underlying4
 a4:=Tryz.isAgg4
 z4:=Tryz.sizeOf4
 v4:=Tryz.zeroValue4
 i4:=by kernel_rfl
 t5:=Tryz.underlying5
 a5:=Tryz.isAgg5
 z5:=Tryz.sizeOf5
 v5:=Tryz.zeroValue5
 i5:=by kernel_rfl
 t22:=Tryz.underlying22
 a22:=Tryz.isAgg22
 z22:=Tryz.sizeOf22
 v22:=Tryz.zeroValue22
 i22:=by kernel_rfl
 t25:=Tryz.underlying209
 a25:=Tryz.isAgg209
 z25:=Tryz.sizeOf209
 v25:=Tryz.zeroValue209
 i25:=by kernel_rfl
 t54:=Tryz.underlying246
 a54:=Tryz.isAgg246
 z54:=Tryz.sizeOf246
 g1:=by kernel_rfl }
def Hc(w:World):Prop:=TabAt 1 Lib.deBruijn64tab w
theorem Hc.below(h:Hc w)(d:Below B w w')(I:1<B):Hc w' :=λj J=>(d.cell (p:=⟨1,j,none⟩) I).trans (h j J)
theorem Aav(x:Nat)(hx:x<18446744073709551616)(w:World)(d:Hc w):
 Calls prog 165 #[.int .u64 x] w λe w' =>e= .returned (.int .i64 (Lib.ctz 64 x:Nat))/\w' =w:=Any7.bits_TrailingZeros64 Tryz.Aev x hx w (λ_=>d)
theorem Pm(m:Nat)(hm:m<18446744073709551616)(j:Nat):(18446744073709551615-m).testBit j=(decide (j<64)&& !m.testBit j):=by
 rw [show 18446744073709551615-m=2^64-(m+1) by omega,Nat.testBit_two_pow_sub_succ (by omega)]
def SZ(m n:Nat)(r:Int):Prop:=(r= -1/\ ∀k,k<n->m.testBit k=true)\/ ∃k,k<n/\r=(k:Nat)/\m.testBit k=false
theorem Xw(m:Nat)(hm:m<18446744073709551616):bits BinOp.xor IntKind.u64 IntKind.u64.max (m:Int)=((18446744073709551615-m:Nat):Int):=by
 rw [show IntKind.u64.max=((18446744073709551615:Nat):Int) from rfl,bits_xor_u64_nat _ _ (by omega) hm]
 congr 1
 apply Nat.eq_of_testBit_eq;intro j;rw [Pm m hm,Nat.testBit_xor,show 18446744073709551615=2^64-1 by rfl,Nat.testBit_two_pow_sub_one];by_cases d:j<64
 . simp [d]
 . have:m.testBit j=false:=Nat.testBit_lt_two_pow (Nat.lt_of_lt_of_le hm (by have:=Nat.pow_le_pow_right (n:=2) (by omega) (show 64<=j by omega);exact this))
   simp [d,this]
theorem TF(m n:Nat)(hm:m<18446744073709551616)(I:n<64)(j:Nat):((18446744073709551615-m) &&& (2^n-1)).testBit j=(decide (j<n)&& !m.testBit j):=by
 rw [Nat.testBit_and,Pm m hm,Nat.testBit_two_pow_sub_one];by_cases d:j<n
 . simp [d,show j<64 by omega]
 . simp [d]
theorem Ws(m n:Nat)(hm:m<18446744073709551616)(J:n<64)(x:Nat)(hx:x=(18446744073709551615-m) &&& (2^n-1)):
 (x=0->SZ m n (-1))/\(x≠0->SZ m n (Lib.ctz 64 x:Nat)):=by
 have I:=TF m n hm J;rw [<-hx] at I;constructor
 . intro h0
   refine .inl ⟨rfl,λk O=> ?_⟩;have:=I k;rw [h0,Nat.zero_testBit,decide_eq_true O] at this
   simpa using this.symm
 . intro h0
   have U:x<2^64:=(by rw [hx];exact Nat.and_lt_two_pow _ (Nat.lt_of_le_of_lt (Nat.sub_le _ _) (Du J)));obtain⟨V,Z⟩:=Lib.lowest_bit 64 x h0 U;have d:x.testBit (Lib.ctz 64 x)=true:=by
    have:=congrArg (λy=>y.testBit (Lib.ctz 64 x)) V;simp only [Nat.testBit_and,Nat.testBit_two_pow_self] at this
    cases hh:x.testBit (Lib.ctz 64 x) with
    |true=>rfl
    |false=>rw [hh] at this;simp at this
   rw [I] at d;simp only [Bool.and_eq_true,decide_eq_true_eq,Bool.not_eq_true'] at d;exact .inr ⟨_,d.1,rfl,d.2⟩
theorem XF(m n:Nat)(hm:m<18446744073709551616)(I:n<64)(w:World)(O:Hc w)(hg:1<w.heap.size):
 Calls prog 146 #[.int .u64 m, .int .i64 n] w λe w' => ∃r,e= .returned (.int .i64 r)/\SZ m n r/\w' =w.alloc (.cells #[.int .u64 ((2^n-1:Nat):Int)] 22):=by
 have hp:=Nat.lt_of_le_of_lt (Nat.sub_le _ 1) (Du I);have U:=Ws m n hm I _ rfl;have af:(18446744073709551615-m) &&& (2^n-1)<18446744073709551616:=Nat.and_lt_two_pow (n:=64) _ hp;have V:=Zh (Y2 n I);generalize ag:2^n-1=f at*;have Z:=Zh (λw' h=>Xq (18446744073709551615-m) f w.heap.size (by omega) hp w' h);generalize ah:(18446744073709551615-m) &&& f=x at*;have aa:Hc (w.alloc (.cells #[.int .u64 f] 22)):=O.below ((Below.refl _ w).alloc (Nat.le_refl _) _) hg;have ai:=Zh (Aav x af _ aa);have ab:=Zh U;clear U ah ag O aa;have d:=Zh (Xw m hm);have ac:(if IntKind.u64.signed=true then-1 else IntKind.u64.max)=IntKind.u64.max:=rfl;have ae:(w.alloc (.cells #[.int .u64 f] 22)).cell? ⟨w.heap.size,0,none⟩=some (.int .u64 f):=by go_simp
 by_cases h0:x=0
 . have aj:((x:Int)==0)=true:=by simp [h0]
   have J:=Zh h0;clear h0;go_enter func146,ntmps146;go_wp2_with (first|(go_at_call 164;refine(V _).mono ?_;rintro e w' ⟨rfl,rfl⟩)|(go_at_call 176;(first|rw [d.out]|rw [ac,d.out]);refine(Z _ ae).mono ?_;rintro e w' ⟨rfl,rfl⟩))
   go_ret;exact⟨_,rfl,ab.1 J,rfl⟩
 . have aj:((x:Int)==0)=false:=by simp;omega
   have J:=Zh h0;clear h0;go_enter func146,ntmps146;go_wp2_with (first|(go_at_call 164;refine(V _).mono ?_;rintro e w' ⟨rfl,rfl⟩)|(go_at_call 176;(first|rw [d.out]|rw [ac,d.out]);refine(Z _ ae).mono ?_;rintro e w' ⟨rfl,rfl⟩)|(go_at_call 165;refine ai.mono ?_;rintro e w' ⟨rfl,rfl⟩))
   go_ret;exact⟨_,rfl,ab.2 J,rfl⟩
structure Ad(w:World)(F:Nat->Prop)(w' :World)(F' :Nat->Prop):Prop where
 os:w'.os=w.os
 tape:w'.tape=w.tape
 output:w'.output=w.output
 size:w.heap.size<=w'.heap.size
 keep: ∀k,k<w.heap.size-> ¬F k->w'.heap[k]? =w.heap[k]?
 grow: ∀k,F' k->F k\/w.heap.size<=k
theorem Ad.refl(w:World)(F:Nat->Prop):Ad w F w F:=⟨rfl,rfl,rfl,Nat.le_refl _,λ_ _ _=>rfl,λ_ h=> .inl h⟩
theorem Ad.trans{w1 w2:World}{d I:Nat->Prop}(h:Ad w F w1 d)(k:Ad w1 d w2 I):Ad w F w2 I where
 os:=k.os.trans h.os
 tape:=k.tape.trans h.tape
 output:=k.output.trans h.output
 size:=Nat.le_trans h.size k.size
 keep:=λi hi J=>by
  refine(k.keep i (Nat.lt_of_lt_of_le hi h.size) (λO=> ?_)).trans (h.keep i hi J);rcases h.grow i O with h1|h1
  . exact J h1
  . omega
 grow:=λi hi=>by
  rcases k.grow i hi with h1|h1
  . exact h.grow i h1
  . exact .inr (Nat.le_trans h.size h1)
theorem Ad.below(h:Below w.heap.size w w'):Ad w F w' F:=⟨h.os,h.tape,h.output,h.size,λk d _=>h.block k d,λ_ h=> .inl h⟩
theorem Ad.F5(h:Ad w F w' F')(J:B<=w.heap.size)(d: ∀k,F k->B<=k):Below B w w' :=
 ⟨h.os,h.tape,h.output,h.size,λk O=>h.keep k (by omega) (λI=>by have:=d k I;omega)⟩
theorem Ad.cell(h:Ad w F w' F')(d:w.cell? p=some v)(I: ¬F p.block):w'.cell? p=some v:=
 (World.cell?_of_block (h.keep p.block (Al d) I)).trans d
theorem Ad.not(h:Ad w F w' F'){b:Nat}(I:b<w.heap.size)(d: ¬F b): ¬F' b:=λhh=>by
 rcases h.grow b hh with h1|h1
 . exact d h1
 . omega
theorem Db{v:Nat}{D:DW}(h:Xf w D x v w'):Ad w (Bo a mb D) w' (Bo a mb D):=by
 obtain⟨g,hg,rfl⟩:=h;exact⟨rfl,rfl,rfl,by simp,λk I d=>Below.heap_setCell _ _ _ k (λe=>d (.inr (.inr ⟨x/64,by subst e;exact hg⟩))),λ_ h=> .inl h⟩
theorem RU{D D' :DW}(h:Gr w D w' D' mb):Ad w (Bo a mb D) w' (Bo a mb D'):=
 ⟨h.1.os,h.1.tape,h.1.output,h.1.size,λk d I=>h.1.block k d (λe=>I (.inr (.inl (by cases e;rfl)))),λk d=>by
  rcases d with rfl|rfl|⟨p,hp⟩
  . exact .inl (.inl rfl)
  . exact .inl (.inr (.inl rfl))
  . rcases h.2 p k hp with h1|h1
    . exact .inl (.inr (.inr ⟨p,h1⟩))
    . exact .inr h1⟩
theorem Sj{D D' :DW}(h:Sh w D w' D' mb):Ad w (Bo a mb D) w' (Bo a mb D'):=by
 have hg:=h.1.grown;exact⟨hg.os,hg.tape,hg.output,hg.size,λk d I=>hg.block k d (λe=>I (.inr (.inl (by cases e;rfl)))),λk d=>by
  rcases d with rfl|rfl|⟨p,hp⟩
  . exact .inl (.inl rfl)
  . exact .inl (.inr (.inl rfl))
  . exact .inl (.inr (.inr ⟨p,h.2 p k hp⟩))⟩
structure BE(w:World)(ha a mb:Nat)(D:DW)(ps:List Nat)(q:Nat)(mem:Nat->Nat):Prop where
 hs:w.cell? ⟨ha,0,none⟩=some (.pointer (some ⟨a,0,none⟩))
 sl:AW w a mb D ps q mem
 off: ¬Bo a mb D ha
 tab:Hc w
 Ft: ∀b,Bo a mb D b->1<b
theorem BE.below{D:DW}(h:BE w ha a mb D ps q mem)(d:Below w.heap.size w w'):BE w' ha a mb D ps q mem where
 hs:=(d.cell (p:=⟨ha,0,none⟩) (Al h.hs)).trans h.hs
 sl:=h.sl.below d (λb I=>h.sl.lt I)
 off:=h.off
 tab:=h.tab.below d (Nat.lt_trans (h.Ft a (.inl rfl)) (h.sl.lt (.inl rfl)))
 Ft:=h.Ft
theorem BE.Ar{D D' :DW}{I:List Nat}{mem':Nat->Nat}(h:BE w ha a mb D ps q mem)(hs:AW w' a mb D' I q mem')(d:Ad w (Bo a mb D) w' (Bo a mb D')):BE w' ha a mb D' I q mem' where
 hs:=(World.cell?_of_block (a:=⟨ha,0,none⟩) (d.keep ha (Al h.hs) h.off)).trans h.hs
 sl:=hs
 off:=λhh=>by
  rcases d.grow ha hh with h1|h1
  . exact h.off h1
  . have:=Al h.hs;simp only at this;omega
 tab:=λj J=>by
  have O:=Nat.lt_trans (h.Ft a (.inl rfl)) (h.sl.lt (.inl rfl));exact(World.cell?_of_block (a:=⟨1,j,none⟩) (d.keep _ O (λU=>Nat.lt_irrefl _ (h.Ft _ U)))).trans (h.tab j J)
 Ft:=λb V=>by
  rcases d.grow b V with h1|h1
  . exact h.Ft b h1
  . exact Nat.lt_of_lt_of_le (Nat.lt_trans (h.Ft a (.inl rfl)) (h.sl.lt (.inl rfl))) h1
def IA:Hd->Value
 | .small c m=> .agg #[.int .i64 1, .int .i64 c, .int .u64 m]
 | .Bz w=> .agg #[.int .i64 2, .int .i64 ((w+65)/64:Nat), .int .u64 w]
theorem YD(k n:Nat)(I:k<256)(d:k+256*n<18446744073709551616):bits BinOp.and IntKind.u64 ((k+256*n:Nat):Int) 255=(k:Nat):=by
 rw [show(255:Int)=((255:Nat):Int) from rfl,bits_and_u64_nat _ _ d (by omega),show 255=2^8-1 from rfl,Nat.and_two_pow_sub_one_eq_mod];omega
theorem AW.alloc{D:DW}(h:AW w a mb D ps q mem)(o:Obj):AW (w.alloc o) a mb D ps q mem:=
 h.below ((Below.refl _ w).alloc (Nat.le_refl _) o) (λb d=>h.lt d)
theorem HC{D:DW}(h:BE w ha a mb D ps q mem)(p k n m:Nat)(hp:p∈ps)(O:k<256)(aa:n<1000000)(h1:mem (64*p)=k+256*n)(J:mem (64*p+1)=m):
 Calls prog 142 #[.pointer (some ⟨ha,0,none⟩), .int .i64 p] w λe w' =>e= .returned (.agg #[.int .i64 k, .int .i64 n, .int .u64 m])/\Below w.heap.size w w' :=by
 have ab:=h.sl.low p hp;have d:=λo=>ND (h.sl.alloc o) (64*p) (by rw [show 64*p/64=p by omega];exact hp)
 have I:=λo=>ND (h.sl.alloc o) (64*p+1) (by rw [show(64*p+1)/64=p by omega];exact hp)
 rw [h1] at d;rw [J] at I;have U:=Zh (YD k n O (by omega));have V:=Zh d;have Z:=Zh I;have hs:=h.hs;have ac:ha<w.heap.size:=Al hs;clear d I h h1 J;generalize hx:k+256*n=x at*;have ae:(x:Int)/256=(n:Nat):=by omega
 go_enter func142,ntmps142;go_wp2_with (go_at_call 53;first|(rw [show((p:Int)*64+1)=((64*p+1:Nat):Int) by push_cast;omega];refine(Z _).mono ?_;rintro e w' ⟨rfl,rfl⟩)|(rw [show((p:Int)*64)=((64*p:Nat):Int) by push_cast;omega];refine(V _).mono ?_;rintro e w' ⟨rfl,rfl⟩))
 rw [U.out,show wrap64 (k:Int)=(k:Nat) by unfold wrap64;omega];refine bodyPost_ret_by (v:= .agg #[.int .i64 k, .int .i64 n, .int .u64 m]) ?_ rfl ⟨rfl,(Below.refl _ w).alloc (Nat.le_refl _) _⟩;simp [results,f142,go_sem]
theorem YE(k n:Nat)(d:k<256):k ||| 256*n=k+256*n:=by
 have:=Nat.shiftLeft_add_eq_or_of_lt (i:=8) (b:=k) (by omega) n;rw [Nat.shiftLeft_eq] at this;rw [Nat.or_comm,show 256*n=n*2^8 by omega,<-this];omega
theorem Aae(k n:Nat)(d:k<256)(I:n<1000000):bits BinOp.or IntKind.u64 (k:Int) ((256*n:Nat):Int)=((k+256*n:Nat):Int):=by
 rw [bits_or_u64_nat _ _ (by omega) (by omega),YE k n d]
theorem KT{D:DW}(h:BE w ha a mb D ps q mem)(p k n m:Nat)(hp:p∈ps)(ah:k<256)(ai:n<1000000)(hm:m<18446744073709551616):
 Calls prog 100 #[.pointer (some ⟨ha,0,none⟩), .int .i64 p, .agg #[.int .i64 k, .int .i64 n, .int .u64 m]] w λe w' =>e= .returned (.tuple #[])/\BE w' ha a mb D ps q (B5 (B5 mem (64*p) (k+256*n)) (64*p+1) m)/\Ad w (Bo a mb D) w' (Bo a mb D):=by
 have ax:=h.sl.low p hp;have hs:=h.hs;have aj:=Zh (Aae k n ah ai);have J:=Zh h;clear h;go_enter func100,ntmps100;go_wp2_with fail;have O:=Zh (J.below ((Below.refl _ w).alloc (Nat.le_refl _) (Obj.cells #[Value.int IntKind.i64 k,Value.int IntKind.i64 n,Value.int IntKind.u64 m] 165)));have al:(w.alloc (Obj.cells #[Value.int IntKind.i64 k,Value.int IntKind.i64 n,Value.int IntKind.u64 m] 165)).cell? ⟨w.heap.size,0,none⟩=some (.int .i64 k):=by go_simp
 have am:(w.alloc (Obj.cells #[Value.int IntKind.i64 k,Value.int IntKind.i64 n,Value.int IntKind.u64 m] 165)).cell? ⟨w.heap.size,1,none⟩=some (.int .i64 n):=by go_simp
 have U:(w.alloc (Obj.cells #[Value.int IntKind.i64 k,Value.int IntKind.i64 n,Value.int IntKind.u64 m] 165)).cell? ⟨w.heap.size,2,none⟩=some (.int .u64 m):=by go_simp
 have V:Ad w (Bo a mb D) (w.alloc (Obj.cells #[Value.int IntKind.i64 k,Value.int IntKind.i64 n,Value.int IntKind.u64 m] 165)) (Bo a mb D):= .below ((Below.refl _ w).alloc (Nat.le_refl _) _);have an: ¬Bo a mb D w.heap.size:=λao=>Nat.lt_irrefl _ (J.sl.lt ao)
 generalize (w.alloc (Obj.cells #[Value.int IntKind.i64 k,Value.int IntKind.i64 n,Value.int IntKind.u64 m] 165))=W at*;have aq:=O.hs;refine Ck 14 (by kernel_rfl) (by kernel_rfl) ?_;simp only [List.take_succ_cons,List.take_zero,List.drop_succ_cons,List.drop_zero]
 repeat (go_big_quiet_step (fail))
 refine wpQuiet_nil ?_;rintro _ ⟨Z,rfl⟩;go_wp2_with fail;have aa:=Zh (O.below (AL W Z));rw [show((p:Int)*64)=((64*p:Nat):Int) by push_cast;omega,show((n:Int)*256)=((256*n:Nat):Int) by push_cast;omega,aj.out];refine(Jm aa.sl (64*p) (k+256*n) (by rw [show 64*p/64=p by omega];exact hp) (by omega)).mono ?_;rintro e w1 ⟨rfl,d,ab⟩;have ac:=Zh (aa.Ar ab (Db d));have ay :=(Db (a:=a) (mb:=mb) d).cell (p:=⟨w.heap.size,2,none⟩) (v:= .int .u64 m) U an;have az:=ac.hs;have ar:=Zh ((V.trans (.below (AL W Z))).trans (Db (a:=a) (mb:=mb) d));clear V d ab al am U aq;go_wp2_with fail;refine Ck 9 (by kernel_rfl) (by kernel_rfl) ?_;simp only [List.take_succ_cons,List.take_zero,List.drop_succ_cons,List.drop_zero]
 repeat (go_big_quiet_step (fail))
 refine wpQuiet_nil ?_;rintro _ ⟨ae,rfl⟩;go_wp2_with fail;have af:=Zh (ac.below (AL w1 ae));rw [show((p:Int)*64+1)=((64*p+1:Nat):Int) by push_cast;omega];refine(Jm af.sl (64*p+1) m (by rw [show(64*p+1)/64=p by omega];exact hp) hm).mono ?_;rintro e w2 ⟨rfl,I,ag⟩;have au:=Zh (af.Ar ag (Db I));have aw:=Zh ((ar.trans (.below (AL w1 ae))).trans (Db (a:=a) (mb:=mb) I));clear I ag;go_wp2_with fail;go_end0;exact⟨rfl,au,aw⟩
theorem ED{D:DW}(h:BE w ha a mb D ps q mem):Calls prog 91 #[.pointer (some ⟨ha,0,none⟩)] w λe w' =>e= .returned (.bool false)/\w=w' :=by
 have hs:=h.hs;clear h;go_enter func91,ntmps91;go_wp2;go_ret;exact⟨rfl,rfl⟩
theorem Nw(p c k:Nat)(hp:p<524288)(O:c<8)(I:k<AX c)(w:World):
 Calls prog 95 #[.int .i64 p, .int .i64 c, .int .i64 k] w λe w' =>e= .returned (.int .i64 (64*p+2+k*sz c:Nat))/\Below w.heap.size w w' :=by
 have U:=E9 c k O I;have d:=Uy (c:Nat) (k:Nat) w (by omega) (by have:=CF c;omega);rw [show Jh (c:Int) (k:Int)= .tuple #[.int .i64 (2+k*sz c:Nat), .int .i64 0] by
  unfold Jh;rw [if_pos ⟨by omega,by omega,by simpa using I⟩];simp] at d
 have V:=Zh d;clear d;generalize hx:2+k*sz c=x at*;have J:64*p+2+k*sz c=64*p+x:=by omega
 rw [J];have aa:x<=64:=by omega
 clear J hx U;go_enter func95,ntmps95;go_wp2_with (go_at_call 144;refine V.mono ?_;rintro e w' ⟨rfl,Z⟩);go_ret;exact⟨by rw [show((64*p+x:Nat):Int)=(p:Int)*64+(x:Nat) by push_cast;omega];rfl,Z⟩
def E3(mem:Nat->Nat)(x n:Nat):Nat->Nat:=λi=>if x<=i/\i<x+n then 0 else mem i
theorem Q9(mem:Nat->Nat)(x:Nat):E3 mem x 0=mem:=by funext i;unfold E3;rw [if_neg (by omega)]
theorem RS(mem:Nat->Nat)(x n:Nat):B5 (E3 mem x n) (x+n) 0=E3 mem x (n+1):=by
 funext i
 unfold B5 E3;by_cases h1:i=x+n
 . rw [if_pos h1,if_pos (by omega)]
 . rw [if_neg h1]
   by_cases d:x<=i/\i<x+n
   . rw [if_pos d,if_pos (by omega)]
   . rw [if_neg d,if_neg (by omega)]
def Ycu{P}(h:P:=by
 go_roundw
 case rel=>exact⟨k+1,by omega,by go_num,ac,I⟩
 case measure=>simp [intOf];omega):=h
theorem Tv{D:DW}(h:BE w ha a mb D ps q mem)(x n:Nat)(ab:n<=4096)(hp: ∀k,k<n->(x+k)/64∈ps):
 Calls prog 148 #[.pointer (some ⟨ha,0,none⟩), .int .i64 x, .int .i64 n] w λe w' =>e= .returned (.tuple #[])/\BE w' ha a mb D ps q (E3 mem x n)/\Ad w (Bo a mb D) w' (Bo a mb D):=by
 have V:=Zh h;clear h;go_enter func148,ntmps148;go_wp2
 go_loopw [8] (λd wr=> ∃k:Nat,k<=n/\d= .int .i64 k/\Hid (BE wr ha a mb D ps q (E3 mem x k))/\Hid (Ad w (Bo a mb D) wr (Bo a mb D))) (λd _=>n-(intOf d).toNat)
 case atStart=>exact⟨0,by omega,rfl,by rw [Q9];exact V,Zh (.refl _ _)⟩
 case round=>
  obtain⟨k,ae,rfl,H,T⟩:=hrel;by_cases Z:k<n
  . have J:=hp k Z
    have af:=H.sl.low _ J;have hs:=H.hs;have aa:=Zh J;clear J;go_wp2_with (go_at_call 58;rw [show((x:Int)+(k:Int))=((x+k:Nat):Int) by push_cast;rfl,show(0:Int)=((0:Nat):Int) from rfl];refine(Jm H.sl (x+k) 0 aa (by omega)).mono ?_;rintro e w1 ⟨rfl,O,U⟩);rw [RS] at U;have ac:=Zh (H.Ar U (Db O));have I:=Zh (T.trans (Db (a:=a) (mb:=mb) O));clear U O;exact Ycu
  . obtain rfl:k=n:=by omega
    go_wp2;go_end0;exact⟨rfl,H,T⟩
attribute [local go_sem] Oper.semAt_some
structure KB(Cs:Nat->Prop)(A B:World):Prop where
 size:A.heap.size<=B.heap.size
 same: ∀(k:Nat) (o:Obj),A.heap[k]? =some o->(o.isCells=true\/o.isWalk=true)-> ¬Cs k->B.heap[k]? =some o
theorem KB.refl(Cs:Nat->Prop)(A:World):KB Cs A A:=⟨Nat.le_refl _,λ_ _ h _ _=>h⟩
theorem KB.trans{B C:World}(h:KB Cs A B)(k:KB Cs B C):KB Cs A C:=⟨Nat.le_trans h.size k.size,λi o hi d I=>k.same i o (h.same i o hi d I) d I⟩
theorem KB.below{B:World}(h:Below A.heap.size A B):KB Cs A B:=⟨h.size,λk o d _ _=>(h.block k (Array.getElem?_eq_some_iff.1 d).1).trans d⟩
theorem KB.putObj{l:Nat}{o:Obj}(J :Obj)(h:W.heap[l]? =some o)(h1:o.isCells=false)(O:o.isWalk=false):KB Cs W (W.putObj l J):=by
 have hg:=grownBy_putObj' W l J;refine⟨hg.size,λk u I hu _=> ?_⟩;have U:k≠l:=by
  rintro rfl;rw [h] at I
  cases I
  rcases hu with d|d
  . rw [h1] at d;cases d
  . rw [O] at d;cases d
 exact(hg.block k (Array.getElem?_eq_some_iff.1 I).1 (by simpa using U)).trans I
theorem KB.setCell(h:Cs p.block)(v:Value):KB Cs W (W.setCell p v):=
 ⟨by simp,λk o d _ I=>(Below.heap_setCell W p v k (λe=>I (e▸h))).trans d⟩
theorem Hn(h:w.cell? p=some v): ∃o,w.heap[p.block]? =some o/\o.isCells=true:=by
 unfold World.cell? at h
 cases d:w.heap[p.block]? with
 |none=>rw [d] at h;simp at h
 |some o=>
  rw [d] at h
  cases o<;>first|exact⟨_,rfl,rfl⟩|(simp at h)
theorem KB.cell{B:World}(h:KB Cs A B)(d:A.cell? p=some v)(J: ¬Cs p.block):B.cell? p=some v:=by
 obtain⟨o,I,h1⟩:=Hn d;exact(World.cell?_of_block (w:=A) (w' :=B) ((h.same _ o I (.inl h1) J).trans I.symm)).trans d
theorem BE.kb{D:DW}(h:BE w ha a mb D ps q mem)(I:KB Cs w w')(h1: ∀k,Cs k-> ¬Bo a mb D k)(V: ¬Cs ha)(Z: ¬Cs 1):BE w' ha a mb D ps q mem where
 hs:=I.cell h.hs V
 sl:=h.sl.same λb U=>by
  have J: ¬Cs b:=λaa=>h1 b aa U
  rcases U with rfl|rfl|⟨p,hp⟩
  . obtain⟨o,d,O⟩:=Hn h.sl.cq
    exact(I.same _ o d (.inl O) J).trans d.symm
  . obtain⟨es,clock,d,_⟩:=h.sl.own
    exact(I.same _ _ d (.inr rfl) J).trans d.symm
  . obtain⟨o,d,O⟩:=Hn (h.sl.words p b hp 0 (by omega)).1
    exact(I.same _ o d (.inl O) J).trans d.symm
 off:=h.off
 tab:=λj ab=>I.cell (h.tab j ab) Z
 Ft:=h.Ft
theorem Dr{β:Type}{I:β->World->Prop}(J:AbidesFrom B I){s:β}(h:I s W)(d:Below W.heap.size W W'):I s W' :=
 J s W W' none h ⟨d.os,d.tape,d.output,d.size,λk O _=>d.block k O⟩ (λr e=>by cases e)
theorem Qe(ha:Nat)(w:World):Calls prog 92 #[.pointer (some ⟨ha,0,none⟩)] w λe w' =>e= .returned (.func (.func 141) #[] #[.pointer (some ⟨w.heap.size,0,none⟩)])/\w' =w.alloc (.cells #[.pointer (some ⟨ha,0,none⟩)] 71):=by
 go_enter func92,ntmps92;go_wp2;go_ret;exact⟨rfl,rfl⟩
def O3(L:HL)(pre:HL)(i next:Nat):Prop:= ∃rest cont,L=pre++rest/\(runs L).drop i=cont++runs rest/\(∀p∈cont,p<next)/\ ∀x∈rest,next<=x.1
theorem LW(L:HL):O3 L [] 0 0:=⟨L,[],rfl,by simp,by simp,by simp⟩
theorem To(x:Nat × Hd)(t:HL):runs (x::t)=x.1::(List.range' (x.1+1) (x.2.len-1)++runs t):=by
 have h:=x.2.CZ;obtain⟨n,d⟩: ∃n,x.2.len=n+1:=⟨x.2.len-1,by omega⟩;simp [runs,d,List.range'_succ]
def Yfp{P}(h:P:=by
 have:=congrArg (λl=>l.drop 1) hd
 simpa [List.drop_drop,Nat.add_comm] using this):=h
theorem LV{L pre:HL}{next:Nat}(V:Lay L)(h:O3 L pre i next):
 (∃p,(runs L)[i]? =some p/\p<next/\O3 L pre (i+1) next)\/
 (∃x rest,L=pre++x::rest/\(runs L)[i]? =some x.1/\next<=x.1/\ ∀next',(next' =x.1+x.2.len\/(next' =next/\x.2.len=1))->O3 L (pre++ [x]) (i+1) next')\/
 (L=pre/\(runs L).length<=i):=by
 obtain⟨rest,cont,rfl,hd,I,d⟩:=h
 cases cont with
 |cons c cont=>
  refine .inl ⟨c, ?_,I c List.mem_cons_self,rest,cont,rfl, ?_,λp hp=>I p (List.mem_cons_of_mem _ hp),d⟩
  . have:=congrArg (λl=>l[0]?) hd
    simpa using this
  . exact Yfp
 |nil=>
  cases rest with
  |nil=>
   refine .inr (.inr ⟨by simp, ?_⟩);have Z:(runs (pre++ [])).length-i=0:=(by rw [<-List.length_drop,hd];simp [runs]);omega
  |cons x rest=>
   rw [List.nil_append,To] at hd;refine .inr (.inl ⟨x,rest,rfl, ?_,d x List.mem_cons_self,λnext' J=> ?_⟩)
   . have:=congrArg (λl=>l[0]?) hd
     simpa using this
   . have O:=V.Dn
     rw [List.pairwise_append,List.pairwise_cons] at O;refine⟨rest,List.range' (x.1+1) (x.2.len-1),by simp, ?_, ?_, ?_⟩
     . exact Yfp
     . intro p hp
       rw [List.mem_range'_1] at hp;have:=x.2.CZ;rcases J with rfl|⟨_,h1⟩<;>omega
     . intro y U
       have h1:=O.2.1.1 y U;have Z:=d y (List.mem_cons_of_mem _ U);rcases J with rfl|⟨rfl,_⟩<;>omega
theorem Eb(h:w.ownsRow base e 1 v n xs){u:Value}(hi:xs[i]? =some u): ∃g c,v= .slice (some ⟨g,0,none⟩) n c/\base<=g/\g<w.heap.size/\w.cell? ⟨g,i,none⟩=some u:=by
 have d :=h;rcases h.2 with ⟨rfl,h0⟩|⟨g,cap,cur,rfl,I,_⟩
 . have:=h.1
   rw [h0] at this;have J:xs= []:=List.eq_nil_of_length_eq_zero (by omega);rw [J] at hi;simp at hi
 . have:=d.cells (g:=g) rfl i u hi
   refine⟨g,cap,rfl,I,(d.lt g rfl).2, ?_⟩;by_cases h0:i=0
   . subst h0;simpa [Addr.add] using this
   . simpa [Addr.add,h0] using this
def Yev{P}(h:P:=by
 rcases h.2 with ⟨rfl,rfl⟩|⟨g,cap,cur,rfl,_⟩
 . exact⟨none,0,rfl⟩
 . exact⟨_,_,rfl⟩):=h
theorem Bu(h:w.ownsRow base e 1 v n xs): ∃A c,v= .slice A n c:=by
 exact Yev
structure EC(w:World)(ha a mb:Nat)(D:DW)(L:HL)(q:Nat)(mem:Nat->Nat)(B base:Nat)(v:Value)(W:World):Prop where
 hp:BE W ha a mb D (runs L) q mem
 box:W.cell? ⟨B,0,none⟩=some (.pointer (some ⟨ha,0,none⟩))
 row:W.ownsRow base 3 1 v (runs L).length ((runs L).map λp:Nat=>Value.int .i64 (p:Int))
theorem Fy(h:w.ownsRow base e 1 v n xs)(d:KB Cs w w')(I: ∀k,Cs k->k<base):w'.ownsRow base e 1 v n xs:=by
 refine⟨h.1, ?_⟩;rcases h.2 with h1|⟨g,cap,cur,h1,J,O,U⟩
 . exact .inl h1
 . exact .inr ⟨g,cap,cur,h1,J,d.same g _ O (.inl rfl) (λhh=>by have:=I g hh;omega),U⟩
theorem EC.kb{D:DW}{L:HL}(h:EC w ha a mb D L q mem B base v W)(d:KB Cs W W')
 (h1: ∀k,Cs k-> ¬Bo a mb D k) (I: ¬Cs ha) (J: ¬Cs 1) (O: ¬Cs B) (U: ∀k,Cs k->k<base):EC w ha a mb D L q mem B base v W' :=
 ⟨h.hp.kb d h1 I J,d.cell h.box O,Fy h.row d U⟩
theorem EC.below{D:DW}{L:HL}(h:EC w ha a mb D L q mem B base v W)(d:Below W.heap.size W W'):EC w ha a mb D L q mem B base v W' :=
 h.kb (Cs:=λ_=>False) (KB.below d) (λ_ h=>h.elim) (λh=>h) (λh=>h) (λh=>h) (λ_ h=>h.elim)
theorem H3{D:DW}{L:HL}(h:BE w ha a mb D (runs L) q mem)(ar:Lay L)(hh:Cy L mem)(au:w.cell? ⟨B,0,none⟩=some (.pointer (some ⟨ha,0,none⟩)))
 (Cs:Nat->Prop) (c1: ∀k,Cs k-> ¬Bo a mb D k) (c2: ¬Cs ha) (c3: ¬Cs 1) (c4: ¬Cs B) (c5: ∀k,Cs k->k<w.heap.size):
 SeqStopsK Fence.wide 8 prog 141 #[.pointer (some ⟨B,0,none⟩)] (λx:{y:Nat × Hd // y∈L}=> #[.int .i64 x.1.1,IA x.1.2]) (KB Cs) (λxs=>xs.map (·.1)=L) (λpre=> ∃t,L=pre.map (·.1)++t) L.length w:=λl aX a7 W aw ax a8 ai h0=>by
 have aj:BE W ha a mb D (runs L) q mem:=h.kb (Cs:=λ_=>False) (KB.below aw) (λ_ h=>h.elim) (λh=>h) (λh=>h);have ay:W.cell? ⟨B,0,none⟩=some (.pointer (some ⟨ha,0,none⟩)):=(aw.cell (p:=⟨B,0,none⟩) (Al au)).trans au;have hs:=aj.hs;have aM:=Zh ((callsIn_wide (n:=7)).2 (J9 aj.sl (JR ar)));have al:=Zh aj;have aN:=Zh ar;have aY:=Zh hh;have aO:=aw.size;clear aj au h ar hh;refine callsIn_of_wp func141 rfl trivial ?_ rfl;simp only [ntmps141,List.size_toArray,List.length_cons,List.length_nil,Nat.reduceAdd,Nat.reduceSub,Array.replicate_succ,Array.replicate_zero,List.push_toArray,List.append_toArray,List.nil_append,List.cons_append];gi_wp2_with (refine⟨trivial, ?_⟩;gi_at_call 65;refine aM.mono ?_;rintro e w1 ⟨v,rfl,az,am⟩;obtain⟨A,c,rfl⟩:=Bu az);have hlen:(runs L).length<=4096:=by have h1:=al.sl.room;have a9:=al.sl.Dw;rw [al.sl.count] at h1;omega
 have H1:Hid (EC w ha a mb D L q mem B W.heap.size (.slice A (runs L).length c) w1):=Zh ⟨al.below am,(am.cell (p:=⟨B,0,none⟩) (Al ay)).trans ay,az⟩;have aZ:=Zh (Dr ax h0 am);clear az am ay hs h0 aM
 gi_loopw [3,13] (λa0 aA wr=> ∃(pre:List {y:Nat × Hd // y∈L}) (i next:Nat),i<=(runs L).length/\aA= .int .i64 i/\a0= .int .i64 next/\next<=1000000/\Hid (O3 L (pre.map (·.1)) i next)/\Hid (EC w ha a mb D L q mem B W.heap.size (.slice A (runs L).length c) wr)/\Hid (aX pre wr)) (λ_ aA _=>(runs L).length-(intOf aA).toNat)
 case atStart=>exact⟨[],0,0,by omega,rfl,rfl,by omega,Zh (LW L),H1,aZ⟩
 case round=>
  obtain⟨pre,i,next,hi,rfl,rfl,hnx,hpos,H,hj⟩:=hrel;rcases LV aN.out hpos with ⟨p,hp,ba,O⟩|⟨x,rest,d,hp,hle,O⟩|⟨d,bb⟩
  . obtain⟨g,a1,aB,_,_,aP⟩:=Eb H.row (i:=i) (u:= .int .i64 (p:Int)) (by rw [List.getElem?_map,hp];rfl)
    cases aB
    have aC:i<(runs L).length:=(List.getElem?_eq_some_iff.1 hp).1;have hd:decide ((p:Int)<(next:Int))=true:=(by simp;omega);have an:=Zh O;clear hp O ai;gi_wp2;go_roundw
    case rel=>exact⟨pre,i+1,next,by omega,by go_num,by trivial,hnx,an,H,hj⟩
    case measure=>simp [intOf];omega
  . obtain⟨g,a1,aB,_,_,aP⟩:=Eb H.row (i:=i) (u:= .int .i64 (x.1:Int)) (by rw [List.getElem?_map,hp];rfl)
    cases aB
    have aC:i<(runs L).length:=(List.getElem?_eq_some_iff.1 hp).1;have U:x∈L:=d▸List.mem_append_right _ List.mem_cons_self;have ao:x.1∈runs L:=(List.getElem?_eq_some_iff.1 hp).2▸List.getElem_mem _;have a2:=H.hp.sl.low _ ao;have aQ:=aN.ok x U;have aD:=aY.out x U;have aR:pre.length<L.length:=(by have a3:=congrArg List.length d;simp only [List.length_append,List.length_map,List.length_cons] at a3;omega);have bc:=H.box;have hd:decide ((x.1:Int)<(next:Int))=false:=(by simp;omega);have an:=Zh O;have aS:Hid (∃t,L=(pre++ [(⟨x,U⟩:{y:Nat × Hd // y∈L})]).map (λy=>y.1)++t):=Zh ⟨rest,by rw [List.map_append,List.append_assoc];exact d⟩;have aT:Hid ((pre++ [(⟨x,U⟩:{y:Nat × Hd // y∈L})]).map (λy=>y.1)=pre.map (λy=>y.1)++ [x]):=Zh (by rw [List.map_append];rfl);obtain⟨p,a4⟩:=x;simp only at aP ao a2 hd hle aD;have aU:=Zh ai;have aV:=Zh ao;have aq:=Zh U;clear hp O d ai ao
    cases a4 with
    |small cc m=>
     obtain⟨V,Z⟩:=aD;obtain⟨bd,be,bf⟩:=aQ;have aa:=(callsIn_wide (n:=7)).2 (HC H.hp p 1 cc m aV (by omega) (by omega) V Z);have aE:=Zh aa;clear aa V Z;gi_wp2_with (refine⟨trivial, ?_⟩;gi_at_call 142;refine aE.mono ?_;rintro e w2 ⟨rfl,ab⟩);have I:Below wr.heap.size wr (w2.alloc (Obj.cells #[Value.int IntKind.i64 1,Value.int IntKind.i64 cc,Value.int IntKind.u64 m] 165)):=ab.alloc ab.size _;have ac:=Dr ax hj I;have aF:=Zh (H.below I);obtain⟨fn,tmps,assign,body,J,ae⟩:=aU.out pre ⟨(p, .small cc m),aq⟩ _ ac aR;dsimp only [IA] at J;have aG:=Zh ae;clear ae ac I;rw [J];gi_wp2;refine(aG).mono ?_;rintro e a5 (⟨rfl,af,ag⟩|⟨rfl,ah⟩)
     . have aH:=Zh (aF.kb ag c1 c2 c3 c4 (λk aI=>Nat.lt_of_lt_of_le (c5 k aI) aO))
       have aJ:=Zh af;clear af ag;gi_wp2;go_roundw
       case rel=>exact⟨pre++ [⟨(p, .small cc m),aq.out⟩],i+1,next,by omega,by go_num,by trivial,hnx,Zh (by rw [aT.out];exact an.out _ (.inr ⟨rfl,rfl⟩)),aH,aJ⟩
       case measure=>simp [intOf];omega
     . have aK:=Zh ah
       clear ah;gi_wp2;refine bodyPost_ret (results_none rfl _ _ _) rfl ?_;exact⟨⟨_,rfl⟩, .inr ⟨_,aS,aK⟩⟩
    |Bz ww=>
     obtain⟨V,Z⟩:=aD;obtain⟨bg,bh⟩:=aQ;obtain⟨nn,aL⟩:=Zx ((ww+65)/64);have bi:nn<=63:=(by omega);have aa:=(callsIn_wide (n:=7)).2 (HC H.hp p 2 nn ww aV (by omega) (by omega) (aL▸V) Z);have aE:=Zh aa;have aW:=Zh aL;clear aa V Z aL;gi_wp2_with (refine⟨trivial, ?_⟩;gi_at_call 142;refine aE.mono ?_;rintro e w2 ⟨rfl,ab⟩);have I:Below wr.heap.size wr (w2.alloc (Obj.cells #[Value.int IntKind.i64 2,Value.int IntKind.i64 nn,Value.int IntKind.u64 ww] 165)):=ab.alloc ab.size _;have ac:=Dr ax hj I;have aF:=Zh (H.below I);obtain⟨fn,tmps,assign,body,J,ae⟩:=aU.out pre ⟨(p, .Bz ww),aq⟩ _ ac aR;dsimp only [IA] at J;rw [<-aW.out] at J;have aG:=Zh ae;clear ae ac I;rw [J];gi_wp2;refine(aG).mono ?_;rintro e a5 (⟨rfl,af,ag⟩|⟨rfl,ah⟩)
     . have aH:=Zh (aF.kb ag c1 c2 c3 c4 (λk aI=>Nat.lt_of_lt_of_le (c5 k aI) aO))
       have aJ:=Zh af;clear af ag;gi_wp2;go_roundw
       case rel=>exact⟨pre++ [⟨(p, .Bz ww),aq.out⟩],i+1,p+nn,by omega,by go_num,by go_num,by omega,Zh (by rw [aT.out];exact an.out _ (.inl (by rw [aW.out];rfl))),aH,aJ⟩
       case measure=>simp [intOf];omega
     . have aK:=Zh ah
       clear ah;gi_wp2;refine bodyPost_ret (results_none rfl _ _ _) rfl ?_;exact⟨⟨_,rfl⟩, .inr ⟨_,aS,aK⟩⟩
  . have a6:=Zh d
    clear d;have aC:i=(runs L).length:=(by omega);subst aC;clear ai;gi_wp2;go_end0;exact⟨⟨_,rfl⟩, .inl ⟨_,a6.symm,hj⟩⟩
end Go.Proofs.YtiopopoohglepaaGreatDoor
namespace Go.Proofs.YtiopopoohglepaaGreatDoor
open Go.Proofs.Tryz
open Go.RowKit Go.Shelf
variable {B a ha mb q:Nat}{W W' w:World}{mem:Nat->Nat}{ps:List Nat}{u v x:Value}
def ER(mem:Nat->Nat)(p c m k:Nat):Nat->Nat:=E3 (B5 (B5 mem (64*p) (1+256*c)) (64*p+1) (m ||| 2^k)) (64*p+2+k*sz c) (sz c)
def Y1{P}(h:P:=by
 have I:=Zh (Ad.below (F:=Bo a mb D) d);exact I):=h
def Ynu{P}(h:P:=by
 have d: ∀b,w.heap.size<=b-> ¬Bo a mb D b:=λb J I=>by have:=h.sl.lt I;omega
 exact d):=h
theorem take_at{D:DW}(h:BE w ha a mb D ps q mem)(p c m k:Nat)(hp:p∈ps)(O:c<8)(U:k<AX c)(h1:mem (64*p)=1+256*c)(V:mem (64*p+1)=m):
 Calls prog 102 #[.pointer (some ⟨ha,0,none⟩), .int .i64 p, .int .i64 k] w λe w' =>e= .returned (.int .i64 (64*p+2+k*sz c:Nat))/\BE w' ha a mb D ps q (ER mem p c m k)/\Ad w (Bo a mb D) w' (Bo a mb D):=by
 have am:=h.sl.low p hp;have aM:=CF c;have aN:=E9 c k O U;have ab:m<18446744073709551616:=V▸h.sl.word _;have Fx:m ||| 2^k<18446744073709551616:=Nat.or_lt_two_pow (n:=64) ab (Du (by omega));have an:=Zh (HC h p 1 c m hp (by omega) (by omega) h1 V);have ao:=Zh (λw=>Zv m k ab (by omega) w);have ac:=Zh (λw=>Nw p c k am O U w);have aq:JL (c:Int)= .tuple #[.int .i64 (sz c:Nat), .int .i64 0]:=if_pos ⟨by omega,by omega⟩;have aO:sz c<=31:=by obtain⟨aP,_⟩:=M8 c O;omega
 have ar:=Zh h;have au:=Ynu;have ae:=Zh hp;clear h h1 V hp U;unfold ER;obtain⟨ad,af⟩: ∃ad,Hid (64*p+2+k*sz c=ad):=⟨_,Zh rfl⟩;rw [af.out] at ac ⊢;have ag: ∀j,j<sz c->(ad+j)/64=p:=λj ah=>by have:=af.out;omega
 have aw:=Zh ag;clear ag;generalize sz c=s at*;generalize ax:m ||| 2^k=mk at*;clear ax;go_enter func102,ntmps102;go_wp2_with (first|(go_at_call 142;refine an.mono ?_;rintro e w1 ⟨rfl,I⟩)|(go_at_call 147;refine(ao _).mono ?_;rintro e w2 ⟨rfl,rfl⟩))
 have d:Below w.heap.size w (w1.alloc (Obj.cells #[Value.int IntKind.i64 1,Value.int IntKind.i64 c,Value.int IntKind.u64 mk] 165)):=I.alloc I.size _;have ay:=Zh (ar.below d);have ai:(w1.alloc (Obj.cells #[Value.int IntKind.i64 1,Value.int IntKind.i64 c,Value.int IntKind.u64 mk] 165)).cell? ⟨w1.heap.size,1,none⟩=some (.int .i64 c):=by go_simp
 have az:=I.size;have aA:=Y1;clear I d;refine(KT ay.out p 1 c mk ae (by omega) (by omega) Fx).mono ?_;rintro e aB ⟨rfl,aj,t5⟩;have Z:=t5.cell ai (au _ az);have aC:=Zh aj;have aD:=Zh (aA.trans t5);have aE:w1.heap.size<aB.heap.size:=Al Z;clear aj t5 ai;go_wp2_with fail;refine(Ji _ _).mono ?_;rintro e aQ ⟨rfl,J⟩;rw [aq];have aF:=(J.cell (p:=⟨w1.heap.size,1,none⟩) aE).trans Z;have aG:=Zh (aC.below J);have aH:=Zh (aD.trans (.below J));clear J Z;go_wp2_with fail;refine(ac _).mono ?_;rintro e aR ⟨rfl,aa⟩;have aI:=Zh (aG.below aa);have aJ:=Zh (aH.trans (.below aa));clear aa aF;go_wp2_with fail;refine(Tv aI.out ad s (by omega) (λj ah=>by rw [aw.out j ah];exact ae.out)).mono ?_;rintro e aS ⟨rfl,al,t8⟩;have aK:=Zh al;have aL:=Zh (aJ.trans t8);clear al t8;go_wp2;go_ret;exact⟨rfl,aK,aL⟩
def Fe(mem:Nat->Nat)(p c m k:Nat):Nat->Nat:=B5 (B5 mem (64*p) (1+256*c)) (64*p+1) (m ^^^ 2^k)
def Yib{P}(h:P:=by
 have V:Below w.heap.size w (w1.alloc (Obj.cells #[Value.int IntKind.i64 1,Value.int IntKind.i64 c,Value.int IntKind.u64 mk] 165)):=J.alloc J.size _;have aa:=Zh (ab.below V);have O:(w1.alloc (Obj.cells #[Value.int IntKind.i64 1,Value.int IntKind.i64 c,Value.int IntKind.u64 mk] 165)).cell? ⟨w1.heap.size,0,none⟩=some (.int .i64 1):=by go_simp
 have U:(w1.alloc (Obj.cells #[Value.int IntKind.i64 1,Value.int IntKind.i64 c,Value.int IntKind.u64 mk] 165)).cell? ⟨w1.heap.size,1,none⟩=some (.int .i64 c):=by go_simp
 have d:(w1.alloc (Obj.cells #[Value.int IntKind.i64 1,Value.int IntKind.i64 c,Value.int IntKind.u64 mk] 165)).cell? ⟨w1.heap.size,2,none⟩=some (.int .u64 mk):=by go_simp
 have I:=J.size;have Z:=Zh (Ad.below (F:=Bo a mb D) V);exact And.intro V (And.intro aa (And.intro O (And.intro U (And.intro d (And.intro I Z)))))):=h
def Yni{P}(h:P:=by
 have J:=t5.cell O (aa _ I);have ab:=t5.cell U (aa _ I);have ac:=t5.cell d (aa _ I);have ae:=V.hs;have af:=Zh V;have ag:=Zh (Z.trans t5);exact And.intro J (And.intro ab (And.intro ac (And.intro ae (And.intro af ag))))):=h
theorem WQ{D:DW}(p c m k:Nat)(h:BE w ha a mb D (p::ps) q mem)(az:c<8)(aq:k<AX c)(hm:m.testBit k=true)(h1:mem (64*p)=1+256*c)(ae:mem (64*p+1)=m):
 Calls prog 105 #[.pointer (some ⟨ha,0,none⟩), .int .i64 p, .int .i64 k] w λe w' =>e= .returned (.tuple #[])/\ ∃D',BE w' ha a mb D' (if m ^^^ 2^k=0 then ps else p::ps) q (Fe mem p c m k)/\Ad w (Bo a mb D) w' (Bo a mb D'):=by
 have aA:=CF c;have ai:m<18446744073709551616:=ae▸h.sl.word _;have hx:m ^^^ 2^k<18446744073709551616:=Nat.xor_lt_two_pow (n:=64) ai (Du (by omega));have aj:=Zh (HC h p 1 c m List.mem_cons_self (by omega) (by omega) h1 ae);have al:=Zh (λw=>Wt m k ai (by omega) hm w);have ab:=Zh h;have aa:=Ynu;clear h h1 ae hm aq;unfold Fe;generalize ar:m ^^^ 2^k=mk at*;clear ar;by_cases h0:mk=0
 . rw [if_pos h0]
   have au:((mk:Int)==0)=true:=(by simp [h0]);clear h0;go_enter func105,ntmps105;go_wp2_with (first|(go_at_call 142;refine aj.mono ?_;rintro e w1 ⟨rfl,J⟩)|(go_at_call 149;refine(al _).mono ?_;rintro e w2 ⟨rfl,rfl⟩))
   obtain⟨af,ag,O,U,d,I,Z⟩:=Yib;clear J af;refine(KT ag.out p 1 c mk List.mem_cons_self (by omega) (by omega) hx).mono ?_;rintro e aw ⟨rfl,V,t5⟩;obtain⟨aB,aC,aD,aE,ac,ah⟩:=Yni;clear V t5 O U d;go_wp2_with fail;have am:=L8 (ps:=ps) p 1 (h:=ac.sl) (by omega) (by omega);refine am.mono ?_;rintro e aF ⟨D',rfl,an,ao⟩;have t6:=Sj (a:=a) ao;have ax:=Zh (ac.Ar an t6);have ay:=Zh (ah.trans t6);clear an ao t6 am;go_wp2;go_end0;exact⟨rfl,_,ax,ay⟩
 . rw [if_neg h0]
   have au:((mk:Int)==0)=false:=(by simp;omega);clear h0;go_enter func105,ntmps105;go_wp2_with (first|(go_at_call 142;refine aj.mono ?_;rintro e w1 ⟨rfl,J⟩)|(go_at_call 149;refine(al _).mono ?_;rintro e w2 ⟨rfl,rfl⟩))
   obtain⟨af,ag,O,U,d,I,Z⟩:=Yib;clear J af;refine(KT ag.out p 1 c mk List.mem_cons_self (by omega) (by omega) hx).mono ?_;rintro e aw ⟨rfl,V,t5⟩;obtain⟨_,_,_,_,ac,ah⟩:=Yni;clear V t5 O U d;go_wp2_with fail;go_end0;exact⟨rfl,_,ac,ah⟩
attribute [local go_sem] Oper.semAt_some
def Hy:Hd->Nat
 | .small _ _=>1
 | .Bz _=>2
def Hr:Hd->Nat
 | .small c _=>c
 | .Bz w=>(w+65)/64
def Hl:Hd->Nat
 | .small _ m=>m
 | .Bz w=>w
theorem Je(h:Hd):IA h= .agg #[.int .i64 (Hy h:Nat), .int .i64 (Hr h:Nat), .int .u64 (Hl h:Nat)]:=by cases h<;>rfl
structure Ep(W:World)(B:Nat)(h:Hd):Prop where
 k:W.cell? ⟨B,0,none⟩=some (.int .i64 (Hy h:Nat))
 n:W.cell? ⟨B,1,none⟩=some (.int .i64 (Hr h:Nat))
 w:W.cell? ⟨B,2,none⟩=some (.int .u64 (Hl h:Nat))
theorem Ep.kept{h:Hd}{row:Option Nat}(d:Ep W B h)(hg:W.grownBy W' row)(I: ∀r,row=some r-> ∃o:Obj,W.heap[r]? =some o/\o.isCells=false):Ep W' B h:=
 ⟨cell_kept d.k hg I,cell_kept d.n hg I,cell_kept d.w hg I⟩
theorem Kd(W:World)(h:Hd)(t:TypeId):Ep (W.alloc (.cells #[.int .i64 (Hy h:Nat), .int .i64 (Hr h:Nat), .int .u64 (Hl h:Nat)] t)) W.heap.size h:=by
 refine⟨?_, ?_, ?_⟩<;>go_simp
def XQ(L:HL)(c:Nat)(v:Value):Prop:=
 (v= .tuple #[.int .i64 0, .int .i64 0, .bool false])\/
 ∃L1 L2 p m k,L=L1++(p, .small c m)::L2/\k<AX c/\m.testBit k=false/\v= .tuple #[.int .i64 (p:Nat), .int .i64 (k:Nat), .bool true]
def Hh(B:Nat)(u v x:Value)(W:World):Prop:=W.cell? ⟨B+1,0,none⟩=some u/\W.cell? ⟨B+1+1,0,none⟩=some v/\W.cell? ⟨B+1+1+1,0,none⟩=some x/\W.frozen? ⟨B+1,0,none⟩=false/\W.frozen? ⟨B+1+1,0,none⟩=false/\W.frozen? ⟨B+1+1+1,0,none⟩=false
theorem Hh.kept{row:Option Nat}(h:Hh B u v x W)(hg:W.grownBy W' row)(d: ∀r,row=some r-> ∃o:Obj,W.heap[r]? =some o/\o.isCells=false):Hh B u v x W' :=by
 obtain⟨h1,I,J,f1,f2,f3⟩:=h;exact⟨cell_kept h1 hg d,cell_kept I hg d,cell_kept J hg d,(frozen_kept h1 hg d).trans f1,(frozen_kept I hg d).trans f2,(frozen_kept J hg d).trans f3⟩
theorem Hh.below(h:Hh B u v x W)(d:Below W.heap.size W W'):Hh B u v x W' :=by
 obtain⟨h1,I,J,f1,f2,f3⟩:=h;exact⟨(d.cell (p:=⟨B+1,0,none⟩) (Al h1)).trans h1,(d.cell (p:=⟨B+1+1,0,none⟩) (Al I)).trans I,(d.cell (p:=⟨B+1+1+1,0,none⟩) (Al J)).trans J,(d.frozen (p:=⟨B+1,0,none⟩) (Al h1)).trans f1,(d.frozen (p:=⟨B+1+1,0,none⟩) (Al I)).trans f2,(d.frozen (p:=⟨B+1+1+1,0,none⟩) (Al J)).trans f3⟩
theorem Hh.set(h:Hh B u v x W)(I v' J :Value):Hh B I v' J (((W.setCell ⟨B+1,0,none⟩ I).setCell ⟨B+1+1,0,none⟩ v').setCell ⟨B+1+1+1,0,none⟩ J):=by
 obtain⟨h1,O,d,f1,f2,f3⟩:=h;refine⟨?_, ?_, ?_, ?_, ?_, ?_⟩
 . exact(World.cell?_setCell_other _ _ _ _ (by simp)).trans ((World.cell?_setCell_other _ _ _ _ (by simp)).trans (World.cell?_setCell_same' _ _ _ (by rw [h1];rfl)))
 . exact(World.cell?_setCell_other _ _ _ _ (by simp)).trans (World.cell?_setCell_same' _ _ _ (by rw [World.cell?_setCell_other _ _ _ _ (by simp),O];rfl))
 . exact Ydh
 . simp [f1]
 . simp [f2]
 . simp [f3]
theorem BJ(h:Below W.heap.size W W'):KeepsOthers W W' :=⟨h.size,λk o d _=>(h.block k (Array.getElem?_eq_some_iff.1 d).1).trans d⟩
def Yez{P}(h:P:=by
 exact⟨_,rfl,aB,au.trans (belowK_b (w:=w) (Nat.le_refl _) _ D' _ _ (by omega) U rfl rfl)⟩):=h
def Yfr{P}(h:P:=by
 obtain⟨B',h1,d,I⟩:=hs;exact⟨B',h1,d.kept hg (λr e=>(ae r e).2),I⟩):=h
def DR{P}(h:P:=by
 have d:=Zh (ac.trans (I.mono ac.size));exact d):=h
def ZB{P}(h:P:=by
 have d:=Zh (ag.trans (I.mono ag.size));exact d):=h
def Zu{P}(h:P:=by
 have ai:=(V.cell (p:=⟨w.heap.size,0,none⟩) (Al ah)).trans ah;exact ai):=h
def Yiz{P}(h:P:=by
 have am:=(aa.cell (p:=⟨w.heap.size,0,none⟩) (Al ai)).trans ai;exact am):=h
def ZT{P}(h:P:=by
 have d:Below W.heap.size W (W.alloc (Obj.cells #[Value.int IntKind.i64 (Hy hd:Nat),Value.int IntKind.i64 (Hr hd:Nat),Value.int IntKind.u64 (Hl hd:Nat)] 165)):=(Below.refl _ W).alloc (Nat.le_refl _) _;exact d):=h
def Yks{P}(h:P:=by
 have d:=ao.kept (grownBy_putObj' _ D' (.deferred none)) (λr e=>by cases e;exact⟨_,U,rfl⟩);exact d):=h
def Zl{P}(h:P:=by
 have d:=Zh (λw=>(callsIn_wide (n:=8)).2 (Qe ha w));exact d):=h
def ZW{P}(h:P:=by
 have d:=(hi.cell (p:=⟨w.heap.size,0,none⟩) (Al am)).trans am;exact d):=h
theorem Xj{D:DW}{L:HL}(h:BE w ha a mb D (runs L) q mem)(aj:Lay L)(hh:Cy L mem)(c:Nat)(bw:c<8):
 Calls prog 101 #[.pointer (some ⟨ha,0,none⟩), .int .i64 c] w λe w' => ∃v,e= .returned v/\XQ L c v/\Below w.heap.size w w' :=by
 refine(callsIn_wide (n:=9)).1 ?_;have a5:Kt (c:Int)= .tuple #[.int .i64 (AX c:Nat), .int .i64 0]:=if_pos ⟨by omega,by omega⟩;have a6:=Zh (λw=>(callsIn_wide (n:=8)).2 (Ia (c:Nat) w));have a7:=Zl;have aw:=Zh h;have aM:=Zh aj;have a8:=Zh hh;clear h aj hh;refine callsIn_of_wp_marks func101 rfl trivial ?_ rfl;simp only [ntmps101,List.size_toArray,List.length_cons,List.length_nil,Nat.reduceAdd,Nat.reduceSub,Array.replicate_succ,Array.replicate_zero,List.push_toArray,List.append_toArray,List.nil_append,List.cons_append];gi_wp2_with (refine⟨trivial, ?_⟩;fail);have aN:Hh w.heap.size (.int .i64 0) (.int .i64 0) (.bool false) ((((w.alloc (Obj.cells #[Value.int IntKind.i64 c] 3)).alloc (Obj.cells #[Value.int IntKind.i64 0] 3)).alloc (Obj.cells #[Value.int IntKind.i64 0] 3)).alloc (Obj.cells #[Value.bool false] 4)):=by
  refine⟨?_, ?_, ?_, ?_, ?_, ?_⟩<;>go_simp
 have ah:((((w.alloc (Obj.cells #[Value.int IntKind.i64 c] 3)).alloc (Obj.cells #[Value.int IntKind.i64 0] 3)).alloc (Obj.cells #[Value.int IntKind.i64 0] 3)).alloc (Obj.cells #[Value.bool false] 4)).cell? ⟨w.heap.size,0,none⟩=some (.int .i64 c):=by go_simp
 have aA:Below w.heap.size w ((((w.alloc (Obj.cells #[Value.int IntKind.i64 c] 3)).alloc (Obj.cells #[Value.int IntKind.i64 0] 3)).alloc (Obj.cells #[Value.int IntKind.i64 0] 3)).alloc (Obj.cells #[Value.bool false] 4)):=((((Below.refl _ w).alloc (Nat.le_refl _) _).alloc (by simp) _).alloc (by simp;omega) _).alloc (by simp;omega) _;have bz:((((w.alloc (Obj.cells #[Value.int IntKind.i64 c] 3)).alloc (Obj.cells #[Value.int IntKind.i64 0] 3)).alloc (Obj.cells #[Value.int IntKind.i64 0] 3)).alloc (Obj.cells #[Value.bool false] 4)).heap.size=w.heap.size+4:=by simp
 generalize ((((w.alloc (Obj.cells #[Value.int IntKind.i64 c] 3)).alloc (Obj.cells #[Value.int IntKind.i64 0] 3)).alloc (Obj.cells #[Value.int IntKind.i64 0] 3)).alloc (Obj.cells #[Value.bool false] 4))=W0 at*;refine⟨trivial, ?_⟩;refine(a6 _).mono ?_;rintro e w1 ⟨rfl,V⟩;rw [a5];have ai:=Zu;have aO:=aN.below V;have bA:=V.size;have J:=aA.trans (V.mono aA.size);clear V aA aN ah;gi_wp2_with (refine⟨trivial, ?_⟩;fail);refine⟨trivial, ?_⟩;refine(a7 _).mono ?_;rintro e w2 ⟨rfl,rfl⟩;gi_wp2_with (refine⟨trivial, ?_⟩;fail);obtain⟨d,ab⟩: ∃d,d=(w1.alloc (Obj.cells #[Value.int IntKind.i64 (AX c:Nat)] 3)).alloc (Obj.cells #[Value.pointer (some { block:=ha,off:=0 })] 71):=⟨_,rfl⟩;have aa:Below w1.heap.size w1 d:=ab▸((Below.refl _ w1).alloc (Nat.le_refl _) _).alloc (by simp) _;have am:=Yiz;have aP:=aO.below aa;have aQ:d.cell? ⟨w1.heap.size,0,none⟩=some (.int .i64 (AX c:Nat)):=by rw [ab];go_simp
 have a9:d.cell? ⟨w1.heap.size+1,0,none⟩=some (.pointer (some ⟨ha,0,none⟩)):=by rw [ab];go_simp
 have bB:d.heap.size=w1.heap.size+2:=by rw [ab];simp
 have al:=J.trans (aa.mono (by omega));rw [<-ab];clear ab aa ai aO J;have ba:=Zh (aw.below al)
 refine wpIn_rangeFunc_ownH rfl (by omega) (gf:=141) (lb:= #[.pointer (some ⟨w1.heap.size+1,0,none⟩)]) rfl trivial (enters_of func141 (by kernel_rfl) rfl)
  (H3 ba aM a8 a9 (λ_=>False) (λ_ h=>h.elim) (λh=>h) (λh=>h) (λh=>h) (λ_ h=>h.elim))
  (λh k=>h.trans k) (λW l o bb _ aj h1 ax=>KB.putObj bb aj h1 ax) (Below.refl _ _) (λ_=>rfl)
  (λpre W=>Below d.heap.size d W)
  (λaC pre W=>aC= .ret/\(∃an p m k,pre.map (λy=>y.1)=an++ [(p,Hd.small c m)]/\k<AX c/\m.testBit k=false/\Hh w.heap.size (.int .i64 (p:Nat)) (.int .i64 (k:Nat)) (.bool true) W)/\Below w.heap.size w W)
  (λs A B row hs hg ae=>ownFrom_below (Nat.le_refl _) (by omega) s A B row hs hg ae)
  (λaC s A B row hs hg ae=>by
   obtain⟨h1,⟨an,p,m,k,ax,bc,bd,be⟩,bf⟩:=hs;exact⟨h1,⟨an,p,m,k,ax,bc,bd,be.kept hg (λr e=>(ae r e).2)⟩,ownFrom_below (Nat.le_refl _) (by omega) s A B row bf hg ae⟩)
  (Below.refl _ _)
  (λx a' W=> ∃B,d.heap.size<=B/\Ep W B x.1.2/\a' ={ tmps:= #[ .pointer (some ⟨ha,0,none⟩), .int .i64 c,undef, .pointer (some ⟨w.heap.size,0,none⟩), .pointer (some ⟨w.heap.size+1,0,none⟩), .pointer (some ⟨w.heap.size+1+1,0,none⟩), .pointer (some ⟨w.heap.size+1+1+1,0,none⟩), .pointer (some ⟨w1.heap.size,0,none⟩), .int .i64 0, .int .i64 (x.1.1:Nat), .pointer (some ⟨B,0,none⟩),undef, .tuple #[ .int .i64 (AX c:Nat), .int .i64 0], .int .i64 c, .tuple #[ .int .i64 (AX c:Nat), .int .i64 0], .int .i64 (AX c:Nat), .int .i64 0, .pointer (some ⟨ha,0,none⟩), .func (.func 141) #[] #[ .pointer (some ⟨w1.heap.size+1,0,none⟩)], .int .i64 (x.1.1:Nat),IA x.1.2,undef,undef,undef,undef,undef,undef,undef,undef,undef,undef,undef,undef,undef,undef,undef,undef,undef],defers:= [] })
  (λx a' s A B row hs hg ae=>by
   exact Yfr)
  ?assign ?body ?done ?stop
 case assign=>
  rintro l pre ⟨⟨p,hd⟩,aR⟩ W K hi U;dsimp only at U ⊢;have O:=ZT;have aq:=U _ (W.alloc (Obj.cells #[Value.int IntKind.i64 (Hy hd:Nat),Value.int IntKind.i64 (Hr hd:Nat),Value.int IntKind.u64 (Hl hd:Nat)] 165)) ((BJ O).from _) (KB.below O) (hi.trans (O.mono hi.size)) ⟨W.heap.size,hi.size,Kd _ _ _,rfl⟩;have aS:=Zh aq;clear U aq O hi;rw [Je] at aS ⊢;gi_wp2;exact aS.out
 case body=>
  rintro l pre ⟨⟨p,hd⟩,aR⟩ a' W aj ⟨r,ae⟩ hi ⟨B,bC,ar,rfl⟩ hlen;dsimp only at ar ⊢;have bg:=ZW;have ay:=aP.below hi;have bh:=(hi.cell (p:=⟨w1.heap.size,0,none⟩) (Al aQ)).trans aQ;have aT:=aM.ok _ aR;have af:=ar.k;have aD:=ar.n;have hw:=ar.w;have J:=al.trans (hi.mono al.size);have ac:=Zh hi;have bi:1<W.heap.size:=by have:=aw.Ft a (.inl rfl);have ax:=aw.sl.lt (.inl rfl);have:=J.size;omega
  have ag:=Zh J;have bj:=Zh ((aw.below J).tab);clear ar hi J
  cases hd with
  |Bz ww=>
   simp only [Hy,Hr,Hl] at af aD hw;have d1:((2:Int) !=1)=true:=(by decide);clear aT;gi_wp2;exact⟨KeepsFrom.refl _ _,KB.refl _ _,ac⟩
  |small Z m=>
   simp only [Hy,Hr,Hl] at af aD hw;obtain⟨bD,aU,aE⟩:=aT;have aV:m<18446744073709551616:=Nat.lt_trans aE (Du (by have:=CF Z;omega));have d1:((1:Int) !=1)=false:=(by decide);by_cases aW:Z=c
   . subst aW
     have d2:((Z:Int) !=(Z:Nat))=false:=(by simp);have aX:=Zh (CallsIn.inRound l ((callsIn_wide (n:=6)).2 (XF m (AX Z) aV (by have:=CF Z;omega) W bj bi)));clear aU aE aV;gi_wp2_with (refine⟨trivial, ?_⟩;fail);refine⟨trivial, ?_⟩;refine aX.mono ?_;rintro e W' ⟨bE,rfl,bk,aY⟩;have I:Below W.heap.size W W' :=aY ▸(Below.refl _ W).alloc (Nat.le_refl _) _;clear aY;have bm:=ay.below I;have bo:=DR;have bp:=ZB;have aZ:=Zh ((BJ I).from d.heap.size);have bq:=Zh (KB.below (Cs:=λ_=>False) I);clear I ay bg bh af aD hw aX;rcases bk with ⟨rfl,_⟩|⟨k,a0,rfl,a1⟩
     . have d3:decide ((0:Int)<= -1)=false:=by decide
       gi_wp2;exact⟨aZ,bq,bo⟩
     . have d3:decide ((0:Int)<=(k:Int))=true:=by simp
       have br:=Zh a1;have bs:=Zh a0;clear a1 a0;obtain⟨q1,aF,aG,aH,aI,aJ⟩:=bm;have az:=Zh (Hh.set ⟨q1,aF,aG,aH,aI,aJ⟩ (.int .i64 (p:Nat)) (.int .i64 (k:Nat)) (.bool true));gi_wp2;refine⟨?_,rfl,⟨pre.map (λy=>y.1),p,m,k,by rw [List.map_append];rfl,bs,br,az⟩, ?_⟩
       . exact aZ.trans ((((KeepsOthers.setCell _ _ _).trans (KeepsOthers.setCell _ _ _)).trans (KeepsOthers.setCell _ _ _)).from _)
       . exact((bp.setCell (p:=⟨w.heap.size+1,0,none⟩) (by simp) _).setCell (p:=⟨w.heap.size+1+1,0,none⟩) (by simp;omega) _).setCell (p:=⟨w.heap.size+1+1+1,0,none⟩) (by simp;omega) _
   . have d2:((Z:Int) !=(c:Nat))=true:=by simp;omega
     clear aU aE aW;gi_wp2;exact⟨KeepsFrom.refl _ _,KB.refl _ _,ac⟩
 case done=>
  rintro D' xs W bu bv hi U;have ay:=aP.below hi;have J:=Zh (al.trans (hi.mono al.size));obtain⟨q1,aF,aG,aH,aI,aJ⟩:=ay;have az:=Hh.set ⟨q1,aF,aG,aH,aI,aJ⟩ (.int .i64 0) (.int .i64 0) (.bool false);have a2:=(KeepsOthers.setCell W ⟨w.heap.size+1,0,none⟩ (.int .i64 0)).same D' _ U rfl;have aq:=(KeepsOthers.setCell (W.setCell ⟨w.heap.size+1,0,none⟩ (.int .i64 0)) ⟨w.heap.size+1+1,0,none⟩ (.int .i64 0)).same D' _ a2 rfl;have aK:=(KeepsOthers.setCell ((W.setCell ⟨w.heap.size+1,0,none⟩ (.int .i64 0)).setCell ⟨w.heap.size+1+1,0,none⟩ (.int .i64 0)) ⟨w.heap.size+1+1+1,0,none⟩ (.bool false)).same D' _ aq rfl;have aL:=az.kept (grownBy_putObj' _ D' (.deferred none)) (λr e=>by cases e;exact⟨_,aK,rfl⟩);obtain⟨u1,u2,u3,_⟩:=aL;clear bv hi az a2 aq;gi_wp2;refine⟨by simp, .inl ⟨_,_,rfl,run_takeDeferred aK, ?_⟩⟩;refine⟨.tuple #[.int .i64 0, .int .i64 0, .bool false], ?_, ?_⟩
  . simp [results,f101,go_sem,u1,u2,u3]
  . exact⟨_,rfl, .inl rfl,(((J.setCell (p:=⟨w.heap.size+1,0,none⟩) (by simp) _).setCell (p:=⟨w.heap.size+1+1,0,none⟩) (by simp;omega) _).setCell (p:=⟨w.heap.size+1+1+1,0,none⟩) (by simp;omega) _).trans (belowK_b (w:=w) (Nat.le_refl _) _ D' _ _ (by omega) aK rfl rfl)⟩
 case stop=>
  rintro D' aC pre W bu ⟨t,a3⟩ ⟨rfl,⟨an,p,m,k,a4,af,hm,ao⟩,O⟩ U;have au:=Zh O;have aL:=Yks;obtain⟨u1,u2,u3,_⟩:=aL;have aB:Hid (XQ L c (.tuple #[.int .i64 (p:Nat), .int .i64 (k:Nat), .bool true])):=Zh (.inr ⟨an,t,p,m,k,by rw [a3,a4,List.append_assoc];rfl,af,hm,rfl⟩);clear O ao a3 a4 af hm;gi_wp2;refine⟨by simp, .inl ⟨_,_,rfl,run_takeDeferred U, ?_⟩⟩;refine⟨.tuple #[.int .i64 (p:Nat), .int .i64 (k:Nat), .bool true], ?_, ?_⟩
  . simp [results,f101,go_sem,u1,u2,u3]
  . exact Yez
end Go.Proofs.YtiopopoohglepaaGreatDoor
namespace Go.Proofs.YtiopopoohglepaaGreatDoor
open Go.Proofs.Tryz
open Go.RowKit Go.Shelf
variable {B:Nat}{W W' w:World}{t u v x y z:Value}
attribute [local go_sem] Oper.semAt_some Ea
structure IZ(B:Nat)(u v:Value)(x y z:Value)(t:Value)(W:World):Prop where
 c1:W.cell? ⟨B+1,0,none⟩=some u
 c2:W.cell? ⟨B+1+1,0,none⟩=some v
 c3:W.cell? ⟨B+1+1+1,0,none⟩=some x
 c4:W.cell? ⟨B+1+1+1,1,none⟩=some y
 c5:W.cell? ⟨B+1+1+1,2,none⟩=some z
 c6:W.cell? ⟨B+1+1+1+1,0,none⟩=some t
 f1:W.frozen? ⟨B+1,0,none⟩=false
 f2:W.frozen? ⟨B+1+1,0,none⟩=false
 f3:W.frozen? ⟨B+1+1+1,0,none⟩=false
 f4:W.frozen? ⟨B+1+1+1,1,none⟩=false
 f5:W.frozen? ⟨B+1+1+1,2,none⟩=false
 f6:W.frozen? ⟨B+1+1+1+1,0,none⟩=false
theorem IZ.kept{row:Option Nat}(h:IZ B u v x y z t W)(hg:W.grownBy W' row)(d: ∀r,row=some r-> ∃o:Obj,W.heap[r]? =some o/\o.isCells=false):IZ B u v x y z t W' :=
 ⟨cell_kept h.c1 hg d,cell_kept h.c2 hg d,cell_kept h.c3 hg d,cell_kept h.c4 hg d,cell_kept h.c5 hg d,cell_kept h.c6 hg d,
  (frozen_kept h.c1 hg d).trans h.f1,(frozen_kept h.c2 hg d).trans h.f2,(frozen_kept h.c3 hg d).trans h.f3,(frozen_kept h.c4 hg d).trans h.f4,(frozen_kept h.c5 hg d).trans h.f5,(frozen_kept h.c6 hg d).trans h.f6⟩
theorem IZ.below(h:IZ B u v x y z t W)(d:Below W.heap.size W W'):IZ B u v x y z t W' :=
 h.kept (row:=none) ⟨d.os,d.tape,d.output,d.size,λk I _=>d.block k I⟩ (λr e=>by cases e)
def Zk(W:World)(B:Nat)(u v x y z t:Value):World:=((((((W.setCell ⟨B+1,0,none⟩ u).setCell ⟨B+1+1,0,none⟩ v).setCell ⟨B+1+1+1,0,none⟩ x).setCell ⟨B+1+1+1,1,none⟩ y).setCell ⟨B+1+1+1,2,none⟩ z).setCell ⟨B+1+1+1+1,0,none⟩ t).drew
theorem A9(W:World)(p r:Addr)(v:Value):p≠r->(W.setCell p v).cell? r=W.cell? r:=λh=>World.cell?_setCell_other _ _ _ _ h
theorem IZ.set(h:IZ B u v x y z t W)(d v' I J O U :Value):IZ B d v' I J O U (Zk W B d v' I J O U):=by
 obtain⟨h1,V,Z,aa,ab,ac,f1,f2,f3,f4,f5,f6⟩:=h;unfold Zk;refine⟨?_, ?_, ?_, ?_, ?_, ?_, ?_, ?_, ?_, ?_, ?_, ?_⟩
 . rw [cell_drew_own,A9 _ _ _ _ (by simp),A9 _ _ _ _ (by simp),A9 _ _ _ _ (by simp),A9 _ _ _ _ (by simp),A9 _ _ _ _ (by simp)]
   exact World.cell?_setCell_same' _ _ _ (by rw [h1];rfl)
 . rw [cell_drew_own,A9 _ _ _ _ (by simp),A9 _ _ _ _ (by simp),A9 _ _ _ _ (by simp),A9 _ _ _ _ (by simp)]
   exact World.cell?_setCell_same' _ _ _ (by rw [A9 _ _ _ _ (by simp),V];rfl)
 . rw [cell_drew_own,A9 _ _ _ _ (by simp),A9 _ _ _ _ (by simp),A9 _ _ _ _ (by simp)]
   exact World.cell?_setCell_same' _ _ _ (by rw [A9 _ _ _ _ (by simp),A9 _ _ _ _ (by simp),Z];rfl)
 . rw [cell_drew_own,A9 _ _ _ _ (by simp),A9 _ _ _ _ (by simp)]
   exact World.cell?_setCell_same' _ _ _ (by rw [A9 _ _ _ _ (by simp),A9 _ _ _ _ (by simp),A9 _ _ _ _ (by simp),aa];rfl)
 . rw [cell_drew_own,A9 _ _ _ _ (by simp)]
   exact World.cell?_setCell_same' _ _ _ (by rw [A9 _ _ _ _ (by simp),A9 _ _ _ _ (by simp),A9 _ _ _ _ (by simp),A9 _ _ _ _ (by simp),ab];rfl)
 . rw [cell_drew_own]
   exact World.cell?_setCell_same' _ _ _ (by rw [A9 _ _ _ _ (by simp),A9 _ _ _ _ (by simp),A9 _ _ _ _ (by simp),A9 _ _ _ _ (by simp),A9 _ _ _ _ (by simp),ac];rfl)
 all_goals rw [frozen_drew_own];simp only [World.frozen?_setCell];assumption
theorem Ml(h:Below w.heap.size w W)(u v x y z t:Value):Below w.heap.size w (Zk W w.heap.size u v x y z t):=
 ((((((h.setCell (p:=⟨_,_,_⟩) (by simp) _).setCell (p:=⟨_,_,_⟩) (by simp;omega) _).setCell (p:=⟨_,_,_⟩) (by simp;omega) _).setCell (p:=⟨_,_,_⟩) (by simp;omega) _).setCell (p:=⟨_,_,_⟩) (by simp;omega) _).setCell (p:=⟨_,_,_⟩) (by simp;omega) _).drew
theorem Mc(W:World)(B C:Nat)(u v x y z t:Value):KeepsFrom C W (Zk W B u v x y z t):=
 (((((((KeepsOthers.setCell _ _ _).trans (KeepsOthers.setCell _ _ _)).trans (KeepsOthers.setCell _ _ _)).trans (KeepsOthers.setCell _ _ _)).trans (KeepsOthers.setCell _ _ _)).trans (KeepsOthers.setCell _ _ _)).trans (KeepsOthers.drew _)).from _
theorem UN{x:Nat × Hd}(hx:x.2.Ok){b:Nat × Nat}(d:b∈A7 x):x.1<=b.1/64/\b.1/64<x.1+x.2.len:=by
 have:=CI hx d;omega
def LF(x:Nat × Hd)(addr:Nat)(v:Value):Prop:=
 match x.2 with
 | .small c m=> ∃k,k<AX c/\m.testBit k=true/\addr=64*x.1+2+k*sz c/\v= .tuple #[.int .i64 x.1, .int .i64 (k:Nat),IA x.2, .bool true]
 | .Bz _=>addr=64*x.1+2/\v= .tuple #[.int .i64 x.1, .int .i64 0,IA x.2, .bool true]
def Ygk{P}(h:P:=by
 clear ar;gi_wp2;exact⟨KeepsFrom.refl _ _,KB.refl _ _,aD,aC⟩):=h
def Yja{P}(h:P:=by
 have ai:=(I.cell (p:=⟨w.heap.size,0,none⟩) (Al an)).trans an;exact ai):=h
def OM{P}(h:P:=by
 have d:prog.follows .mixedOrders=true:=by kernel_rfl
 exact d):=h
def Ylg{P}(h:P:=by
 have I:Kt (d:Int)= .tuple #[.int .i64 (AX d:Nat), .int .i64 0]:=if_pos ⟨by omega,by omega⟩;have J:=Zh (λw=>CallsIn.inRound l ((callsIn_wide (n:=6)).2 (Ia (d:Nat) w)));exact And.intro I J):=h
def Yli{P}(h:P:=by
 have J:Ep W' B (.small d m):=⟨(I.cell (p:=⟨B,0,none⟩) aq).trans O,(I.cell (p:=⟨B,1,none⟩) aq).trans af,(I.cell (p:=⟨B,2,none⟩) aq).trans hw⟩;exact J):=h
def Ymp{P}(h:P:=by
 have d:p∈runs L:=CP.2 ⟨(p,hd),aj,Nat.le_refl _,by have:=hd.CZ;simp only;omega⟩;have aw:=al.sl.low _ d;have O:=ag.k;have af:=ag.n;have hw:=ag.w;exact And.intro d (And.intro aw (And.intro O (And.intro af hw)))):=h
def Yms{P}(h:P:=by
 have I:=Zh (λw=>CallsIn.inRound l ((callsIn_wide (n:=6)).2 (Nw p d k aw aA (by rw [ax.out];omega) w)));exact I):=h
def Ync{P}(h:P:=by
 have ay:Hid (m<18446744073709551616):=Zh (Nat.lt_trans az (Du (by have:=CF d;omega)));have I:=CF d;exact And.intro ay I):=h
def Ynp{P}(h:P:=by
 have d:=Zh (λw=>CallsIn.inRound l ((callsIn_wide (n:=6)).2 (Y0 m k ay (by omega) w)));exact d):=h
theorem KW{ha a mb q:Nat}{D:DW}{L:HL}{mem:Nat->Nat}(h:BE w ha a mb D (runs L) q mem)(aG:Lay L)(hh:Cy L mem)(y:Nat × Hd)(aI:y∈L)(b:Nat × Nat)(aF:b∈A7 y):
 Calls prog 103 #[.pointer (some ⟨ha,0,none⟩), .int .i64 b.1] w λe w' => ∃v,e= .returned v/\LF y b.1 v/\Below w.heap.size w w' :=by
 refine(callsIn_wide (n:=9)).1 ?_;have bs:=Zl;have hyp:y.1∈runs L:=CP.2 ⟨y,aI,Nat.le_refl _,by have:=y.2.CZ;omega⟩;have b5:=h.sl.low _ hyp;have hdiv:=UN (aG.ok y aI) aF;have a6:=CI (aG.ok y aI) aF;have bu:Hid (∀x∈L,x=y\/(x.1≠b.1/64/\b.1≠64*x.1+2)):=Zh (λx hx=>by
  rcases KD aG hx aI with h1|h1|h1
  . exact .inl h1
  . have:=x.2.CZ;exact .inr ⟨by omega,by omega⟩
  . exact .inr ⟨by omega,by omega⟩)
 have al:=Zh h;have a7:=Zh aG;have bv:=Zh hh;have bw:=Zh aI;have a8:=Zh aF;have b8:y.2.len<=63:=by
  have:=aG.ok y aI;obtain⟨p,hd⟩:=y
  cases hd with
  |small c m=>simp [Hd.len]
  |Bz ww=>obtain⟨h1,aH⟩:=this;simp only [Hd.len];omega
 obtain⟨addr,Zm⟩:=b;dsimp only at*;clear h aG hh hyp aI aF;refine callsIn_of_wp_marks func103 rfl trivial ?_ rfl;simp only [ntmps103,List.size_toArray,List.length_cons,List.length_nil,Nat.reduceAdd,Nat.reduceSub,Array.replicate_succ,Array.replicate_zero,List.push_toArray,List.append_toArray,List.nil_append,List.cons_append];gi_wp2_with fail;have a9:IZ w.heap.size (.int .i64 0) (.int .i64 0) (.int .i64 0) (.int .i64 0) (.int .u64 0) (.bool false) (((((w.alloc (Obj.cells #[Value.int IntKind.i64 addr] 3)).alloc (Obj.cells #[Value.int IntKind.i64 0] 3)).alloc (Obj.cells #[Value.int IntKind.i64 0] 3)).alloc (Obj.cells #[Value.int IntKind.i64 0,Value.int IntKind.i64 0,Value.int IntKind.u64 0] 165)).alloc (Obj.cells #[Value.bool false] 4)):=by
  refine⟨?_, ?_, ?_, ?_, ?_, ?_, ?_, ?_, ?_, ?_, ?_, ?_⟩<;>go_simp
 have ah:(((((w.alloc (Obj.cells #[Value.int IntKind.i64 addr] 3)).alloc (Obj.cells #[Value.int IntKind.i64 0] 3)).alloc (Obj.cells #[Value.int IntKind.i64 0] 3)).alloc (Obj.cells #[Value.int IntKind.i64 0,Value.int IntKind.i64 0,Value.int IntKind.u64 0] 165)).alloc (Obj.cells #[Value.bool false] 4)).cell? ⟨w.heap.size,0,none⟩=some (.int .i64 addr):=by go_simp
 have aQ:Below w.heap.size w (((((w.alloc (Obj.cells #[Value.int IntKind.i64 addr] 3)).alloc (Obj.cells #[Value.int IntKind.i64 0] 3)).alloc (Obj.cells #[Value.int IntKind.i64 0] 3)).alloc (Obj.cells #[Value.int IntKind.i64 0,Value.int IntKind.i64 0,Value.int IntKind.u64 0] 165)).alloc (Obj.cells #[Value.bool false] 4)):=(((((Below.refl _ w).alloc (Nat.le_refl _) _).alloc (by simp) _).alloc (by simp;omega) _).alloc (by simp;omega) _).alloc (by simp;omega) _;have b9:(((((w.alloc (Obj.cells #[Value.int IntKind.i64 addr] 3)).alloc (Obj.cells #[Value.int IntKind.i64 0] 3)).alloc (Obj.cells #[Value.int IntKind.i64 0] 3)).alloc (Obj.cells #[Value.int IntKind.i64 0,Value.int IntKind.i64 0,Value.int IntKind.u64 0] 165)).alloc (Obj.cells #[Value.bool false] 4)).heap.size>=w.heap.size+5:=by simp
 generalize (((((w.alloc (Obj.cells #[Value.int IntKind.i64 addr] 3)).alloc (Obj.cells #[Value.int IntKind.i64 0] 3)).alloc (Obj.cells #[Value.int IntKind.i64 0] 3)).alloc (Obj.cells #[Value.int IntKind.i64 0,Value.int IntKind.i64 0,Value.int IntKind.u64 0] 165)).alloc (Obj.cells #[Value.bool false] 4))=w1 at*;refine(bs _).mono ?_;rintro e w2 ⟨rfl,aN⟩;have V:Below w1.heap.size w1 w2:=aN▸(Below.refl _ w1).alloc (Nat.le_refl _) _;have bz:w2.cell? ⟨w1.heap.size,0,none⟩=some (.pointer (some ⟨ha,0,none⟩)):=by rw [aN];go_simp
 have cb:w1.heap.size+1<=w2.heap.size:=by rw [aN];simp
 have am:=Zu;have bA:=a9.below V;have aR:=aQ.trans (V.mono aQ.size);clear aN V ah a9 aQ;gi_wp2_with fail;have bB:=Zh (al.below aR)
 refine wpIn_rangeFunc_ownH (α:={z:Nat × Hd // z∈L}) rfl (by omega) (gf:=141) (lb:= #[.pointer (some ⟨w1.heap.size,0,none⟩)]) rfl trivial (enters_of func141 (by kernel_rfl) rfl)
  (H3 bB a7 bv bz (λ_=>False) (λ_ h=>h.elim) (λh=>h) (λh=>h) (λh=>h) (λ_ h=>h.elim))
  (λh k=>h.trans k) (λW l o bC _ aG h1 aH=>KB.putObj bC aG h1 aH) (Below.refl _ _) (λ_=>rfl)
  (λpre W=>y∉pre.map (λ(z:{z:Nat × Hd // z∈L})=>z.1)/\Below w2.heap.size w2 W)
  (λaS pre W=>aS= .ret/\(∃u v,LF y addr (.tuple #[u,v,IA y.2, .bool true])/\IZ w.heap.size u v (.int .i64 (Hy y.2:Nat)) (.int .i64 (Hr y.2:Nat)) (.int .u64 (Hl y.2:Nat)) (.bool true) W)/\Below w.heap.size w W)
  (λs A B row hs hg ae=>⟨hs.1,ownFrom_below (Nat.le_refl _) (by omega) s A B row hs.2 hg ae⟩)
  (λaS s A B row hs hg ae=>by
   obtain⟨h1,⟨u,v,aH,bD⟩,bE⟩:=hs;exact⟨h1,⟨u,v,aH,bD.kept hg (λr e=>(ae r e).2)⟩,ownFrom_below (Nat.le_refl _) (by omega) s A B row bE hg ae⟩)
  ⟨by simp,Below.refl _ _⟩
  (λx a' W=> ∃B,w2.heap.size<=B/\Ep W B x.1.2/\a' ={ tmps:= #[ .pointer (some ⟨ha,0,none⟩), .int .i64 addr,undef, .pointer (some ⟨w.heap.size,0,none⟩), .pointer (some ⟨w.heap.size+1,0,none⟩), .pointer (some ⟨w.heap.size+1+1,0,none⟩), .pointer (some ⟨w.heap.size+1+1+1,0,none⟩), .pointer (some ⟨w.heap.size+1+1+1+1,0,none⟩), .int .i64 (x.1.1:Nat), .pointer (some ⟨B,0,none⟩),undef,undef,undef, .pointer (some ⟨ha,0,none⟩), .func (.func 141) #[] #[ .pointer (some ⟨w1.heap.size,0,none⟩)], .int .i64 (x.1.1:Nat),IA x.1.2,undef,undef,undef,undef,undef,undef,undef,undef,undef,undef,undef,undef,undef,undef,undef,undef,undef,undef,undef,undef,undef,undef,undef,undef,undef,undef,undef,undef,undef,undef,undef,undef,undef,undef,undef,undef,undef,undef,undef,undef,undef,undef,undef,undef,undef,undef,undef,undef,undef],defers:= [] })
  (λx a' s A B row hs hg ae=>by
   exact Yfr)
  ?assign ?body ?done ?stop
 case assign=>
  rintro l pre ⟨⟨p,hd⟩,aj⟩ W K ⟨aJ,hi⟩ U;dsimp only at U ⊢;have aF:=ZT;have ba:=Zh (U _ (W.alloc (Obj.cells #[Value.int IntKind.i64 (Hy hd:Nat),Value.int IntKind.i64 (Hr hd:Nat),Value.int IntKind.u64 (Hl hd:Nat)] 165)) ((BJ aF).from _) (KB.below aF) ⟨aJ,hi.trans (aF.mono hi.size)⟩ ⟨W.heap.size,hi.size,Kd _ _ _,rfl⟩);clear U aF hi;rw [Je] at ba ⊢;gi_wp2;exact ba.out
 case body=>
  rintro l pre ⟨⟨p,hd⟩,aj⟩ a' W aG ⟨r,ae⟩ ⟨aJ,hi⟩ ⟨B,cc,ag,rfl⟩ hlen;dsimp only at ag ⊢;have bF:Hid (y∉pre.map (λ(z:{z:Nat × Hd // z∈L})=>z.1)):=Zh aJ;have an:=ZW;have aO:=bA.below hi;have ar:=a7.ok _ aj;have aT:=bu.out _ aj;obtain⟨bG,aw,O,af,hw⟩:=Ymp;have aC:=Zh hi;have ac:=Zh (aR.trans (hi.mono aR.size));have aq:B<W.heap.size:=Al O;clear hi bG aJ;by_cases aP:(p,hd)=y
  . subst aP
    clear aT
    cases hd with
    |Bz ww=>
     have bb:addr=64*p+2:=by
      have:=a8.out;simp only [A7,List.mem_singleton,Prod.mk.injEq] at this;exact this.1
     have aU:Hid (LF (p,Hd.Bz ww) addr (.tuple #[.int .i64 p, .int .i64 0,IA (Hd.Bz ww), .bool true])):=Zh ⟨bb,rfl⟩;simp only [Hy,Hr,Hl] at O af hw ⊢;generalize (ww+65)/64=nn at*;have d0:((2:Int)==2)=true:=(by decide);have d2:((addr:Int)==(p:Int)*64+2)=true:=(by simp;omega);clear ar bb;have aV:=Zh (aO.set (.int .i64 p) (.int .i64 0) (.int .i64 2) (.int .i64 nn) (.int .u64 ww) (.bool true));have aW:=Zh (Ml (w:=w) ac (.int .i64 p) (.int .i64 0) (.int .i64 2) (.int .i64 nn) (.int .u64 ww) (.bool true));have aX:=Zh (Mc W w.heap.size w2.heap.size (.int .i64 p) (.int .i64 0) (.int .i64 2) (.int .i64 nn) (.int .u64 ww) (.bool true));obtain⟨q1,bH,bI,bJ,bK,bL,u1,u2,u3,aY,aZ,a0⟩:=aO;gi_wp2
     gi_region_with_o (fail)
     all_goals
      gi_wp2;exact⟨aX,rfl,⟨_,_,aU,aV⟩,aW⟩
    |small d m=>
     obtain⟨aE,J,ab,Z⟩: ∃aE,aE<AX d/\m.testBit aE=true/\addr=64*p+2+aE*sz d:=by
      have:=a8.out;simp only [A7,List.mem_map,Prod.mk.injEq] at this;obtain⟨aE,h1,aH,_⟩:=this;rw [FT] at h1;exact⟨aE,h1.1,h1.2,aH.symm⟩
     have aU:Hid (LF (p,Hd.small d m) addr (.tuple #[.int .i64 p, .int .i64 (aE:Nat),IA (Hd.small d m), .bool true])):=Zh ⟨aE,J,ab,Z,rfl⟩;obtain⟨aA,_,az⟩:=ar;obtain⟨ay,_⟩:=Ync;have cd:=E9 d aE aA J;obtain⟨bM,bN⟩:=Ylg;obtain⟨bO,bP,bc⟩:=EW;simp only [Hy,Hr,Hl] at O af hw ⊢;have d0:((1:Int)==2)=false:=(by decide);have d1:((1:Int) !=1)=false:=(by decide);have d2:((addr:Int)/64 !=(p:Int))=false:=(by simp;simp only [Hd.len] at hdiv;omega);have ce:addr<67108864:=(by omega);clear az Z J ab hdiv a6;gi_wp2_with fail;refine(bN _).mono ?_;rintro e W' ⟨rfl,I⟩;rw [bM];have bQ:=aO.below I;have ai:=Yja;have aK:=Yli;have bR:=Zh ((BJ I).from w2.heap.size);have bd:=DR;clear I O af hw an aO d0 d1 d2;gi_wp2_with fail;generalize be:AX d=bS at*;have ax:=Zh be;clear be
     gi_loopw [45] (λa1 wr=> ∃k:Nat,k<=aE/\a1= .int .i64 k/\Hid (Below W'.heap.size W' wr)) (λa1 _=>aE+1-(intOf a1).toNat)
     case atStart=>exact⟨0,by omega,rfl,Zh (Below.refl _ _)⟩
     case round=>
      obtain⟨k,cf,rfl,aa⟩:=hrel;have cg:=bO.out;have ci:k<bS:=(by omega);have bf:=bQ.below aa.out;have a2:=Yiz;have a3:=(aa.cell (p:=⟨B,0,none⟩) (Al aK.k)).trans aK.k;have aL:=(aa.cell (p:=⟨B,1,none⟩) (Al aK.n)).trans aK.n;have aM:=(aa.cell (p:=⟨B,2,none⟩) (Al aK.w)).trans aK.w;simp only [Hy,Hr,Hl] at a3 aL aM;have bg:=Yms;have bT:=Ynp;by_cases bU:k<aE
      . have bh:((64*p+2+k*sz d:Nat):Int)≠(addr:Int):=by
         have h1:=bc.out;have aH:(k+1)*sz d<=aE*sz d:=Nat.mul_le_mul_right _ bU;have cj:=Qx d;rw [Nat.add_mul] at aH;omega
        generalize 64*p+2+k*sz d=A at*;have d4:((A:Int)==(addr:Int))=false:=(by simpa using bh);clear bh;have a4:prog.follows .mixedOrders=true:=(by kernel_rfl);have bi:=(λX:BL wr=>X.cell a2);have bj:=(λX:BL wr=>X.cell aL);have bk:=(λX:BL wr=>X.cell aM);gi_wp2;refine EL (by kernel_rfl) a4 (by kernel_rfl) ?_
        repeat (gi_big_quiet_step ((gi_at_call 95;exact Fa (bg _))))
        refine wpQuietIn_nil ?_;rintro _ ⟨X,rfl⟩;have a5:=Zh (aa.trans (X.h.mono aa.size));gi_wp2;go_roundw
        case rel=>exact⟨k+1,by omega,by go_num,a5⟩
        case measure=>simp [intOf];omega
      . obtain rfl:k=aE:=by omega
        have bm:=bc.out;have d4:(((64*p+2+k*sz d:Nat):Int)==(addr:Int))=true:=(by rw [<-bm];simp);generalize 64*p+2+k*sz d=A at*;have d5:=bP.out;clear bm;have a4:=OM;have bi:=(λX:BL wr=>X.cell a2);have bj:=(λX:BL wr=>X.cell aL);have bk:=(λX:BL wr=>X.cell aM);gi_wp2;refine EL (by kernel_rfl) a4 (by kernel_rfl) ?_
        repeat (gi_big_quiet_step ((first|(gi_at_call 95;exact Fa (bg _))|(gi_at_call 94;exact Fa ((bT _).mono λe w' h=>⟨h.1,h.2▸Below.refl _ _⟩)))))
        refine wpQuietIn_nil ?_;rintro _ ⟨X,rfl⟩;have bo:=bf.below X.h;have ck:=X.cell a3;have cl:=X.cell aL;have cn:=X.cell aM;have bV:=Zh ((BJ (aa.trans (X.h.mono aa.size))).from w2.heap.size);have a5:=Zh (bd.trans ((aa.trans (X.h.mono aa.size)).mono bd.size));generalize X.W=bW at*;have aV:=Zh (bo.set (.int .i64 p) (.int .i64 (k:Nat)) (.int .i64 1) (.int .i64 d) (.int .u64 m) (.bool true));have aW:=Zh (Ml (w:=w) a5 (.int .i64 p) (.int .i64 (k:Nat)) (.int .i64 1) (.int .i64 d) (.int .u64 m) (.bool true));have aX:=Zh (Mc bW w.heap.size w2.heap.size (.int .i64 p) (.int .i64 (k:Nat)) (.int .i64 1) (.int .i64 d) (.int .u64 m) (.bool true));obtain⟨q1,bH,bI,bJ,bK,bL,u1,u2,u3,aY,aZ,a0⟩:=bo;clear bi bj bk a3 aL aM a2 bf;gi_wp2
        gi_region_with_o (fail)
        all_goals
         gi_wp2;exact⟨bR.trans (bV.trans aX),rfl,⟨_,_,aU,aV⟩,aW⟩
  . have bX:=aT.resolve_left aP
    obtain⟨bp,bq⟩:=bX;have aD:Hid (y∉(pre++ [(⟨(p,hd),aj⟩:{z:Nat × Hd // z∈L})]).map (λ(z:{z:Nat × Hd // z∈L})=>z.1)):=Zh (by
     have:=bF.out;simp only [List.map_append,List.mem_append,not_or,List.map_cons,List.map_nil,List.mem_singleton] at this ⊢;exact⟨this,λe=>aP e.symm⟩)
    clear aT aP ag
    cases hd with
    |Bz ww=>
     simp only [Hy,Hr,Hl] at O af hw;dsimp only at bp bq;have d0:((2:Int)==2)=true:=(by decide);have d1:((2:Int) !=1)=true:=(by decide);have d2:((addr:Int)==(p:Int)*64+2)=false:=(by simp;omega);exact Ygk
    |small d m=>
     simp only [Hy,Hr,Hl] at O af hw;dsimp only at bp bq;have d0:((1:Int)==2)=false:=(by decide);have d1:((1:Int) !=1)=false:=(by decide);have d2:((addr:Int)/64 !=(p:Int))=true:=(by simp;omega);exact Ygk
 case done=>
  rintro D' xs W bY bZ ⟨aJ,hi⟩ U;exact absurd (by rw [bZ];exact bw.out) aJ
 case stop=>
  rintro D' aS pre W bY ⟨t,b3⟩ ⟨rfl,⟨u,v,br,ao⟩,aF⟩ U;have au:=Zh aF;have aB:=Zh br;have b4:=Yks;obtain⟨u1,u2,u3,aY,aZ,a0,_⟩:=b4;clear aF ao b3 br hdiv a6;gi_wp2;refine⟨by simp, .inl ⟨_,_,rfl,run_takeDeferred U, ?_⟩⟩;refine⟨.tuple #[u,v,IA y.2, .bool true], ?_, ?_⟩
  . simp [results,f103,go_sem,u1,u2,u3,aY,aZ,a0,Je]
  . exact Yez
