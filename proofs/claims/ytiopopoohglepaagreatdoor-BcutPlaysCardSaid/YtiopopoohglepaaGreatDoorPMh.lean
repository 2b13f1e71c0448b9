/- A part. -/
import Derived.Test.YtiopopoohglepaaGreatDoorPMb
import Derived.Test.YtiopopoohglepaaGreatDoorPMg
import Derived.Shelf.Spec.TrailingZeros
import Derived.Laws.Bits64b
import Derived.Ground.Names7Prog
import Derived.Shelf.Lay
import Derived.Shelf.SlGeneric
set_option linter.all false
set_option maxRecDepth 100000
set_option maxHeartbeats 4000000
namespace Go.Proofs.YtiopopoohglepaaGreatDoor
open Go.Proofs.Tryz
open Go.RowKit Go.Shelf
variable {A W W' w w':World}{B a base ha i k mb n q x:Nat}{Cs F F':Nat->Prop}{e:TypeId}{mem:Nat->Nat}{p:Addr}{ps:List Nat}{v:Value}{xs:List Value}
theorem Dy(I:k<64):2^k<18446744073709551616:=Nat.lt_of_lt_of_le (Nat.pow_lt_pow_of_lt (by omega) I) (by decide)
theorem Js(h:x<18446744073709551616):IntKind.u64.wrap (x:Int)=(x:Int):=by rw [IntKind.wrap_u64];omega
theorem Lh(I:k<64):IntKind.u64.wrap ((2:Int)^k)=((2^k:Nat):Int):=by
 have h:=Dy I;rw [show((2:Int)^k)=((2^k:Nat):Int) by push_cast;rfl,Js h]
theorem WE(m k:Nat)(hm:m<18446744073709551616):(bits BinOp.and IntKind.u64 ((m:Int)/2^k) 1==1)=m.testBit k:=by
 have h1:((m:Int)/2^k)=((m/2^k:Nat):Int):=by push_cast;rfl
 have I:m/2^k<18446744073709551616:=Nat.lt_of_le_of_lt (Nat.div_le_self _ _) hm;rw [h1,show(1:Int)=((1:Nat):Int) from rfl,bits_and_u64_nat _ _ I (by omega),Nat.and_one_is_mod,Nat.testBit_eq_decide_div_mod_eq];by_cases h:m/2^k%2=1
 . simp [h]
 . have:m/2^k%2=0:=by omega
   simp [this]
theorem VJ(m k:Nat)(hm:m<18446744073709551616)(I:k<64):bits BinOp.or IntKind.u64 (m:Int) (IntKind.u64.wrap ((2:Int)^k))=((m ||| 2^k:Nat):Int):=by
 rw [Lh I,bits_or_u64_nat _ _ hm (Dy I)]
def Ygc{P}(h:P:=by
 rw [BitVec.ofInt_natCast,BitVec.toNat_ofNat];exact Nat.mod_eq_of_lt (by omega)):=h
theorem Su(m k:Nat)(hm:m<18446744073709551616)(I:k<64)(J:m.testBit k=true):bits BinOp.andNot IntKind.u64 (m:Int) (IntKind.u64.wrap ((2:Int)^k))=((m ^^^ 2^k:Nat):Int):=by
 have hp:=Dy I;rw [Lh I];have h1:(BitVec.ofInt 64 (m:Int)).toNat=m:=by
  exact Ygc
 have O:(BitVec.ofInt 64 ((2^k:Nat):Int)).toNat=2^k:=by
  exact Ygc
 have U:(BitVec.ofInt 64 (m:Int) &&& ~~~ BitVec.ofInt 64 ((2^k:Nat):Int)).toNat=m ^^^ 2^k:=by
  rw [BitVec.toNat_and,BitVec.toNat_not,h1,O];apply Nat.eq_of_testBit_eq;intro j;rw [Nat.testBit_and,show 2^64-1-2^k=2^64-(2^k+1) by omega,Nat.testBit_two_pow_sub_succ (by omega),Nat.testBit_two_pow,GC J];by_cases V:j<64
  . simp [V]
  . have:m.testBit j=false:=Nat.testBit_lt_two_pow (Nat.lt_of_lt_of_le hm (by have:=Nat.pow_le_pow_right (n:=2) (by omega) (show 64<=j by omega);exact this))
    simp [this]
 have Z:m ^^^ 2^k<18446744073709551616:=Nat.xor_lt_two_pow (n:=64) hm hp
 show IntKind.u64.wrap ((BitVec.ofInt 64 (m:Int) &&& ~~~ BitVec.ofInt 64 ((2^k:Nat):Int)).toNat:Int)=_
 rw [U,Js Z]
theorem TW(n:Nat)(I:n<64):IntKind.u64.wrap (IntKind.u64.wrap ((2:Int)^n)-1)=((2^n-1:Nat):Int):=by
 have h:=Dy I;have h1:=Nat.one_le_two_pow (n:=n);rw [Lh I,show((2^n:Nat):Int)-1=((2^n-1:Nat):Int) by omega,Js (by omega)]
theorem Zs(m k:Nat)(hm:m<18446744073709551616)(J:k<64)(w:World):
 Calls prog 94 #[.int .u64 m, .int .i64 k] w λe w' =>e= .returned (.bool (m.testBit k))/\w=w' :=by
 have I:=Zh (WE m k hm);go_enter func94,ntmps94;go_wp2;go_ret;rw [<-I.out];exact⟨rfl,rfl⟩
theorem Z3(m k:Nat)(hm:m<18446744073709551616)(I:k<64)(w:World):
 Calls prog 147 #[.int .u64 m, .int .i64 k] w λe w' =>e= .returned (.tuple #[.int .u64 ((m ||| 2^k:Nat):Int), .int .i64 0])/\w=w' :=by
 have J:=Zh (VJ m k hm I);go_enter func147,ntmps147;go_wp2
 go_ret2
 rw [<-J.out];exact⟨rfl,rfl⟩
theorem WQ(m k:Nat)(hm:m<18446744073709551616)(J:k<64)(I:m.testBit k=true)(w:World):
 Calls prog 149 #[.int .u64 m, .int .i64 k] w λe w' =>e= .returned (.tuple #[.int .u64 ((m ^^^ 2^k:Nat):Int), .int .i64 0])/\w=w' :=by
 have O:=Zh (Su m k hm J I);clear I;go_enter func149,ntmps149;go_wp2
 go_ret2
 rw [<-O.out];exact⟨rfl,rfl⟩
theorem Yu(n:Nat)(I:n<64)(w:World):
 Calls prog 117 #[.int .i64 n] w λe w' =>e= .returned (.int .u64 ((2^n-1:Nat):Int))/\w=w' :=by
 have J:=Zh (TW n I);go_enter func117,ntmps117;go_wp2;go_ret;rw [<-J.out];exact⟨rfl,rfl⟩
theorem XR(m f B:Nat)(hm:m<18446744073709551616)(I:f<18446744073709551616)(w:World)(O:w.cell? ⟨B,0,none⟩=some (.int .u64 f)):
 Calls prog 176 #[.int .u64 m, .pointer (some ⟨B,0,none⟩)] w λe w' =>e= .returned (.int .u64 ((m &&& f:Nat):Int))/\w=w' :=by
 have J:=Zh (bits_and_u64_nat m f hm I);go_enter func176,ntmps176;go_wp2;go_ret;rw [<-J.out];exact⟨rfl,rfl⟩
theorem Zu(n:Nat)(J:n<64)(w:World):
 Calls prog 164 #[.int .i64 n] w λe w' =>e= .returned (.func (.func 176) #[] #[.pointer (some ⟨w.heap.size,0,none⟩)])/\w' =w.alloc (.cells #[.int .u64 ((2^n-1:Nat):Int)] 22):=by
 generalize hx:2^n-1=x at*;have I:=Zh (Yu n J);rw [hx] at I;clear hx;go_enter func164,ntmps164;go_wp2_with (go_at_call 117;refine(I _).mono ?_;rintro e w' ⟨rfl,rfl⟩);go_ret;exact⟨rfl,rfl⟩
def Tryz.VM:Go.Shelf.Ren:=⟨fun|29=>165|n=>n,fun|22=>22|3=>3|4=>4|25=>209|54=>246|0=>0|5=>5|n=>n,fun|1=>1|n=>n⟩
theorem Tryz.Afb:Go.Proofs.Lays7.n29 Tryz.prog Tryz.VM:={
 mixed:=by kernel_rfl
 f29:=Tryz.func165.trans (congrArg some (by kernel_rfl))
 t0:=Tryz.underlying0
 a0:=Tryz.isAgg0
 z0:=Tryz.sizeOf0
 v0:=Tryz.zeroValue0
 i0:=by kernel_rfl
 t3:=Tryz.underlying3
 a3:=Tryz.isAgg3
 z3:=Tryz.sizeOf3
 v3:=Tryz.zeroValue3
 i3:=by kernel_rfl
 t4:=Tryz.underlying4
 a4:=Tryz.isAgg4
 z4:=Tryz.sizeOf4
 v4:=Tryz.zeroValue4
 i4:=by kernel_rfl
 t5:=Tryz.underlying5
 a5:=Tryz.isAgg5
 z5:=Tryz.sizeOf5
 v5:=Tryz.zeroValue5
 i5:=by kernel_rfl
 t22:=Tryz.underlying22
 a22:=Tryz.isAgg22
 z22:=Tryz.sizeOf22
 v22:=Tryz.zeroValue22
 i22:=by kernel_rfl
 t25:=Tryz.underlying209
 a25:=Tryz.isAgg209
 z25:=Tryz.sizeOf209
 v25:=Tryz.zeroValue209
 i25:=by kernel_rfl
 t54:=Tryz.underlying246
 a54:=Tryz.isAgg246
 z54:=Tryz.sizeOf246
 g1:=by kernel_rfl }
def Ix(w:World):Prop:=TabAt 1 Lib.deBruijn64tab w
theorem Ix.below(h:Ix w)(I:Below B w w')(J:1<B):Ix w' :=λj O=>(I.cell (p:=⟨1,j,none⟩) J).trans (h j O)
theorem Aa4(x:Nat)(hx:x<18446744073709551616)(w:World)(I:Ix w):
 Calls prog 165 #[.int .u64 x] w λe w' =>e= .returned (.int .i64 (Lib.ctz 64 x:Nat))/\w' =w:=Any7.bits_TrailingZeros64 Tryz.Afb x hx w (λ_=>I)
theorem Ps(m:Nat)(hm:m<18446744073709551616)(j:Nat):(18446744073709551615-m).testBit j=(decide (j<64)&& !m.testBit j):=by
 rw [show 18446744073709551615-m=2^64-(m+1) by omega,Nat.testBit_two_pow_sub_succ (by omega)]
def Th(m n:Nat)(r:Int):Prop:=(r= -1/\ ∀k,k<n->m.testBit k=true)\/ ∃k,k<n/\r=(k:Nat)/\m.testBit k=false
theorem XY(m:Nat)(hm:m<18446744073709551616):bits BinOp.xor IntKind.u64 IntKind.u64.max (m:Int)=((18446744073709551615-m:Nat):Int):=by
 rw [show IntKind.u64.max=((18446744073709551615:Nat):Int) from rfl,bits_xor_u64_nat _ _ (by omega) hm]
 congr 1
 apply Nat.eq_of_testBit_eq;intro j;rw [Ps m hm,Nat.testBit_xor,show 18446744073709551615=2^64-1 by rfl,Nat.testBit_two_pow_sub_one];by_cases I:j<64
 . simp [I]
 . have:m.testBit j=false:=Nat.testBit_lt_two_pow (Nat.lt_of_lt_of_le hm (by have:=Nat.pow_le_pow_right (n:=2) (by omega) (show 64<=j by omega);exact this))
   simp [I,this]
theorem TX(m n:Nat)(hm:m<18446744073709551616)(J:n<64)(j:Nat):((18446744073709551615-m) &&& (2^n-1)).testBit j=(decide (j<n)&& !m.testBit j):=by
 rw [Nat.testBit_and,Ps m hm,Nat.testBit_two_pow_sub_one];by_cases I:j<n
 . simp [I,show j<64 by omega]
 . simp [I]
theorem WO(m n:Nat)(hm:m<18446744073709551616)(O:n<64)(x:Nat)(hx:x=(18446744073709551615-m) &&& (2^n-1)):
 (x=0->Th m n (-1))/\(x≠0->Th m n (Lib.ctz 64 x:Nat)):=by
 have J:=TX m n hm O;rw [<-hx] at J;constructor
 . intro h0
   refine .inl ⟨rfl,λk U=> ?_⟩;have:=J k;rw [h0,Nat.zero_testBit,decide_eq_true U] at this
   simpa using this.symm
 . intro h0
   have V:x<2^64:=(by rw [hx];exact Nat.and_lt_two_pow _ (Nat.lt_of_le_of_lt (Nat.sub_le _ _) (Dy O)));obtain⟨Z,aa⟩:=Lib.lowest_bit 64 x h0 V;have I:x.testBit (Lib.ctz 64 x)=true:=by
    have:=congrArg (λy=>y.testBit (Lib.ctz 64 x)) Z;simp only [Nat.testBit_and,Nat.testBit_two_pow_self] at this
    cases hh:x.testBit (Lib.ctz 64 x) with
    |true=>rfl
    |false=>rw [hh] at this;simp at this
   rw [J] at I;simp only [Bool.and_eq_true,decide_eq_true_eq,Bool.not_eq_true'] at I;exact .inr ⟨_,I.1,rfl,I.2⟩
theorem IL(m n:Nat)(hm:m<18446744073709551616)(J:n<64)(w:World)(U:Ix w)(hg:1<w.heap.size):
 Calls prog 146 #[.int .u64 m, .int .i64 n] w λe w' => ∃r,e= .returned (.int .i64 r)/\Th m n r/\w' =w.alloc (.cells #[.int .u64 ((2^n-1:Nat):Int)] 22):=by
 have hp:=Nat.lt_of_le_of_lt (Nat.sub_le _ 1) (Dy J);have V:=WO m n hm J _ rfl;have ag:(18446744073709551615-m) &&& (2^n-1)<18446744073709551616:=Nat.and_lt_two_pow (n:=64) _ hp;have Z:=Zh (Zu n J);generalize ah:2^n-1=f at*;have aa:=Zh (λw' h=>XR (18446744073709551615-m) f w.heap.size (by omega) hp w' h);generalize ai:(18446744073709551615-m) &&& f=x at*;have ab:Ix (w.alloc (.cells #[.int .u64 f] 22)):=U.below ((Below.refl _ w).alloc (Nat.le_refl _) _) hg;have aj:=Zh (Aa4 x ag _ ab);have ac:=Zh V;clear V ai ah U ab;have I:=Zh (XY m hm);have ae:(if IntKind.u64.signed=true then-1 else IntKind.u64.max)=IntKind.u64.max:=rfl;have af:(w.alloc (.cells #[.int .u64 f] 22)).cell? ⟨w.heap.size,0,none⟩=some (.int .u64 f):=by go_simp
 by_cases h0:x=0
 . have al:((x:Int)==0)=true:=by simp [h0]
   have O:=Zh h0;clear h0;go_enter func146,ntmps146;go_wp2_with (first|(go_at_call 164;refine(Z _).mono ?_;rintro e w' ⟨rfl,rfl⟩)|(go_at_call 176;(first|rw [I.out]|rw [ae,I.out]);refine(aa _ af).mono ?_;rintro e w' ⟨rfl,rfl⟩))
   go_ret;exact⟨_,rfl,ac.1 O,rfl⟩
 . have al:((x:Int)==0)=false:=by simp;omega
   have O:=Zh h0;clear h0;go_enter func146,ntmps146;go_wp2_with (first|(go_at_call 164;refine(Z _).mono ?_;rintro e w' ⟨rfl,rfl⟩)|(go_at_call 176;(first|rw [I.out]|rw [ae,I.out]);refine(aa _ af).mono ?_;rintro e w' ⟨rfl,rfl⟩)|(go_at_call 165;refine aj.mono ?_;rintro e w' ⟨rfl,rfl⟩))
   go_ret;exact⟨_,rfl,ac.2 O,rfl⟩
structure Ad(w:World)(F:Nat->Prop)(w' :World)(F' :Nat->Prop):Prop where
 os:w'.os=w.os
 tape:w'.tape=w.tape
 output:w'.output=w.output
 size:w.heap.size<=w'.heap.size
 keep: ∀k,k<w.heap.size-> ¬F k->w'.heap[k]? =w.heap[k]?
 grow: ∀k,F' k->F k\/w.heap.size<=k
theorem Ad.refl(w:World)(F:Nat->Prop):Ad w F w F:=⟨rfl,rfl,rfl,Nat.le_refl _,λ_ _ _=>rfl,λ_ h=> .inl h⟩
theorem Ad.trans{w1 w2:World}{I F2:Nat->Prop}(h:Ad w F w1 I)(k:Ad w1 I w2 F2):Ad w F w2 F2 where
 os:=k.os.trans h.os
 tape:=k.tape.trans h.tape
 output:=k.output.trans h.output
 size:=Nat.le_trans h.size k.size
 keep:=λi hi J=>by
  refine(k.keep i (Nat.lt_of_lt_of_le hi h.size) (λO=> ?_)).trans (h.keep i hi J);rcases h.grow i O with h1|h1
  . exact J h1
  . omega
 grow:=λi hi=>by
  rcases k.grow i hi with h1|h1
  . exact h.grow i h1
  . exact .inr (Nat.le_trans h.size h1)
theorem Ad.below(h:Below w.heap.size w w'):Ad w F w' F:=⟨h.os,h.tape,h.output,h.size,λk I _=>h.block k I,λ_ h=> .inl h⟩
theorem Ad.Hf(h:Ad w F w' F')(O:B<=w.heap.size)(I: ∀k,F k->B<=k):Below B w w' :=
 ⟨h.os,h.tape,h.output,h.size,λk U=>h.keep k (by omega) (λJ=>by have:=I k J;omega)⟩
theorem Ad.cell(h:Ad w F w' F')(I:w.cell? p=some v)(J: ¬F p.block):w'.cell? p=some v:=
 (World.cell?_of_block (h.keep p.block (Am I) J)).trans I
theorem Ad.not(h:Ad w F w' F'){b:Nat}(J:b<w.heap.size)(I: ¬F b): ¬F' b:=λhh=>by
 rcases h.grow b hh with h1|h1
 . exact I h1
 . omega
theorem Dh{v:Nat}{D:DW}(h:XG w D x v w'):Ad w (Bn a mb D) w' (Bn a mb D):=by
 obtain⟨g,hg,rfl⟩:=h;exact⟨rfl,rfl,rfl,by simp,λk J I=>Below.heap_setCell _ _ _ k (λe=>I (.inr (.inr ⟨x/64,by subst e;exact hg⟩))),λ_ h=> .inl h⟩
theorem Sj{D D' :DW}(h:Gr w D w' D' mb):Ad w (Bn a mb D) w' (Bn a mb D'):=
 ⟨h.1.os,h.1.tape,h.1.output,h.1.size,λk I J=>h.1.block k I (λe=>J (.inr (.inl (by cases e;rfl)))),λk I=>by
  rcases I with rfl|rfl|⟨p,hp⟩
  . exact .inl (.inl rfl)
  . exact .inl (.inr (.inl rfl))
  . rcases h.2 p k hp with h1|h1
    . exact .inl (.inr (.inr ⟨p,h1⟩))
    . exact .inr h1⟩
theorem SG{D D' :DW}(h:Sh w D w' D' mb):Ad w (Bn a mb D) w' (Bn a mb D'):=by
 have hg:=h.1.grown;exact⟨hg.os,hg.tape,hg.output,hg.size,λk I J=>hg.block k I (λe=>J (.inr (.inl (by cases e;rfl)))),λk I=>by
  rcases I with rfl|rfl|⟨p,hp⟩
  . exact .inl (.inl rfl)
  . exact .inl (.inr (.inl rfl))
  . exact .inl (.inr (.inr ⟨p,h.2 p k hp⟩))⟩
structure BD(w:World)(ha a mb:Nat)(D:DW)(ps:List Nat)(q:Nat)(mem:Nat->Nat):Prop where
 hs:w.cell? ⟨ha,0,none⟩=some (.pointer (some ⟨a,0,none⟩))
 sl:AW w a mb D ps q mem
 off: ¬Bn a mb D ha
 tab:Ix w
 Fw: ∀b,Bn a mb D b->1<b
theorem BD.below{D:DW}(h:BD w ha a mb D ps q mem)(I:Below w.heap.size w w'):BD w' ha a mb D ps q mem where
 hs:=(I.cell (p:=⟨ha,0,none⟩) (Am h.hs)).trans h.hs
 sl:=h.sl.below I (λb J=>h.sl.lt J)
 off:=h.off
 tab:=h.tab.below I (Nat.lt_trans (h.Fw a (.inl rfl)) (h.sl.lt (.inl rfl)))
 Fw:=h.Fw
theorem BD.Aq{D D' :DW}{J:List Nat}{mem':Nat->Nat}(h:BD w ha a mb D ps q mem)(hs:AW w' a mb D' J q mem')(I:Ad w (Bn a mb D) w' (Bn a mb D')):BD w' ha a mb D' J q mem' where
 hs:=(World.cell?_of_block (a:=⟨ha,0,none⟩) (I.keep ha (Am h.hs) h.off)).trans h.hs
 sl:=hs
 off:=λhh=>by
  rcases I.grow ha hh with h1|h1
  . exact h.off h1
  . have:=Am h.hs;simp only at this;omega
 tab:=λj O=>by
  have U:=Nat.lt_trans (h.Fw a (.inl rfl)) (h.sl.lt (.inl rfl));exact(World.cell?_of_block (a:=⟨1,j,none⟩) (I.keep _ U (λV=>Nat.lt_irrefl _ (h.Fw _ V)))).trans (h.tab j O)
 Fw:=λb Z=>by
  rcases I.grow b Z with h1|h1
  . exact h.Fw b h1
  . exact Nat.lt_of_lt_of_le (Nat.lt_trans (h.Fw a (.inl rfl)) (h.sl.lt (.inl rfl))) h1
def Is:Hd->Value
 | .small c m=> .agg #[.int .i64 1, .int .i64 c, .int .u64 m]
 | .Bx w=> .agg #[.int .i64 2, .int .i64 ((w+65)/64:Nat), .int .u64 w]
theorem YZ(k n:Nat)(J:k<256)(I:k+256*n<18446744073709551616):bits BinOp.and IntKind.u64 ((k+256*n:Nat):Int) 255=(k:Nat):=by
 rw [show(255:Int)=((255:Nat):Int) from rfl,bits_and_u64_nat _ _ I (by omega),show 255=2^8-1 from rfl,Nat.and_two_pow_sub_one_eq_mod];omega
theorem AW.alloc{D:DW}(h:AW w a mb D ps q mem)(o:Obj):AW (w.alloc o) a mb D ps q mem:=
 h.below ((Below.refl _ w).alloc (Nat.le_refl _) o) (λb I=>h.lt I)
theorem Hz{D:DW}(h:BD w ha a mb D ps q mem)(p k n m:Nat)(hp:p∈ps)(U:k<256)(aa:n<1000000)(h1:mem (64*p)=k+256*n)(O:mem (64*p+1)=m):
 Calls prog 142 #[.pointer (some ⟨ha,0,none⟩), .int .i64 p] w λe w' =>e= .returned (.agg #[.int .i64 k, .int .i64 n, .int .u64 m])/\Below w.heap.size w w' :=by
 have ab:=h.sl.low p hp;have I:=λo=>NH (h.sl.alloc o) (64*p) (by rw [show 64*p/64=p by omega];exact hp)
 have J:=λo=>NH (h.sl.alloc o) (64*p+1) (by rw [show(64*p+1)/64=p by omega];exact hp)
 rw [h1] at I;rw [O] at J;have hA:=Zh (YZ k n U (by omega));have V:=Zh I;have Z:=Zh J;have hs:=h.hs;have ac:ha<w.heap.size:=Am hs;clear I J h h1 O;generalize hx:k+256*n=x at*;have ae:(x:Int)/256=(n:Nat):=by omega
 go_enter func142,ntmps142;go_wp2_with (go_at_call 53;first|(rw [show((p:Int)*64+1)=((64*p+1:Nat):Int) by push_cast;omega];refine(Z _).mono ?_;rintro e w' ⟨rfl,rfl⟩)|(rw [show((p:Int)*64)=((64*p:Nat):Int) by push_cast;omega];refine(V _).mono ?_;rintro e w' ⟨rfl,rfl⟩))
 rw [hA.out,show wrap64 (k:Int)=(k:Nat) by unfold wrap64;omega];refine bodyPost_ret_by (v:= .agg #[.int .i64 k, .int .i64 n, .int .u64 m]) ?_ rfl ⟨rfl,(Below.refl _ w).alloc (Nat.le_refl _) _⟩;simp [results,f142,go_sem]
theorem Y0(k n:Nat)(I:k<256):k ||| 256*n=k+256*n:=by
 have:=Nat.shiftLeft_add_eq_or_of_lt (i:=8) (b:=k) (by omega) n;rw [Nat.shiftLeft_eq] at this;rw [Nat.or_comm,show 256*n=n*2^8 by omega,<-this];omega
theorem AaQ(k n:Nat)(I:k<256)(J:n<1000000):bits BinOp.or IntKind.u64 (k:Int) ((256*n:Nat):Int)=((k+256*n:Nat):Int):=by
 rw [bits_or_u64_nat _ _ (by omega) (by omega),Y0 k n I]
theorem KT{D:DW}(h:BD w ha a mb D ps q mem)(p k n m:Nat)(hp:p∈ps)(ai:k<256)(aj:n<1000000)(hm:m<18446744073709551616):
 Calls prog 100 #[.pointer (some ⟨ha,0,none⟩), .int .i64 p, .agg #[.int .i64 k, .int .i64 n, .int .u64 m]] w λe w' =>e= .returned (.tuple #[])/\BD w' ha a mb D ps q (B7 (B7 mem (64*p) (k+256*n)) (64*p+1) m)/\Ad w (Bn a mb D) w' (Bn a mb D):=by
 have ay:=h.sl.low p hp;have hs:=h.hs;have al:=Zh (AaQ k n ai aj);have O:=Zh h;clear h;go_enter func100,ntmps100;go_wp2_with fail;have U:=Zh (O.below ((Below.refl _ w).alloc (Nat.le_refl _) (Obj.cells #[Value.int IntKind.i64 k,Value.int IntKind.i64 n,Value.int IntKind.u64 m] 165)));have am:(w.alloc (Obj.cells #[Value.int IntKind.i64 k,Value.int IntKind.i64 n,Value.int IntKind.u64 m] 165)).cell? ⟨w.heap.size,0,none⟩=some (.int .i64 k):=by go_simp
 have an:(w.alloc (Obj.cells #[Value.int IntKind.i64 k,Value.int IntKind.i64 n,Value.int IntKind.u64 m] 165)).cell? ⟨w.heap.size,1,none⟩=some (.int .i64 n):=by go_simp
 have V:(w.alloc (Obj.cells #[Value.int IntKind.i64 k,Value.int IntKind.i64 n,Value.int IntKind.u64 m] 165)).cell? ⟨w.heap.size,2,none⟩=some (.int .u64 m):=by go_simp
 have Z:Ad w (Bn a mb D) (w.alloc (Obj.cells #[Value.int IntKind.i64 k,Value.int IntKind.i64 n,Value.int IntKind.u64 m] 165)) (Bn a mb D):= .below ((Below.refl _ w).alloc (Nat.le_refl _) _);have ao: ¬Bn a mb D w.heap.size:=λaq=>Nat.lt_irrefl _ (O.sl.lt aq)
 generalize (w.alloc (Obj.cells #[Value.int IntKind.i64 k,Value.int IntKind.i64 n,Value.int IntKind.u64 m] 165))=W at*;have ar:=U.hs;refine Cj 14 (by kernel_rfl) (by kernel_rfl) ?_;simp only [List.take_succ_cons,List.take_zero,List.drop_succ_cons,List.drop_zero]
 repeat (go_big_quiet_step (fail))
 refine wpQuiet_nil ?_;rintro _ ⟨aa,rfl⟩;go_wp2_with fail;have ab:=Zh (U.below (AL W aa));rw [show((p:Int)*64)=((64*p:Nat):Int) by push_cast;omega,show((n:Int)*256)=((256*n:Nat):Int) by push_cast;omega,al.out];refine(Jk ab.sl (64*p) (k+256*n) (by rw [show 64*p/64=p by omega];exact hp) (by omega)).mono ?_;rintro e w1 ⟨rfl,I,ac⟩;have ae:=Zh (ab.Aq ac (Dh I));have az :=(Dh (a:=a) (mb:=mb) I).cell (p:=⟨w.heap.size,2,none⟩) (v:= .int .u64 m) V ao;have aA:=ae.hs;have au:=Zh ((Z.trans (.below (AL W aa))).trans (Dh (a:=a) (mb:=mb) I));clear Z I ac am an V ar;go_wp2_with fail;refine Cj 9 (by kernel_rfl) (by kernel_rfl) ?_;simp only [List.take_succ_cons,List.take_zero,List.drop_succ_cons,List.drop_zero]
 repeat (go_big_quiet_step (fail))
 refine wpQuiet_nil ?_;rintro _ ⟨af,rfl⟩;go_wp2_with fail;have ag:=Zh (ae.below (AL w1 af));rw [show((p:Int)*64+1)=((64*p+1:Nat):Int) by push_cast;omega];refine(Jk ag.sl (64*p+1) m (by rw [show(64*p+1)/64=p by omega];exact hp) hm).mono ?_;rintro e w2 ⟨rfl,J,ah⟩;have aw:=Zh (ag.Aq ah (Dh J));have ax:=Zh ((au.trans (.below (AL w1 af))).trans (Dh (a:=a) (mb:=mb) J));clear J ah;go_wp2_with fail;go_end0;exact⟨rfl,aw,ax⟩
theorem EF{D:DW}(h:BD w ha a mb D ps q mem):Calls prog 91 #[.pointer (some ⟨ha,0,none⟩)] w λe w' =>e= .returned (.bool false)/\w=w' :=by
 have hs:=h.hs;clear h;go_enter func91,ntmps91;go_wp2;go_ret;exact⟨rfl,rfl⟩
theorem Nz(p c k:Nat)(hp:p<524288)(U:c<8)(J:k<AY c)(w:World):
 Calls prog 95 #[.int .i64 p, .int .i64 c, .int .i64 k] w λe w' =>e= .returned (.int .i64 (64*p+2+k*sz c:Nat))/\Below w.heap.size w w' :=by
 have V:=Fb c k U J;have I:=UT (c:Nat) (k:Nat) w (by omega) (by have:=CG c;omega);rw [show Jf (c:Int) (k:Int)= .tuple #[.int .i64 (2+k*sz c:Nat), .int .i64 0] by
  unfold Jf;rw [if_pos ⟨by omega,by omega,by simpa using J⟩];simp] at I
 have Z:=Zh I;clear I;generalize hx:2+k*sz c=x at*;have O:64*p+2+k*sz c=64*p+x:=by omega
 rw [O];have ab:x<=64:=by omega
 clear O hx V;go_enter func95,ntmps95;go_wp2_with (go_at_call 144;refine Z.mono ?_;rintro e w' ⟨rfl,aa⟩);go_ret;exact⟨by rw [show((64*p+x:Nat):Int)=(p:Int)*64+(x:Nat) by push_cast;omega];rfl,aa⟩
def E5(mem:Nat->Nat)(x n:Nat):Nat->Nat:=λi=>if x<=i/\i<x+n then 0 else mem i
theorem Rn(mem:Nat->Nat)(x:Nat):E5 mem x 0=mem:=by funext i;unfold E5;rw [if_neg (by omega)]
theorem Sg(mem:Nat->Nat)(x n:Nat):B7 (E5 mem x n) (x+n) 0=E5 mem x (n+1):=by
 funext i
 unfold B7 E5;by_cases h1:i=x+n
 . rw [if_pos h1,if_pos (by omega)]
 . rw [if_neg h1]
   by_cases I:x<=i/\i<x+n
   . rw [if_pos I,if_pos (by omega)]
   . rw [if_neg I,if_neg (by omega)]
theorem TP{D:DW}(h:BD w ha a mb D ps q mem)(x n:Nat)(ac:n<=4096)(hp: ∀k,k<n->(x+k)/64∈ps):
 Calls prog 148 #[.pointer (some ⟨ha,0,none⟩), .int .i64 x, .int .i64 n] w λe w' =>e= .returned (.tuple #[])/\BD w' ha a mb D ps q (E5 mem x n)/\Ad w (Bn a mb D) w' (Bn a mb D):=by
 have V:=Zh h;clear h;go_enter func148,ntmps148;go_wp2
 go_loopw [8] (λI wr=> ∃k:Nat,k<=n/\I= .int .i64 k/\Hid (BD wr ha a mb D ps q (E5 mem x k))/\Hid (Ad w (Bn a mb D) wr (Bn a mb D))) (λI _=>n-(intOf I).toNat)
 case atStart=>exact⟨0,by omega,rfl,by rw [Rn];exact V,Zh (.refl _ _)⟩
 case round=>
  obtain⟨k,ae,rfl,H,T⟩:=hrel;by_cases Z:k<n
  . have J:=hp k Z
    have af:=H.sl.low _ J;have hs:=H.hs;have aa:=Zh J;clear J;go_wp2_with (go_at_call 58;rw [show((x:Int)+(k:Int))=((x+k:Nat):Int) by push_cast;rfl,show(0:Int)=((0:Nat):Int) from rfl];refine(Jk H.sl (x+k) 0 aa (by omega)).mono ?_;rintro e w1 ⟨rfl,O,U⟩);rw [Sg] at U;have H2:=Zh (H.Aq U (Dh O));have ab:=Zh (T.trans (Dh (a:=a) (mb:=mb) O));clear U O;go_roundw
    case rel=>exact⟨k+1,by omega,by go_num,H2,ab⟩
    case measure=>simp [intOf];omega
  . obtain rfl:k=n:=by omega
    go_wp2;go_end0;exact⟨rfl,H,T⟩
attribute [local go_sem] Oper.semAt_some
structure KB(Cs:Nat->Prop)(A B:World):Prop where
 size:A.heap.size<=B.heap.size
 same: ∀(k:Nat) (o:Obj),A.heap[k]? =some o->(o.isCells=true\/o.isWalk=true)-> ¬Cs k->B.heap[k]? =some o
theorem KB.refl(Cs:Nat->Prop)(A:World):KB Cs A A:=⟨Nat.le_refl _,λ_ _ h _ _=>h⟩
theorem KB.trans{B C:World}(h:KB Cs A B)(k:KB Cs B C):KB Cs A C:=⟨Nat.le_trans h.size k.size,λi o hi I J=>k.same i o (h.same i o hi I J) I J⟩
theorem KB.below{B:World}(h:Below A.heap.size A B):KB Cs A B:=⟨h.size,λk o I _ _=>(h.block k (Array.getElem?_eq_some_iff.1 I).1).trans I⟩
theorem KB.putObj{l:Nat}{o:Obj}(O :Obj)(h:W.heap[l]? =some o)(h1:o.isCells=false)(U:o.isWalk=false):KB Cs W (W.putObj l O):=by
 have hg:=grownBy_putObj' W l O;refine⟨hg.size,λk u J hu _=> ?_⟩;have V:k≠l:=by
  rintro rfl;rw [h] at J
  cases J
  rcases hu with I|I
  . rw [h1] at I;cases I
  . rw [U] at I;cases I
 exact(hg.block k (Array.getElem?_eq_some_iff.1 J).1 (by simpa using V)).trans J
theorem KB.setCell(h:Cs p.block)(v:Value):KB Cs W (W.setCell p v):=
 ⟨by simp,λk o I _ J=>(Below.heap_setCell W p v k (λe=>J (e▸h))).trans I⟩
theorem Hk(h:w.cell? p=some v): ∃o,w.heap[p.block]? =some o/\o.isCells=true:=by
 unfold World.cell? at h
 cases I:w.heap[p.block]? with
 |none=>rw [I] at h;simp at h
 |some o=>
  rw [I] at h
  cases o<;>first|exact⟨_,rfl,rfl⟩|(simp at h)
theorem KB.cell{B:World}(h:KB Cs A B)(I:A.cell? p=some v)(O: ¬Cs p.block):B.cell? p=some v:=by
 obtain⟨o,J,h1⟩:=Hk I;exact(World.cell?_of_block (w:=A) (w' :=B) ((h.same _ o J (.inl h1) O).trans J.symm)).trans I
theorem BD.kb{D:DW}(h:BD w ha a mb D ps q mem)(J:KB Cs w w')(h1: ∀k,Cs k-> ¬Bn a mb D k)(Z: ¬Cs ha)(aa: ¬Cs 1):BD w' ha a mb D ps q mem where
 hs:=J.cell h.hs Z
 sl:=h.sl.same λb V=>by
  have O: ¬Cs b:=λab=>h1 b ab V
  rcases V with rfl|rfl|⟨p,hp⟩
  . obtain⟨o,I,U⟩:=Hk h.sl.cq
    exact(J.same _ o I (.inl U) O).trans I.symm
  . obtain⟨es,clock,I,_⟩:=h.sl.own
    exact(J.same _ _ I (.inr rfl) O).trans I.symm
  . obtain⟨o,I,U⟩:=Hk (h.sl.words p b hp 0 (by omega)).1
    exact(J.same _ o I (.inl U) O).trans I.symm
 off:=h.off
 tab:=λj ac=>J.cell (h.tab j ac) aa
 Fw:=h.Fw
theorem Dw{β:Type}{J:β->World->Prop}(O:AbidesFrom B J){s:β}(h:J s W)(I:Below W.heap.size W W'):J s W' :=
 O s W W' none h ⟨I.os,I.tape,I.output,I.size,λk U _=>I.block k U⟩ (λr e=>by cases e)
theorem Qm(ha:Nat)(w:World):Calls prog 92 #[.pointer (some ⟨ha,0,none⟩)] w λe w' =>e= .returned (.func (.func 141) #[] #[.pointer (some ⟨w.heap.size,0,none⟩)])/\w' =w.alloc (.cells #[.pointer (some ⟨ha,0,none⟩)] 71):=by
 go_enter func92,ntmps92;go_wp2;go_ret;exact⟨rfl,rfl⟩
def O5(L:HL)(pre:HL)(i next:Nat):Prop:= ∃rest cont,L=pre++rest/\(runs L).drop i=cont++runs rest/\(∀p∈cont,p<next)/\ ∀x∈rest,next<=x.1
theorem L0(L:HL):O5 L [] 0 0:=⟨L,[],rfl,by simp,by simp,by simp⟩
theorem TJ(x:Nat × Hd)(t:HL):runs (x::t)=x.1::(List.range' (x.1+1) (x.2.len-1)++runs t):=by
 have h:=x.2.C6;obtain⟨n,I⟩: ∃n,x.2.len=n+1:=⟨x.2.len-1,by omega⟩;simp [runs,I,List.range'_succ]
def Yfu{P}(h:P:=by
 have:=congrArg (λl=>l.drop 1) hd
 simpa [List.drop_drop,Nat.add_comm] using this):=h
theorem LZ{L pre:HL}{next:Nat}(Z:Lay L)(h:O5 L pre i next):
 (∃p,(runs L)[i]? =some p/\p<next/\O5 L pre (i+1) next)\/
 (∃x rest,L=pre++x::rest/\(runs L)[i]? =some x.1/\next<=x.1/\ ∀next',(next' =x.1+x.2.len\/(next' =next/\x.2.len=1))->O5 L (pre++ [x]) (i+1) next')\/
 (L=pre/\(runs L).length<=i):=by
 obtain⟨rest,cont,rfl,hd,J,I⟩:=h
 cases cont with
 |cons c cont=>
  refine .inl ⟨c, ?_,J c List.mem_cons_self,rest,cont,rfl, ?_,λp hp=>J p (List.mem_cons_of_mem _ hp),I⟩
  . have:=congrArg (λl=>l[0]?) hd
    simpa using this
  . exact Yfu
 |nil=>
  cases rest with
  |nil=>
   refine .inr (.inr ⟨by simp, ?_⟩);have aa:(runs (pre++ [])).length-i=0:=(by rw [<-List.length_drop,hd];simp [runs]);omega
  |cons x rest=>
   rw [List.nil_append,TJ] at hd;refine .inr (.inl ⟨x,rest,rfl, ?_,I x List.mem_cons_self,λnext' O=> ?_⟩)
   . have:=congrArg (λl=>l[0]?) hd
     simpa using this
   . have U:=Z.CY
     rw [List.pairwise_append,List.pairwise_cons] at U;refine⟨rest,List.range' (x.1+1) (x.2.len-1),by simp, ?_, ?_, ?_⟩
     . exact Yfu
     . intro p hp
       rw [List.mem_range'_1] at hp;have:=x.2.C6;rcases O with rfl|⟨_,h1⟩<;>omega
     . intro y V
       have h1:=U.2.1.1 y V;have aa:=I y (List.mem_cons_of_mem _ V);rcases O with rfl|⟨rfl,_⟩<;>omega
theorem Ed(h:w.ownsRow base e 1 v n xs){u:Value}(hi:xs[i]? =some u): ∃g c,v= .slice (some ⟨g,0,none⟩) n c/\base<=g/\g<w.heap.size/\w.cell? ⟨g,i,none⟩=some u:=by
 have I :=h;rcases h.2 with ⟨rfl,h0⟩|⟨g,cap,cur,rfl,J,_⟩
 . have:=h.1
   rw [h0] at this;have O:xs= []:=List.eq_nil_of_length_eq_zero (by omega);rw [O] at hi;simp at hi
 . have:=I.cells (g:=g) rfl i u hi
   refine⟨g,cap,rfl,J,(I.lt g rfl).2, ?_⟩;by_cases h0:i=0
   . subst h0;simpa [Addr.add] using this
   . simpa [Addr.add,h0] using this
def Yfa{P}(h:P:=by
 rcases h.2 with ⟨rfl,rfl⟩|⟨g,cap,cur,rfl,_⟩
 . exact⟨none,0,rfl⟩
 . exact⟨_,_,rfl⟩):=h
theorem Bs(h:w.ownsRow base e 1 v n xs): ∃A c,v= .slice A n c:=by
 exact Yfa
structure EE(w:World)(ha a mb:Nat)(D:DW)(L:HL)(q:Nat)(mem:Nat->Nat)(B base:Nat)(v:Value)(W:World):Prop where
 hp:BD W ha a mb D (runs L) q mem
 box:W.cell? ⟨B,0,none⟩=some (.pointer (some ⟨ha,0,none⟩))
 row:W.ownsRow base 3 1 v (runs L).length ((runs L).map λp:Nat=>Value.int .i64 (p:Int))
theorem FC(h:w.ownsRow base e 1 v n xs)(I:KB Cs w w')(J: ∀k,Cs k->k<base):w'.ownsRow base e 1 v n xs:=by
 refine⟨h.1, ?_⟩;rcases h.2 with h1|⟨g,cap,cur,h1,O,U,V⟩
 . exact .inl h1
 . exact .inr ⟨g,cap,cur,h1,O,I.same g _ U (.inl rfl) (λhh=>by have:=J g hh;omega),V⟩
theorem EE.kb{D:DW}{L:HL}(h:EE w ha a mb D L q mem B base v W)(I:KB Cs W W')
 (h1: ∀k,Cs k-> ¬Bn a mb D k) (J: ¬Cs ha) (O: ¬Cs 1) (U: ¬Cs B) (V: ∀k,Cs k->k<base):EE w ha a mb D L q mem B base v W' :=
 ⟨h.hp.kb I h1 J O,I.cell h.box U,FC h.row I V⟩
theorem EE.below{D:DW}{L:HL}(h:EE w ha a mb D L q mem B base v W)(I:Below W.heap.size W W'):EE w ha a mb D L q mem B base v W' :=
 h.kb (Cs:=λ_=>False) (KB.below I) (λ_ h=>h.elim) (λh=>h) (λh=>h) (λh=>h) (λ_ h=>h.elim)
theorem H0{D:DW}{L:HL}(h:BD w ha a mb D (runs L) q mem)(au:Lay L)(hh:Cz L mem)(aw:w.cell? ⟨B,0,none⟩=some (.pointer (some ⟨ha,0,none⟩)))
 (Cs:Nat->Prop) (c1: ∀k,Cs k-> ¬Bn a mb D k) (c2: ¬Cs ha) (c3: ¬Cs 1) (c4: ¬Cs B) (c5: ∀k,Cs k->k<w.heap.size):
 SeqStopsK Fence.wide 8 prog 141 #[.pointer (some ⟨B,0,none⟩)] (λx:{y:Nat × Hd // y∈L}=> #[.int .i64 x.1.1,Is x.1.2]) (KB Cs) (λxs=>xs.map (·.1)=L) (λpre=> ∃t,L=pre.map (·.1)++t) L.length w:=λl aY a8 W ax ay a9 aj h0=>by
 have al:BD W ha a mb D (runs L) q mem:=h.kb (Cs:=λ_=>False) (KB.below ax) (λ_ h=>h.elim) (λh=>h) (λh=>h);have az:W.cell? ⟨B,0,none⟩=some (.pointer (some ⟨ha,0,none⟩)):=(ax.cell (p:=⟨B,0,none⟩) (Am aw)).trans aw;have hs:=al.hs;have aN:=Zh ((callsIn_wide (n:=7)).2 (Kb al.sl (JS au)));have am:=Zh al;have aO:=Zh au;have aZ:=Zh hh;have aP:=ax.size;clear al aw h au hh;refine callsIn_of_wp func141 rfl trivial ?_ rfl;simp only [ntmps141,List.size_toArray,List.length_cons,List.length_nil,Nat.reduceAdd,Nat.reduceSub,Array.replicate_succ,Array.replicate_zero,List.push_toArray,List.append_toArray,List.nil_append,List.cons_append];gi_wp2_with (refine⟨trivial, ?_⟩;gi_at_call 65;refine aN.mono ?_;rintro e w1 ⟨v,rfl,aA,an⟩;obtain⟨A,c,rfl⟩:=Bs aA);have hlen:(runs L).length<=4096:=by have h1:=am.sl.room;have ba:=am.sl.DA;rw [am.sl.count] at h1;omega
 have H1:Hid (EE w ha a mb D L q mem B W.heap.size (.slice A (runs L).length c) w1):=Zh ⟨am.below an,(an.cell (p:=⟨B,0,none⟩) (Am az)).trans az,aA⟩;have a0:=Zh (Dw ay h0 an);clear aA an az hs h0 aN
 gi_loopw [3,13] (λa1 aB wr=> ∃(pre:List {y:Nat × Hd // y∈L}) (i next:Nat),i<=(runs L).length/\aB= .int .i64 i/\a1= .int .i64 next/\next<=1000000/\Hid (O5 L (pre.map (·.1)) i next)/\Hid (EE w ha a mb D L q mem B W.heap.size (.slice A (runs L).length c) wr)/\Hid (aY pre wr)) (λ_ aB _=>(runs L).length-(intOf aB).toNat)
 case atStart=>exact⟨[],0,0,by omega,rfl,rfl,by omega,Zh (L0 L),H1,a0⟩
 case round=>
  obtain⟨pre,i,next,hi,rfl,rfl,hnx,hpos,H,hj⟩:=hrel;rcases LZ aO.out hpos with ⟨p,hp,bb,U⟩|⟨x,rest,I,hp,hle,U⟩|⟨I,bc⟩
  . obtain⟨g,a2,aC,_,_,aQ⟩:=Ed H.row (i:=i) (u:= .int .i64 (p:Int)) (by rw [List.getElem?_map,hp];rfl)
    cases aC
    have aD:i<(runs L).length:=(List.getElem?_eq_some_iff.1 hp).1;have hd:decide ((p:Int)<(next:Int))=true:=(by simp;omega);have ao:=Zh U;clear hp U aj;gi_wp2;go_roundw
    case rel=>exact⟨pre,i+1,next,by omega,by go_num,by trivial,hnx,ao,H,hj⟩
    case measure=>simp [intOf];omega
  . obtain⟨g,a2,aC,_,_,aQ⟩:=Ed H.row (i:=i) (u:= .int .i64 (x.1:Int)) (by rw [List.getElem?_map,hp];rfl)
    cases aC
    have aD:i<(runs L).length:=(List.getElem?_eq_some_iff.1 hp).1;have V:x∈L:=I▸List.mem_append_right _ List.mem_cons_self;have aq:x.1∈runs L:=(List.getElem?_eq_some_iff.1 hp).2▸List.getElem_mem _;have a3:=H.hp.sl.low _ aq;have aR:=aO.ok x V;have aE:=aZ.out x V;have aS:pre.length<L.length:=(by have a4:=congrArg List.length I;simp only [List.length_append,List.length_map,List.length_cons] at a4;omega);have bd:=H.box;have hd:decide ((x.1:Int)<(next:Int))=false:=(by simp;omega);have ao:=Zh U;have aT:Hid (∃t,L=(pre++ [(⟨x,V⟩:{y:Nat × Hd // y∈L})]).map (λy=>y.1)++t):=Zh ⟨rest,by rw [List.map_append,List.append_assoc];exact I⟩;have aU:Hid ((pre++ [(⟨x,V⟩:{y:Nat × Hd // y∈L})]).map (λy=>y.1)=pre.map (λy=>y.1)++ [x]):=Zh (by rw [List.map_append];rfl);obtain⟨p,a5⟩:=x;simp only at aQ aq a3 hd hle aE;have aV:=Zh aj;have aW:=Zh aq;have ar:=Zh V;clear hp U I aj aq
    cases a5 with
    |small cc m=>
     obtain⟨Z,aa⟩:=aE;obtain⟨be,bf,bg⟩:=aR;have ab:=(callsIn_wide (n:=7)).2 (Hz H.hp p 1 cc m aW (by omega) (by omega) Z aa);have aF:=Zh ab;clear ab Z aa;gi_wp2_with (refine⟨trivial, ?_⟩;gi_at_call 142;refine aF.mono ?_;rintro e w2 ⟨rfl,ac⟩);have J:Below wr.heap.size wr (w2.alloc (Obj.cells #[Value.int IntKind.i64 1,Value.int IntKind.i64 cc,Value.int IntKind.u64 m] 165)):=ac.alloc ac.size _;have ae:=Dw ay hj J;have aG:=Zh (H.below J);obtain⟨fn,tmps,assign,body,O,af⟩:=aV.out pre ⟨(p, .small cc m),ar⟩ _ ae aS;dsimp only [Is] at O;have aH:=Zh af;clear af ae J;rw [O];gi_wp2;refine(aH).mono ?_;rintro e a6 (⟨rfl,ag,ah⟩|⟨rfl,ai⟩)
     . have aI:=Zh (aG.kb ah c1 c2 c3 c4 (λk aJ=>Nat.lt_of_lt_of_le (c5 k aJ) aP))
       have aK:=Zh ag;clear ag ah;gi_wp2;go_roundw
       case rel=>exact⟨pre++ [⟨(p, .small cc m),ar.out⟩],i+1,next,by omega,by go_num,by trivial,hnx,Zh (by rw [aU.out];exact ao.out _ (.inr ⟨rfl,rfl⟩)),aI,aK⟩
       case measure=>simp [intOf];omega
     . have aL:=Zh ai
       clear ai;gi_wp2;refine bodyPost_ret (results_none rfl _ _ _) rfl ?_;exact⟨⟨_,rfl⟩, .inr ⟨_,aT,aL⟩⟩
    |Bx ww=>
     obtain⟨Z,aa⟩:=aE;obtain⟨bh,bi⟩:=aR;obtain⟨nn,aM⟩:=Zx ((ww+65)/64);have bj:nn<=63:=(by omega);have ab:=(callsIn_wide (n:=7)).2 (Hz H.hp p 2 nn ww aW (by omega) (by omega) (aM▸Z) aa);have aF:=Zh ab;have aX:=Zh aM;clear ab Z aa aM;gi_wp2_with (refine⟨trivial, ?_⟩;gi_at_call 142;refine aF.mono ?_;rintro e w2 ⟨rfl,ac⟩);have J:Below wr.heap.size wr (w2.alloc (Obj.cells #[Value.int IntKind.i64 2,Value.int IntKind.i64 nn,Value.int IntKind.u64 ww] 165)):=ac.alloc ac.size _;have ae:=Dw ay hj J;have aG:=Zh (H.below J);obtain⟨fn,tmps,assign,body,O,af⟩:=aV.out pre ⟨(p, .Bx ww),ar⟩ _ ae aS;dsimp only [Is] at O;rw [<-aX.out] at O;have aH:=Zh af;clear af ae J;rw [O];gi_wp2;refine(aH).mono ?_;rintro e a6 (⟨rfl,ag,ah⟩|⟨rfl,ai⟩)
     . have aI:=Zh (aG.kb ah c1 c2 c3 c4 (λk aJ=>Nat.lt_of_lt_of_le (c5 k aJ) aP))
       have aK:=Zh ag;clear ag ah;gi_wp2;go_roundw
       case rel=>exact⟨pre++ [⟨(p, .Bx ww),ar.out⟩],i+1,p+nn,by omega,by go_num,by go_num,by omega,Zh (by rw [aU.out];exact ao.out _ (.inl (by rw [aX.out];rfl))),aI,aK⟩
       case measure=>simp [intOf];omega
     . have aL:=Zh ai
       clear ai;gi_wp2;refine bodyPost_ret (results_none rfl _ _ _) rfl ?_;exact⟨⟨_,rfl⟩, .inr ⟨_,aT,aL⟩⟩
  . have a7:=Zh I
    clear I;have aD:i=(runs L).length:=(by omega);subst aD;clear aj;gi_wp2;go_end0;exact⟨⟨_,rfl⟩, .inl ⟨_,a7.symm,hj⟩⟩
end Go.Proofs.YtiopopoohglepaaGreatDoor
namespace Go.Proofs.YtiopopoohglepaaGreatDoor
open Go.Proofs.Tryz
open Go.RowKit Go.Shelf
variable {B a ha mb q:Nat}{W W' w:World}{mem:Nat->Nat}{ps:List Nat}{u v x:Value}
def ET(mem:Nat->Nat)(p c m k:Nat):Nat->Nat:=E5 (B7 (B7 mem (64*p) (1+256*c)) (64*p+1) (m ||| 2^k)) (64*p+2+k*sz c) (sz c)
def Zf{P}(h:P:=by
 have J:=Zh (Ad.below (F:=Bn a mb D) I);exact J):=h
def Yoj{P}(h:P:=by
 have I: ∀b,w.heap.size<=b-> ¬Bn a mb D b:=λb O J=>by have:=h.sl.lt J;omega
 exact I):=h
theorem take_at{D:DW}(h:BD w ha a mb D ps q mem)(p c m k:Nat)(hp:p∈ps)(U:c<8)(V:k<AY c)(h1:mem (64*p)=1+256*c)(Z:mem (64*p+1)=m):
 Calls prog 102 #[.pointer (some ⟨ha,0,none⟩), .int .i64 p, .int .i64 k] w λe w' =>e= .returned (.int .i64 (64*p+2+k*sz c:Nat))/\BD w' ha a mb D ps q (ET mem p c m k)/\Ad w (Bn a mb D) w' (Bn a mb D):=by
 have an:=h.sl.low p hp;have aN:=CG c;have aO:=Fb c k U V;have ac:m<18446744073709551616:=Z▸h.sl.word _;have FA:m ||| 2^k<18446744073709551616:=Nat.or_lt_two_pow (n:=64) ac (Dy (by omega));have ao:=Zh (Hz h p 1 c m hp (by omega) (by omega) h1 Z);have aq:=Zh (λw=>Z3 m k ac (by omega) w);have ae:=Zh (λw=>Nz p c k an U V w);have ar:JK (c:Int)= .tuple #[.int .i64 (sz c:Nat), .int .i64 0]:=if_pos ⟨by omega,by omega⟩;have aP:sz c<=31:=by obtain⟨aQ,_⟩:=Na c U;omega
 have au:=Zh h;have aw:=Yoj;have af:=Zh hp;clear h h1 Z hp V;unfold ET;obtain⟨ad,ag⟩: ∃ad,Hid (64*p+2+k*sz c=ad):=⟨_,Zh rfl⟩;rw [ag.out] at ae ⊢;have ah: ∀j,j<sz c->(ad+j)/64=p:=λj ai=>by have:=ag.out;omega
 have ax:=Zh ah;clear ah;generalize sz c=s at*;generalize ay:m ||| 2^k=mk at*;clear ay;go_enter func102,ntmps102;go_wp2_with (first|(go_at_call 142;refine ao.mono ?_;rintro e w1 ⟨rfl,J⟩)|(go_at_call 147;refine(aq _).mono ?_;rintro e w2 ⟨rfl,rfl⟩))
 have I:Below w.heap.size w (w1.alloc (Obj.cells #[Value.int IntKind.i64 1,Value.int IntKind.i64 c,Value.int IntKind.u64 mk] 165)):=J.alloc J.size _;have az:=Zh (au.below I);have aj:(w1.alloc (Obj.cells #[Value.int IntKind.i64 1,Value.int IntKind.i64 c,Value.int IntKind.u64 mk] 165)).cell? ⟨w1.heap.size,1,none⟩=some (.int .i64 c):=by go_simp
 have aA:=J.size;have aB:=Zf;clear J I;refine(KT az.out p 1 c mk af (by omega) (by omega) FA).mono ?_;rintro e aC ⟨rfl,al,t5⟩;have aa:=t5.cell aj (aw _ aA);have aD:=Zh al;have aE:=Zh (aB.trans t5);have aF:w1.heap.size<aC.heap.size:=Am aa;clear al t5 aj;go_wp2_with fail;refine(Jg _ _).mono ?_;rintro e w6 ⟨rfl,O⟩;rw [ar];have aG:=(O.cell (p:=⟨w1.heap.size,1,none⟩) aF).trans aa;have aH:=Zh (aD.below O);have aI:=Zh (aE.trans (.below O));clear O aa;go_wp2_with fail;refine(ae _).mono ?_;rintro e aR ⟨rfl,ab⟩;have aJ:=Zh (aH.below ab);have aK:=Zh (aI.trans (.below ab));clear ab aG;go_wp2_with fail;refine(TP aJ.out ad s (by omega) (λj ai=>by rw [ax.out j ai];exact af.out)).mono ?_;rintro e aS ⟨rfl,am,t8⟩;have aL:=Zh am;have aM:=Zh (aK.trans t8);clear am t8;go_wp2;go_ret;exact⟨rfl,aL,aM⟩
def Fg(mem:Nat->Nat)(p c m k:Nat):Nat->Nat:=B7 (B7 mem (64*p) (1+256*c)) (64*p+1) (m ^^^ 2^k)
def Yhz{P}(h:P:=by
 have Z:Below w.heap.size w (w1.alloc (Obj.cells #[Value.int IntKind.i64 1,Value.int IntKind.i64 c,Value.int IntKind.u64 mk] 165)):=J.alloc J.size _;have ab:=Zh (ac.below Z);have O:(w1.alloc (Obj.cells #[Value.int IntKind.i64 1,Value.int IntKind.i64 c,Value.int IntKind.u64 mk] 165)).cell? ⟨w1.heap.size,0,none⟩=some (.int .i64 1):=by go_simp
 have U:(w1.alloc (Obj.cells #[Value.int IntKind.i64 1,Value.int IntKind.i64 c,Value.int IntKind.u64 mk] 165)).cell? ⟨w1.heap.size,1,none⟩=some (.int .i64 c):=by go_simp
 have I:(w1.alloc (Obj.cells #[Value.int IntKind.i64 1,Value.int IntKind.i64 c,Value.int IntKind.u64 mk] 165)).cell? ⟨w1.heap.size,2,none⟩=some (.int .u64 mk):=by go_simp
 have V:=J.size;have aa:=Zh (Ad.below (F:=Bn a mb D) Z);exact And.intro Z (And.intro ab (And.intro O (And.intro U (And.intro I (And.intro V aa)))))):=h
def Ynw{P}(h:P:=by
 have J:=t5.cell O (ab _ V);have ac:=t5.cell U (ab _ V);have ae:=t5.cell I (ab _ V);have af:=Z.hs;have ag:=Zh Z;have ah:=Zh (aa.trans t5);exact And.intro J (And.intro ac (And.intro ae (And.intro af (And.intro ag ah))))):=h
theorem Xj{D:DW}(p c m k:Nat)(h:BD w ha a mb D (p::ps) q mem)(aA:c<8)(ar:k<AY c)(hm:m.testBit k=true)(h1:mem (64*p)=1+256*c)(af:mem (64*p+1)=m):
 Calls prog 105 #[.pointer (some ⟨ha,0,none⟩), .int .i64 p, .int .i64 k] w λe w' =>e= .returned (.tuple #[])/\ ∃D',BD w' ha a mb D' (if m ^^^ 2^k=0 then ps else p::ps) q (Fg mem p c m k)/\Ad w (Bn a mb D) w' (Bn a mb D'):=by
 have aB:=CG c;have aj:m<18446744073709551616:=af▸h.sl.word _;have hx:m ^^^ 2^k<18446744073709551616:=Nat.xor_lt_two_pow (n:=64) aj (Dy (by omega));have al:=Zh (Hz h p 1 c m List.mem_cons_self (by omega) (by omega) h1 af);have am:=Zh (λw=>WQ m k aj (by omega) hm w);have ac:=Zh h;have ab:=Yoj;clear h h1 af hm ar;unfold Fg;generalize au:m ^^^ 2^k=mk at*;clear au;by_cases h0:mk=0
 . rw [if_pos h0]
   have aw:((mk:Int)==0)=true:=(by simp [h0]);clear h0;go_enter func105,ntmps105;go_wp2_with (first|(go_at_call 142;refine al.mono ?_;rintro e w1 ⟨rfl,J⟩)|(go_at_call 149;refine(am _).mono ?_;rintro e w2 ⟨rfl,rfl⟩))
   obtain⟨ag,ah,O,U,I,V,aa⟩:=Yhz;clear J ag;refine(KT ah.out p 1 c mk List.mem_cons_self (by omega) (by omega) hx).mono ?_;rintro e ax ⟨rfl,Z,t5⟩;obtain⟨aC,aD,aE,aF,ae,ai⟩:=Ynw;clear Z t5 O U I;go_wp2_with fail;have an:=Md (ps:=ps) p 1 (h:=ae.sl) (by omega) (by omega);refine an.mono ?_;rintro e w6 ⟨D',rfl,ao,aq⟩;have t6:=SG (a:=a) aq;have ay:=Zh (ae.Aq ao t6);have az:=Zh (ai.trans t6);clear ao aq t6 an;go_wp2;go_end0;exact⟨rfl,_,ay,az⟩
 . rw [if_neg h0]
   have aw:((mk:Int)==0)=false:=(by simp;omega);clear h0;go_enter func105,ntmps105;go_wp2_with (first|(go_at_call 142;refine al.mono ?_;rintro e w1 ⟨rfl,J⟩)|(go_at_call 149;refine(am _).mono ?_;rintro e w2 ⟨rfl,rfl⟩))
   obtain⟨ag,ah,O,U,I,V,aa⟩:=Yhz;clear J ag;refine(KT ah.out p 1 c mk List.mem_cons_self (by omega) (by omega) hx).mono ?_;rintro e ax ⟨rfl,Z,t5⟩;obtain⟨_,_,_,_,ae,ai⟩:=Ynw;clear Z t5 O U I;go_wp2_with fail;go_end0;exact⟨rfl,_,ae,ai⟩
attribute [local go_sem] Oper.semAt_some
def Hu:Hd->Nat
 | .small _ _=>1
 | .Bx _=>2
def Hp:Hd->Nat
 | .small c _=>c
 | .Bx w=>(w+65)/64
def Hi:Hd->Nat
 | .small _ m=>m
 | .Bx w=>w
theorem Jd(h:Hd):Is h= .agg #[.int .i64 (Hu h:Nat), .int .i64 (Hp h:Nat), .int .u64 (Hi h:Nat)]:=by cases h<;>rfl
structure Ep(W:World)(B:Nat)(h:Hd):Prop where
 k:W.cell? ⟨B,0,none⟩=some (.int .i64 (Hu h:Nat))
 n:W.cell? ⟨B,1,none⟩=some (.int .i64 (Hp h:Nat))
 w:W.cell? ⟨B,2,none⟩=some (.int .u64 (Hi h:Nat))
theorem Ep.kept{h:Hd}{row:Option Nat}(I:Ep W B h)(hg:W.grownBy W' row)(J: ∀r,row=some r-> ∃o:Obj,W.heap[r]? =some o/\o.isCells=false):Ep W' B h:=
 ⟨cell_kept I.k hg J,cell_kept I.n hg J,cell_kept I.w hg J⟩
theorem Ke(W:World)(h:Hd)(t:TypeId):Ep (W.alloc (.cells #[.int .i64 (Hu h:Nat), .int .i64 (Hp h:Nat), .int .u64 (Hi h:Nat)] t)) W.heap.size h:=by
 refine⟨?_, ?_, ?_⟩<;>go_simp
def Yl(L:HL)(c:Nat)(v:Value):Prop:=
 (v= .tuple #[.int .i64 0, .int .i64 0, .bool false])\/
 ∃L1 L2 p m k,L=L1++(p, .small c m)::L2/\k<AY c/\m.testBit k=false/\v= .tuple #[.int .i64 (p:Nat), .int .i64 (k:Nat), .bool true]
def Hc(B:Nat)(u v x:Value)(W:World):Prop:=W.cell? ⟨B+1,0,none⟩=some u/\W.cell? ⟨B+1+1,0,none⟩=some v/\W.cell? ⟨B+1+1+1,0,none⟩=some x/\W.frozen? ⟨B+1,0,none⟩=false/\W.frozen? ⟨B+1+1,0,none⟩=false/\W.frozen? ⟨B+1+1+1,0,none⟩=false
theorem Hc.kept{row:Option Nat}(h:Hc B u v x W)(hg:W.grownBy W' row)(I: ∀r,row=some r-> ∃o:Obj,W.heap[r]? =some o/\o.isCells=false):Hc B u v x W' :=by
 obtain⟨h1,J,O,f1,f2,f3⟩:=h;exact⟨cell_kept h1 hg I,cell_kept J hg I,cell_kept O hg I,(frozen_kept h1 hg I).trans f1,(frozen_kept J hg I).trans f2,(frozen_kept O hg I).trans f3⟩
theorem Hc.below(h:Hc B u v x W)(I:Below W.heap.size W W'):Hc B u v x W' :=by
 obtain⟨h1,J,O,f1,f2,f3⟩:=h;exact⟨(I.cell (p:=⟨B+1,0,none⟩) (Am h1)).trans h1,(I.cell (p:=⟨B+1+1,0,none⟩) (Am J)).trans J,(I.cell (p:=⟨B+1+1+1,0,none⟩) (Am O)).trans O,(I.frozen (p:=⟨B+1,0,none⟩) (Am h1)).trans f1,(I.frozen (p:=⟨B+1+1,0,none⟩) (Am J)).trans f2,(I.frozen (p:=⟨B+1+1+1,0,none⟩) (Am O)).trans f3⟩
theorem Hc.set(h:Hc B u v x W)(J v' O :Value):Hc B J v' O (((W.setCell ⟨B+1,0,none⟩ J).setCell ⟨B+1+1,0,none⟩ v').setCell ⟨B+1+1+1,0,none⟩ O):=by
 obtain⟨h1,U,I,f1,f2,f3⟩:=h;refine⟨?_, ?_, ?_, ?_, ?_, ?_⟩
 . exact(World.cell?_setCell_other _ _ _ _ (by simp)).trans ((World.cell?_setCell_other _ _ _ _ (by simp)).trans (World.cell?_setCell_same' _ _ _ (by rw [h1];rfl)))
 . exact(World.cell?_setCell_other _ _ _ _ (by simp)).trans (World.cell?_setCell_same' _ _ _ (by rw [World.cell?_setCell_other _ _ _ _ (by simp),U];rfl))
 . exact Ydk
 . simp [f1]
 . simp [f2]
 . simp [f3]
theorem BI(h:Below W.heap.size W W'):KeepsOthers W W' :=⟨h.size,λk o I _=>(h.block k (Array.getElem?_eq_some_iff.1 I).1).trans I⟩
def Yfe{P}(h:P:=by
 exact⟨_,rfl,aC,au.trans (belowK_b (w:=w) (Nat.le_refl _) _ D' _ _ (by omega) Z rfl rfl)⟩):=h
def Yfw{P}(h:P:=by
 obtain⟨B',h1,I,J⟩:=hs;exact⟨B',h1,I.kept hg (λr e=>(af r e).2),J⟩):=h
def Dt{P}(h:P:=by
 have J:=Zh (ae.trans (I.mono ae.size));exact J):=h
def ZX{P}(h:P:=by
 have J:=Zh (ah.trans (I.mono ah.size));exact J):=h
def Y2{P}(h:P:=by
 have am:=(aa.cell (p:=⟨w.heap.size,0,none⟩) (Am aj)).trans aj;exact am):=h
def Yja{P}(h:P:=by
 have ai:=(ac.cell (p:=⟨w.heap.size,0,none⟩) (Am am)).trans am;exact ai):=h
def Yjg{P}(h:P:=by
 have I:Below W.heap.size W (W.alloc (Obj.cells #[Value.int IntKind.i64 (Hu hd:Nat),Value.int IntKind.i64 (Hp hd:Nat),Value.int IntKind.u64 (Hi hd:Nat)] 165)):=(Below.refl _ W).alloc (Nat.le_refl _) _;exact I):=h
def Yla{P}(h:P:=by
 have I:=aq.kept (grownBy_putObj' _ D' (.deferred none)) (λr e=>by cases e;exact⟨_,Z,rfl⟩);exact I):=h
def Z0{P}(h:P:=by
 have I:=Zh (λw=>(callsIn_wide (n:=8)).2 (Qm ha w));exact I):=h
def Yms{P}(h:P:=by
 have I:=(hi.cell (p:=⟨w.heap.size,0,none⟩) (Am ai)).trans ai;exact I):=h
theorem XJ{D:DW}{L:HL}(h:BD w ha a mb D (runs L) q mem)(al:Lay L)(hh:Cz L mem)(c:Nat)(bz:c<8):
 Calls prog 101 #[.pointer (some ⟨ha,0,none⟩), .int .i64 c] w λe w' => ∃v,e= .returned v/\Yl L c v/\Below w.heap.size w w' :=by
 refine(callsIn_wide (n:=9)).1 ?_;have a6:Ku (c:Int)= .tuple #[.int .i64 (AY c:Nat), .int .i64 0]:=if_pos ⟨by omega,by omega⟩;have a7:=Zh (λw=>(callsIn_wide (n:=8)).2 (H8 (c:Nat) w));have a8:=Z0;have ax:=Zh h;have aN:=Zh al;have a9:=Zh hh;clear h al hh;refine callsIn_of_wp_marks func101 rfl trivial ?_ rfl;simp only [ntmps101,List.size_toArray,List.length_cons,List.length_nil,Nat.reduceAdd,Nat.reduceSub,Array.replicate_succ,Array.replicate_zero,List.push_toArray,List.append_toArray,List.nil_append,List.cons_append];gi_wp2_with (refine⟨trivial, ?_⟩;fail);have aO:Hc w.heap.size (.int .i64 0) (.int .i64 0) (.bool false) ((((w.alloc (Obj.cells #[Value.int IntKind.i64 c] 3)).alloc (Obj.cells #[Value.int IntKind.i64 0] 3)).alloc (Obj.cells #[Value.int IntKind.i64 0] 3)).alloc (Obj.cells #[Value.bool false] 4)):=by
  refine⟨?_, ?_, ?_, ?_, ?_, ?_⟩<;>go_simp
 have aj:((((w.alloc (Obj.cells #[Value.int IntKind.i64 c] 3)).alloc (Obj.cells #[Value.int IntKind.i64 0] 3)).alloc (Obj.cells #[Value.int IntKind.i64 0] 3)).alloc (Obj.cells #[Value.bool false] 4)).cell? ⟨w.heap.size,0,none⟩=some (.int .i64 c):=by go_simp
 have aB:Below w.heap.size w ((((w.alloc (Obj.cells #[Value.int IntKind.i64 c] 3)).alloc (Obj.cells #[Value.int IntKind.i64 0] 3)).alloc (Obj.cells #[Value.int IntKind.i64 0] 3)).alloc (Obj.cells #[Value.bool false] 4)):=((((Below.refl _ w).alloc (Nat.le_refl _) _).alloc (by simp) _).alloc (by simp;omega) _).alloc (by simp;omega) _;have bA:((((w.alloc (Obj.cells #[Value.int IntKind.i64 c] 3)).alloc (Obj.cells #[Value.int IntKind.i64 0] 3)).alloc (Obj.cells #[Value.int IntKind.i64 0] 3)).alloc (Obj.cells #[Value.bool false] 4)).heap.size=w.heap.size+4:=by simp
 generalize ((((w.alloc (Obj.cells #[Value.int IntKind.i64 c] 3)).alloc (Obj.cells #[Value.int IntKind.i64 0] 3)).alloc (Obj.cells #[Value.int IntKind.i64 0] 3)).alloc (Obj.cells #[Value.bool false] 4))=W0 at*;refine⟨trivial, ?_⟩;refine(a7 _).mono ?_;rintro e w1 ⟨rfl,aa⟩;rw [a6];have am:=Y2;have aP:=aO.below aa;have bB:=aa.size;have O:=aB.trans (aa.mono aB.size);clear aa aB aO aj;gi_wp2_with (refine⟨trivial, ?_⟩;fail);refine⟨trivial, ?_⟩;refine(a8 _).mono ?_;rintro e w2 ⟨rfl,rfl⟩;gi_wp2_with (refine⟨trivial, ?_⟩;fail);obtain⟨J,ab⟩: ∃J,J=(w1.alloc (Obj.cells #[Value.int IntKind.i64 (AY c:Nat)] 3)).alloc (Obj.cells #[Value.pointer (some { block:=ha,off:=0 })] 71):=⟨_,rfl⟩;have ac:Below w1.heap.size w1 J:=ab▸((Below.refl _ w1).alloc (Nat.le_refl _) _).alloc (by simp) _;have ai:=Yja;have aQ:=aP.below ac;have aR:J.cell? ⟨w1.heap.size,0,none⟩=some (.int .i64 (AY c:Nat)):=by rw [ab];go_simp
 have ba:J.cell? ⟨w1.heap.size+1,0,none⟩=some (.pointer (some ⟨ha,0,none⟩)):=by rw [ab];go_simp
 have bC:J.heap.size=w1.heap.size+2:=by rw [ab];simp
 have an:=O.trans (ac.mono (by omega));rw [<-ab];clear ab ac am aP O;have bb:=Zh (ax.below an)
 refine wpIn_rangeFunc_ownH rfl (by omega) (gf:=141) (lb:= #[.pointer (some ⟨w1.heap.size+1,0,none⟩)]) rfl trivial (enters_of func141 (by kernel_rfl) rfl)
  (H0 bb aN a9 ba (λ_=>False) (λ_ h=>h.elim) (λh=>h) (λh=>h) (λh=>h) (λ_ h=>h.elim))
  (λh k=>h.trans k) (λW l o bc _ al h1 ay=>KB.putObj bc al h1 ay) (Below.refl _ _) (λ_=>rfl)
  (λpre W=>Below J.heap.size J W)
  (λaD pre W=>aD= .ret/\(∃ao p m k,pre.map (λy=>y.1)=ao++ [(p,Hd.small c m)]/\k<AY c/\m.testBit k=false/\Hc w.heap.size (.int .i64 (p:Nat)) (.int .i64 (k:Nat)) (.bool true) W)/\Below w.heap.size w W)
  (λs A B row hs hg af=>ownFrom_below (Nat.le_refl _) (by omega) s A B row hs hg af)
  (λaD s A B row hs hg af=>by
   obtain⟨h1,⟨ao,p,m,k,ay,bd,be,bf⟩,bg⟩:=hs;exact⟨h1,⟨ao,p,m,k,ay,bd,be,bf.kept hg (λr e=>(af r e).2)⟩,ownFrom_below (Nat.le_refl _) (by omega) s A B row bg hg af⟩)
  (Below.refl _ _)
  (λx a' W=> ∃B,J.heap.size<=B/\Ep W B x.1.2/\a' ={ tmps:= #[ .pointer (some ⟨ha,0,none⟩), .int .i64 c,undef, .pointer (some ⟨w.heap.size,0,none⟩), .pointer (some ⟨w.heap.size+1,0,none⟩), .pointer (some ⟨w.heap.size+1+1,0,none⟩), .pointer (some ⟨w.heap.size+1+1+1,0,none⟩), .pointer (some ⟨w1.heap.size,0,none⟩), .int .i64 0, .int .i64 (x.1.1:Nat), .pointer (some ⟨B,0,none⟩),undef, .tuple #[ .int .i64 (AY c:Nat), .int .i64 0], .int .i64 c, .tuple #[ .int .i64 (AY c:Nat), .int .i64 0], .int .i64 (AY c:Nat), .int .i64 0, .pointer (some ⟨ha,0,none⟩), .func (.func 141) #[] #[ .pointer (some ⟨w1.heap.size+1,0,none⟩)], .int .i64 (x.1.1:Nat),Is x.1.2,undef,undef,undef,undef,undef,undef,undef,undef,undef,undef,undef,undef,undef,undef,undef,undef,undef],defers:= [] })
  (λx a' s A B row hs hg af=>by
   exact Yfw)
  ?assign ?body ?done ?stop
 case assign=>
  rintro l pre ⟨⟨p,hd⟩,aS⟩ W K hi Z;dsimp only at Z ⊢;have U:=Yjg;have ar:=Z _ (W.alloc (Obj.cells #[Value.int IntKind.i64 (Hu hd:Nat),Value.int IntKind.i64 (Hp hd:Nat),Value.int IntKind.u64 (Hi hd:Nat)] 165)) ((BI U).from _) (KB.below U) (hi.trans (U.mono hi.size)) ⟨W.heap.size,hi.size,Ke _ _ _,rfl⟩;have aT:=Zh ar;clear Z ar U hi;rw [Jd] at aT ⊢;gi_wp2;exact aT.out
 case body=>
  rintro l pre ⟨⟨p,hd⟩,aS⟩ a' W al ⟨r,af⟩ hi ⟨B,bD,aw,rfl⟩ hlen;dsimp only at aw ⊢;have bh:=Yms;have az:=aQ.below hi;have bi:=(hi.cell (p:=⟨w1.heap.size,0,none⟩) (Am aR)).trans aR;have aU:=aN.ok _ aS;have ag:=aw.k;have aE:=aw.n;have hw:=aw.w;have O:=an.trans (hi.mono an.size);have ae:=Zh hi;have bj:1<W.heap.size:=by have:=ax.Fw a (.inl rfl);have ay:=ax.sl.lt (.inl rfl);have:=O.size;omega
  have ah:=Zh O;have bk:=Zh ((ax.below O).tab);clear aw hi O
  cases hd with
  |Bx ww=>
   simp only [Hu,Hp,Hi] at ag aE hw;have d1:((2:Int) !=1)=true:=(by decide);clear aU;gi_wp2;exact⟨KeepsFrom.refl _ _,KB.refl _ _,ae⟩
  |small V m=>
   simp only [Hu,Hp,Hi] at ag aE hw;obtain⟨bE,aV,aF⟩:=aU;have aW:m<18446744073709551616:=Nat.lt_trans aF (Dy (by have:=CG V;omega));have d1:((1:Int) !=1)=false:=(by decide);by_cases aX:V=c
   . subst aX
     have d2:((V:Int) !=(V:Nat))=false:=(by simp);have aY:=Zh (CallsIn.inRound l ((callsIn_wide (n:=6)).2 (IL m (AY V) aW (by have:=CG V;omega) W bk bj)));clear aV aF aW;gi_wp2_with (refine⟨trivial, ?_⟩;fail);refine⟨trivial, ?_⟩;refine aY.mono ?_;rintro e W' ⟨bF,rfl,bm,aZ⟩;have I:Below W.heap.size W W' :=aZ ▸(Below.refl _ W).alloc (Nat.le_refl _) _;clear aZ;have bo:=az.below I;have bp:=Dt;have bq:=ZX;have a0:=Zh ((BI I).from J.heap.size);have br:=Zh (KB.below (Cs:=λ_=>False) I);clear I az bh bi ag aE hw aY;rcases bm with ⟨rfl,_⟩|⟨k,a1,rfl,a2⟩
     . have d3:decide ((0:Int)<= -1)=false:=by decide
       gi_wp2;exact⟨a0,br,bp⟩
     . have d3:decide ((0:Int)<=(k:Int))=true:=by simp
       have bs:=Zh a2;have bu:=Zh a1;clear a2 a1;obtain⟨q1,aG,aH,aI,aJ,aK⟩:=bo;have aA:=Zh (Hc.set ⟨q1,aG,aH,aI,aJ,aK⟩ (.int .i64 (p:Nat)) (.int .i64 (k:Nat)) (.bool true));gi_wp2;refine⟨?_,rfl,⟨pre.map (λy=>y.1),p,m,k,by rw [List.map_append];rfl,bu,bs,aA⟩, ?_⟩
       . exact a0.trans ((((KeepsOthers.setCell _ _ _).trans (KeepsOthers.setCell _ _ _)).trans (KeepsOthers.setCell _ _ _)).from _)
       . exact((bq.setCell (p:=⟨w.heap.size+1,0,none⟩) (by simp) _).setCell (p:=⟨w.heap.size+1+1,0,none⟩) (by simp;omega) _).setCell (p:=⟨w.heap.size+1+1+1,0,none⟩) (by simp;omega) _
   . have d2:((V:Int) !=(c:Nat))=true:=by simp;omega
     clear aV aF aX;gi_wp2;exact⟨KeepsFrom.refl _ _,KB.refl _ _,ae⟩
 case done=>
  rintro D' xs W bv bw hi Z;have az:=aQ.below hi;have O:=Zh (an.trans (hi.mono an.size));obtain⟨q1,aG,aH,aI,aJ,aK⟩:=az;have aA:=Hc.set ⟨q1,aG,aH,aI,aJ,aK⟩ (.int .i64 0) (.int .i64 0) (.bool false);have a3:=(KeepsOthers.setCell W ⟨w.heap.size+1,0,none⟩ (.int .i64 0)).same D' _ Z rfl;have ar:=(KeepsOthers.setCell (W.setCell ⟨w.heap.size+1,0,none⟩ (.int .i64 0)) ⟨w.heap.size+1+1,0,none⟩ (.int .i64 0)).same D' _ a3 rfl;have aL:=(KeepsOthers.setCell ((W.setCell ⟨w.heap.size+1,0,none⟩ (.int .i64 0)).setCell ⟨w.heap.size+1+1,0,none⟩ (.int .i64 0)) ⟨w.heap.size+1+1+1,0,none⟩ (.bool false)).same D' _ ar rfl;have aM:=aA.kept (grownBy_putObj' _ D' (.deferred none)) (λr e=>by cases e;exact⟨_,aL,rfl⟩);obtain⟨u1,u2,u3,_⟩:=aM;clear bw hi aA a3 ar;gi_wp2;refine⟨by simp, .inl ⟨_,_,rfl,run_takeDeferred aL, ?_⟩⟩;refine⟨.tuple #[.int .i64 0, .int .i64 0, .bool false], ?_, ?_⟩
  . simp [results,f101,go_sem,u1,u2,u3]
  . exact⟨_,rfl, .inl rfl,(((O.setCell (p:=⟨w.heap.size+1,0,none⟩) (by simp) _).setCell (p:=⟨w.heap.size+1+1,0,none⟩) (by simp;omega) _).setCell (p:=⟨w.heap.size+1+1+1,0,none⟩) (by simp;omega) _).trans (belowK_b (w:=w) (Nat.le_refl _) _ D' _ _ (by omega) aL rfl rfl)⟩
 case stop=>
  rintro D' aD pre W bv ⟨t,a4⟩ ⟨rfl,⟨ao,p,m,k,a5,ag,hm,aq⟩,U⟩ Z;have au:=Zh U;have aM:=Yla;obtain⟨u1,u2,u3,_⟩:=aM;have aC:Hid (Yl L c (.tuple #[.int .i64 (p:Nat), .int .i64 (k:Nat), .bool true])):=Zh (.inr ⟨ao,t,p,m,k,by rw [a4,a5,List.append_assoc];rfl,ag,hm,rfl⟩);clear U aq a4 a5 ag hm;gi_wp2;refine⟨by simp, .inl ⟨_,_,rfl,run_takeDeferred Z, ?_⟩⟩;refine⟨.tuple #[.int .i64 (p:Nat), .int .i64 (k:Nat), .bool true], ?_, ?_⟩
  . simp [results,f101,go_sem,u1,u2,u3]
  . exact Yfe
end Go.Proofs.YtiopopoohglepaaGreatDoor
namespace Go.Proofs.YtiopopoohglepaaGreatDoor
open Go.Proofs.Tryz
open Go.RowKit Go.Shelf
variable {B:Nat}{W W' w:World}{t u v x y z:Value}
attribute [local go_sem] Oper.semAt_some Ec
structure IV(B:Nat)(u v:Value)(x y z:Value)(t:Value)(W:World):Prop where
 c1:W.cell? ⟨B+1,0,none⟩=some u
 c2:W.cell? ⟨B+1+1,0,none⟩=some v
 c3:W.cell? ⟨B+1+1+1,0,none⟩=some x
 c4:W.cell? ⟨B+1+1+1,1,none⟩=some y
 c5:W.cell? ⟨B+1+1+1,2,none⟩=some z
 c6:W.cell? ⟨B+1+1+1+1,0,none⟩=some t
 f1:W.frozen? ⟨B+1,0,none⟩=false
 f2:W.frozen? ⟨B+1+1,0,none⟩=false
 f3:W.frozen? ⟨B+1+1+1,0,none⟩=false
 f4:W.frozen? ⟨B+1+1+1,1,none⟩=false
 f5:W.frozen? ⟨B+1+1+1,2,none⟩=false
 f6:W.frozen? ⟨B+1+1+1+1,0,none⟩=false
theorem IV.kept{row:Option Nat}(h:IV B u v x y z t W)(hg:W.grownBy W' row)(I: ∀r,row=some r-> ∃o:Obj,W.heap[r]? =some o/\o.isCells=false):IV B u v x y z t W' :=
 ⟨cell_kept h.c1 hg I,cell_kept h.c2 hg I,cell_kept h.c3 hg I,cell_kept h.c4 hg I,cell_kept h.c5 hg I,cell_kept h.c6 hg I,
  (frozen_kept h.c1 hg I).trans h.f1,(frozen_kept h.c2 hg I).trans h.f2,(frozen_kept h.c3 hg I).trans h.f3,(frozen_kept h.c4 hg I).trans h.f4,(frozen_kept h.c5 hg I).trans h.f5,(frozen_kept h.c6 hg I).trans h.f6⟩
theorem IV.below(h:IV B u v x y z t W)(I:Below W.heap.size W W'):IV B u v x y z t W' :=
 h.kept (row:=none) ⟨I.os,I.tape,I.output,I.size,λk J _=>I.block k J⟩ (λr e=>by cases e)
def ZQ(W:World)(B:Nat)(u v x y z t:Value):World:=((((((W.setCell ⟨B+1,0,none⟩ u).setCell ⟨B+1+1,0,none⟩ v).setCell ⟨B+1+1+1,0,none⟩ x).setCell ⟨B+1+1+1,1,none⟩ y).setCell ⟨B+1+1+1,2,none⟩ z).setCell ⟨B+1+1+1+1,0,none⟩ t).drew
theorem Ba(W:World)(p r:Addr)(v:Value):p≠r->(W.setCell p v).cell? r=W.cell? r:=λh=>World.cell?_setCell_other _ _ _ _ h
theorem IV.set(h:IV B u v x y z t W)(I v' J O U V :Value):IV B I v' J O U V (ZQ W B I v' J O U V):=by
 obtain⟨h1,Z,aa,ab,ac,ae,f1,f2,f3,f4,f5,f6⟩:=h;unfold ZQ;refine⟨?_, ?_, ?_, ?_, ?_, ?_, ?_, ?_, ?_, ?_, ?_, ?_⟩
 . rw [cell_drew_own,Ba _ _ _ _ (by simp),Ba _ _ _ _ (by simp),Ba _ _ _ _ (by simp),Ba _ _ _ _ (by simp),Ba _ _ _ _ (by simp)]
   exact World.cell?_setCell_same' _ _ _ (by rw [h1];rfl)
 . rw [cell_drew_own,Ba _ _ _ _ (by simp),Ba _ _ _ _ (by simp),Ba _ _ _ _ (by simp),Ba _ _ _ _ (by simp)]
   exact World.cell?_setCell_same' _ _ _ (by rw [Ba _ _ _ _ (by simp),Z];rfl)
 . rw [cell_drew_own,Ba _ _ _ _ (by simp),Ba _ _ _ _ (by simp),Ba _ _ _ _ (by simp)]
   exact World.cell?_setCell_same' _ _ _ (by rw [Ba _ _ _ _ (by simp),Ba _ _ _ _ (by simp),aa];rfl)
 . rw [cell_drew_own,Ba _ _ _ _ (by simp),Ba _ _ _ _ (by simp)]
   exact World.cell?_setCell_same' _ _ _ (by rw [Ba _ _ _ _ (by simp),Ba _ _ _ _ (by simp),Ba _ _ _ _ (by simp),ab];rfl)
 . rw [cell_drew_own,Ba _ _ _ _ (by simp)]
   exact World.cell?_setCell_same' _ _ _ (by rw [Ba _ _ _ _ (by simp),Ba _ _ _ _ (by simp),Ba _ _ _ _ (by simp),Ba _ _ _ _ (by simp),ac];rfl)
 . rw [cell_drew_own]
   exact World.cell?_setCell_same' _ _ _ (by rw [Ba _ _ _ _ (by simp),Ba _ _ _ _ (by simp),Ba _ _ _ _ (by simp),Ba _ _ _ _ (by simp),Ba _ _ _ _ (by simp),ae];rfl)
 all_goals rw [frozen_drew_own];simp only [World.frozen?_setCell];assumption
theorem Mp(h:Below w.heap.size w W)(u v x y z t:Value):Below w.heap.size w (ZQ W w.heap.size u v x y z t):=
 ((((((h.setCell (p:=⟨_,_,_⟩) (by simp) _).setCell (p:=⟨_,_,_⟩) (by simp;omega) _).setCell (p:=⟨_,_,_⟩) (by simp;omega) _).setCell (p:=⟨_,_,_⟩) (by simp;omega) _).setCell (p:=⟨_,_,_⟩) (by simp;omega) _).setCell (p:=⟨_,_,_⟩) (by simp;omega) _).drew
theorem Mh(W:World)(B C:Nat)(u v x y z t:Value):KeepsFrom C W (ZQ W B u v x y z t):=
 (((((((KeepsOthers.setCell _ _ _).trans (KeepsOthers.setCell _ _ _)).trans (KeepsOthers.setCell _ _ _)).trans (KeepsOthers.setCell _ _ _)).trans (KeepsOthers.setCell _ _ _)).trans (KeepsOthers.setCell _ _ _)).trans (KeepsOthers.drew _)).from _
theorem Vb{x:Nat × Hd}(hx:x.2.Ok){b:Nat × Nat}(I:b∈A8 x):x.1<=b.1/64/\b.1/64<x.1+x.2.len:=by
 have:=CJ hx I;omega
def LL(x:Nat × Hd)(addr:Nat)(v:Value):Prop:=
 match x.2 with
 | .small c m=> ∃k,k<AY c/\m.testBit k=true/\addr=64*x.1+2+k*sz c/\v= .tuple #[.int .i64 x.1, .int .i64 (k:Nat),Is x.2, .bool true]
 | .Bx _=>addr=64*x.1+2/\v= .tuple #[.int .i64 x.1, .int .i64 0,Is x.2, .bool true]
def Ygm{P}(h:P:=by
 clear ar;gi_wp2;exact⟨KeepsFrom.refl _ _,KB.refl _ _,aE,aD⟩):=h
def Yjb{P}(h:P:=by
 have am:=(I.cell (p:=⟨w.heap.size,0,none⟩) (Am ao)).trans ao;exact am):=h
def OO{P}(h:P:=by
 have I:prog.follows .mixedOrders=true:=by kernel_rfl
 exact I):=h
def Ylq{P}(h:P:=by
 have I:Ku (O:Int)= .tuple #[.int .i64 (AY O:Nat), .int .i64 0]:=if_pos ⟨by omega,by omega⟩;have J:=Zh (λw=>CallsIn.inRound l ((callsIn_wide (n:=6)).2 (H8 (O:Nat) w)));exact And.intro I J):=h
def Yls{P}(h:P:=by
 have J:Ep W' B (.small O m):=⟨(I.cell (p:=⟨B,0,none⟩) aw).trans U,(I.cell (p:=⟨B,1,none⟩) aw).trans ag,(I.cell (p:=⟨B,2,none⟩) aw).trans hw⟩;exact J):=h
def Ync{P}(h:P:=by
 have I:p∈runs L:=CS.2 ⟨(p,hd),al,Nat.le_refl _,by have:=hd.C6;simp only;omega⟩;have ax:=an.sl.low _ I;have U:=ah.k;have ag:=ah.n;have hw:=ah.w;exact And.intro I (And.intro ax (And.intro U (And.intro ag hw)))):=h
def Yne{P}(h:P:=by
 have I:=Zh (λw=>CallsIn.inRound l ((callsIn_wide (n:=6)).2 (Nz p O k ax aB (by rw [ay.out];omega) w)));exact I):=h
def Ynp{P}(h:P:=by
 have aA:Hid (m<18446744073709551616):=Zh (Nat.lt_trans az (Dy (by have:=CG O;omega)));have I:=CG O;exact And.intro aA I):=h
def Yod{P}(h:P:=by
 have I:=Zh (λw=>CallsIn.inRound l ((callsIn_wide (n:=6)).2 (Zs m k aA (by omega) w)));exact I):=h
theorem KX{ha a mb q:Nat}{D:DW}{L:HL}{mem:Nat->Nat}(h:BD w ha a mb D (runs L) q mem)(aH:Lay L)(hh:Cz L mem)(y:Nat × Hd)(aJ:y∈L)(b:Nat × Nat)(aG:b∈A8 y):
 Calls prog 103 #[.pointer (some ⟨ha,0,none⟩), .int .i64 b.1] w λe w' => ∃v,e= .returned v/\LL y b.1 v/\Below w.heap.size w w' :=by
 refine(callsIn_wide (n:=9)).1 ?_;have bs:=Z0;have hyp:y.1∈runs L:=CS.2 ⟨y,aJ,Nat.le_refl _,by have:=y.2.C6;omega⟩;have b5:=h.sl.low _ hyp;have hdiv:=Vb (aH.ok y aJ) aG;have a7:=CJ (aH.ok y aJ) aG;have bu:Hid (∀x∈L,x=y\/(x.1≠b.1/64/\b.1≠64*x.1+2)):=Zh (λx hx=>by
  rcases KF aH hx aJ with h1|h1|h1
  . exact .inl h1
  . have:=x.2.C6;exact .inr ⟨by omega,by omega⟩
  . exact .inr ⟨by omega,by omega⟩)
 have an:=Zh h;have a8:=Zh aH;have bv:=Zh hh;have bw:=Zh aJ;have a9:=Zh aG;have b8:y.2.len<=63:=by
  have:=aH.ok y aJ;obtain⟨p,hd⟩:=y
  cases hd with
  |small c m=>simp [Hd.len]
  |Bx ww=>obtain⟨h1,aI⟩:=this;simp only [Hd.len];omega
 obtain⟨addr,ZT⟩:=b;dsimp only at*;clear h aH hh hyp aJ aG;refine callsIn_of_wp_marks func103 rfl trivial ?_ rfl;simp only [ntmps103,List.size_toArray,List.length_cons,List.length_nil,Nat.reduceAdd,Nat.reduceSub,Array.replicate_succ,Array.replicate_zero,List.push_toArray,List.append_toArray,List.nil_append,List.cons_append];gi_wp2_with fail;have ba:IV w.heap.size (.int .i64 0) (.int .i64 0) (.int .i64 0) (.int .i64 0) (.int .u64 0) (.bool false) (((((w.alloc (Obj.cells #[Value.int IntKind.i64 addr] 3)).alloc (Obj.cells #[Value.int IntKind.i64 0] 3)).alloc (Obj.cells #[Value.int IntKind.i64 0] 3)).alloc (Obj.cells #[Value.int IntKind.i64 0,Value.int IntKind.i64 0,Value.int IntKind.u64 0] 165)).alloc (Obj.cells #[Value.bool false] 4)):=by
  refine⟨?_, ?_, ?_, ?_, ?_, ?_, ?_, ?_, ?_, ?_, ?_, ?_⟩<;>go_simp
 have aj:(((((w.alloc (Obj.cells #[Value.int IntKind.i64 addr] 3)).alloc (Obj.cells #[Value.int IntKind.i64 0] 3)).alloc (Obj.cells #[Value.int IntKind.i64 0] 3)).alloc (Obj.cells #[Value.int IntKind.i64 0,Value.int IntKind.i64 0,Value.int IntKind.u64 0] 165)).alloc (Obj.cells #[Value.bool false] 4)).cell? ⟨w.heap.size,0,none⟩=some (.int .i64 addr):=by go_simp
 have aR:Below w.heap.size w (((((w.alloc (Obj.cells #[Value.int IntKind.i64 addr] 3)).alloc (Obj.cells #[Value.int IntKind.i64 0] 3)).alloc (Obj.cells #[Value.int IntKind.i64 0] 3)).alloc (Obj.cells #[Value.int IntKind.i64 0,Value.int IntKind.i64 0,Value.int IntKind.u64 0] 165)).alloc (Obj.cells #[Value.bool false] 4)):=(((((Below.refl _ w).alloc (Nat.le_refl _) _).alloc (by simp) _).alloc (by simp;omega) _).alloc (by simp;omega) _).alloc (by simp;omega) _;have b9:(((((w.alloc (Obj.cells #[Value.int IntKind.i64 addr] 3)).alloc (Obj.cells #[Value.int IntKind.i64 0] 3)).alloc (Obj.cells #[Value.int IntKind.i64 0] 3)).alloc (Obj.cells #[Value.int IntKind.i64 0,Value.int IntKind.i64 0,Value.int IntKind.u64 0] 165)).alloc (Obj.cells #[Value.bool false] 4)).heap.size>=w.heap.size+5:=by simp
 generalize (((((w.alloc (Obj.cells #[Value.int IntKind.i64 addr] 3)).alloc (Obj.cells #[Value.int IntKind.i64 0] 3)).alloc (Obj.cells #[Value.int IntKind.i64 0] 3)).alloc (Obj.cells #[Value.int IntKind.i64 0,Value.int IntKind.i64 0,Value.int IntKind.u64 0] 165)).alloc (Obj.cells #[Value.bool false] 4))=w1 at*;refine(bs _).mono ?_;rintro e w2 ⟨rfl,aO⟩;have aa:Below w1.heap.size w1 w2:=aO▸(Below.refl _ w1).alloc (Nat.le_refl _) _;have bz:w2.cell? ⟨w1.heap.size,0,none⟩=some (.pointer (some ⟨ha,0,none⟩)):=by rw [aO];go_simp
 have cb:w1.heap.size+1<=w2.heap.size:=by rw [aO];simp
 have ai:=Y2;have bA:=ba.below aa;have aS:=aR.trans (aa.mono aR.size);clear aO aa aj ba aR;gi_wp2_with fail;have bB:=Zh (an.below aS)
 refine wpIn_rangeFunc_ownH (α:={z:Nat × Hd // z∈L}) rfl (by omega) (gf:=141) (lb:= #[.pointer (some ⟨w1.heap.size,0,none⟩)]) rfl trivial (enters_of func141 (by kernel_rfl) rfl)
  (H0 bB a8 bv bz (λ_=>False) (λ_ h=>h.elim) (λh=>h) (λh=>h) (λh=>h) (λ_ h=>h.elim))
  (λh k=>h.trans k) (λW l o bC _ aH h1 aI=>KB.putObj bC aH h1 aI) (Below.refl _ _) (λ_=>rfl)
  (λpre W=>y∉pre.map (λ(z:{z:Nat × Hd // z∈L})=>z.1)/\Below w2.heap.size w2 W)
  (λaT pre W=>aT= .ret/\(∃u v,LL y addr (.tuple #[u,v,Is y.2, .bool true])/\IV w.heap.size u v (.int .i64 (Hu y.2:Nat)) (.int .i64 (Hp y.2:Nat)) (.int .u64 (Hi y.2:Nat)) (.bool true) W)/\Below w.heap.size w W)
  (λs A B row hs hg af=>⟨hs.1,ownFrom_below (Nat.le_refl _) (by omega) s A B row hs.2 hg af⟩)
  (λaT s A B row hs hg af=>by
   obtain⟨h1,⟨u,v,aI,bD⟩,bE⟩:=hs;exact⟨h1,⟨u,v,aI,bD.kept hg (λr e=>(af r e).2)⟩,ownFrom_below (Nat.le_refl _) (by omega) s A B row bE hg af⟩)
  ⟨by simp,Below.refl _ _⟩
  (λx a' W=> ∃B,w2.heap.size<=B/\Ep W B x.1.2/\a' ={ tmps:= #[ .pointer (some ⟨ha,0,none⟩), .int .i64 addr,undef, .pointer (some ⟨w.heap.size,0,none⟩), .pointer (some ⟨w.heap.size+1,0,none⟩), .pointer (some ⟨w.heap.size+1+1,0,none⟩), .pointer (some ⟨w.heap.size+1+1+1,0,none⟩), .pointer (some ⟨w.heap.size+1+1+1+1,0,none⟩), .int .i64 (x.1.1:Nat), .pointer (some ⟨B,0,none⟩),undef,undef,undef, .pointer (some ⟨ha,0,none⟩), .func (.func 141) #[] #[ .pointer (some ⟨w1.heap.size,0,none⟩)], .int .i64 (x.1.1:Nat),Is x.1.2,undef,undef,undef,undef,undef,undef,undef,undef,undef,undef,undef,undef,undef,undef,undef,undef,undef,undef,undef,undef,undef,undef,undef,undef,undef,undef,undef,undef,undef,undef,undef,undef,undef,undef,undef,undef,undef,undef,undef,undef,undef,undef,undef,undef,undef,undef,undef,undef,undef],defers:= [] })
  (λx a' s A B row hs hg af=>by
   exact Yfw)
  ?assign ?body ?done ?stop
 case assign=>
  rintro l pre ⟨⟨p,hd⟩,al⟩ W K ⟨aK,hi⟩ Z;dsimp only at Z ⊢;have aG:=Yjg;have bb:=Zh (Z _ (W.alloc (Obj.cells #[Value.int IntKind.i64 (Hu hd:Nat),Value.int IntKind.i64 (Hp hd:Nat),Value.int IntKind.u64 (Hi hd:Nat)] 165)) ((BI aG).from _) (KB.below aG) ⟨aK,hi.trans (aG.mono hi.size)⟩ ⟨W.heap.size,hi.size,Ke _ _ _,rfl⟩);clear Z aG hi;rw [Jd] at bb ⊢;gi_wp2;exact bb.out
 case body=>
  rintro l pre ⟨⟨p,hd⟩,al⟩ a' W aH ⟨r,af⟩ ⟨aK,hi⟩ ⟨B,cc,ah,rfl⟩ hlen;dsimp only at ah ⊢;have bF:Hid (y∉pre.map (λ(z:{z:Nat × Hd // z∈L})=>z.1)):=Zh aK;have ao:=Yms;have aP:=bA.below hi;have ar:=a8.ok _ al;have aU:=bu.out _ al;obtain⟨bG,ax,U,ag,hw⟩:=Ync;have aD:=Zh hi;have ae:=Zh (aS.trans (hi.mono aS.size));have aw:B<W.heap.size:=Am U;clear hi bG aK;by_cases aQ:(p,hd)=y
  . subst aQ
    clear aU
    cases hd with
    |Bx ww=>
     have bc:addr=64*p+2:=by
      have:=a9.out;simp only [A8,List.mem_singleton,Prod.mk.injEq] at this;exact this.1
     have aV:Hid (LL (p,Hd.Bx ww) addr (.tuple #[.int .i64 p, .int .i64 0,Is (Hd.Bx ww), .bool true])):=Zh ⟨bc,rfl⟩;simp only [Hu,Hp,Hi] at U ag hw ⊢;generalize (ww+65)/64=nn at*;have d0:((2:Int)==2)=true:=(by decide);have d2:((addr:Int)==(p:Int)*64+2)=true:=(by simp;omega);clear ar bc;have aW:=Zh (aP.set (.int .i64 p) (.int .i64 0) (.int .i64 2) (.int .i64 nn) (.int .u64 ww) (.bool true));have aX:=Zh (Mp (w:=w) ae (.int .i64 p) (.int .i64 0) (.int .i64 2) (.int .i64 nn) (.int .u64 ww) (.bool true));have aY:=Zh (Mh W w.heap.size w2.heap.size (.int .i64 p) (.int .i64 0) (.int .i64 2) (.int .i64 nn) (.int .u64 ww) (.bool true));obtain⟨q1,bH,bI,bJ,bK,bL,u1,u2,u3,aZ,a0,a1⟩:=aP;gi_wp2
     gi_region_with_o (fail)
     all_goals
      gi_wp2;exact⟨aY,rfl,⟨_,_,aV,aW⟩,aX⟩
    |small O m=>
     obtain⟨aF,J,ab,V⟩: ∃aF,aF<AY O/\m.testBit aF=true/\addr=64*p+2+aF*sz O:=by
      have:=a9.out;simp only [A8,List.mem_map,Prod.mk.injEq] at this;obtain⟨aF,h1,aI,_⟩:=this;rw [FV] at h1;exact⟨aF,h1.1,h1.2,aI.symm⟩
     have aV:Hid (LL (p,Hd.small O m) addr (.tuple #[.int .i64 p, .int .i64 (aF:Nat),Is (Hd.small O m), .bool true])):=Zh ⟨aF,J,ab,V,rfl⟩;obtain⟨aB,_,az⟩:=ar;obtain⟨aA,_⟩:=Ynp;have cd:=Fb O aF aB J;obtain⟨bM,bN⟩:=Ylq;obtain⟨bO,bP,bd⟩:=EA;simp only [Hu,Hp,Hi] at U ag hw ⊢;have d0:((1:Int)==2)=false:=(by decide);have d1:((1:Int) !=1)=false:=(by decide);have d2:((addr:Int)/64 !=(p:Int))=false:=(by simp;simp only [Hd.len] at hdiv;omega);have ce:addr<67108864:=(by omega);clear az V J ab hdiv a7;gi_wp2_with fail;refine(bN _).mono ?_;rintro e W' ⟨rfl,I⟩;rw [bM];have bQ:=aP.below I;have am:=Yjb;have aL:=Yls;have bR:=Zh ((BI I).from w2.heap.size);have be:=Dt;clear I U ag hw ao aP d0 d1 d2;gi_wp2_with fail;generalize bf:AY O=bS at*;have ay:=Zh bf;clear bf
     gi_loopw [45] (λa2 wr=> ∃k:Nat,k<=aF/\a2= .int .i64 k/\Hid (Below W'.heap.size W' wr)) (λa2 _=>aF+1-(intOf a2).toNat)
     case atStart=>exact⟨0,by omega,rfl,Zh (Below.refl _ _)⟩
     case round=>
      obtain⟨k,cf,rfl,ac⟩:=hrel;have cg:=bO.out;have ci:k<bS:=(by omega);have bg:=bQ.below ac.out;have a3:=Yja;have a4:=(ac.cell (p:=⟨B,0,none⟩) (Am aL.k)).trans aL.k;have aM:=(ac.cell (p:=⟨B,1,none⟩) (Am aL.n)).trans aL.n;have aN:=(ac.cell (p:=⟨B,2,none⟩) (Am aL.w)).trans aL.w;simp only [Hu,Hp,Hi] at a4 aM aN;have bh:=Yne;have bT:=Yod;by_cases bU:k<aF
      . have bi:((64*p+2+k*sz O:Nat):Int)≠(addr:Int):=by
         have h1:=bd.out;have aI:(k+1)*sz O<=aF*sz O:=Nat.mul_le_mul_right _ bU;have cj:=QE O;rw [Nat.add_mul] at aI;omega
        generalize 64*p+2+k*sz O=A at*;have d4:((A:Int)==(addr:Int))=false:=(by simpa using bi);clear bi;have a5:prog.follows .mixedOrders=true:=(by kernel_rfl);have bj:=(λX:BK wr=>X.cell a3);have bk:=(λX:BK wr=>X.cell aM);have bm:=(λX:BK wr=>X.cell aN);gi_wp2;refine EN (by kernel_rfl) a5 (by kernel_rfl) ?_
        repeat (gi_big_quiet_step ((gi_at_call 95;exact Fc (bh _))))
        refine wpQuietIn_nil ?_;rintro _ ⟨X,rfl⟩;have a6:=Zh (ac.trans (X.h.mono ac.size));gi_wp2;go_roundw
        case rel=>exact⟨k+1,by omega,by go_num,a6⟩
        case measure=>simp [intOf];omega
      . obtain rfl:k=aF:=by omega
        have hA:=bd.out;have d4:(((64*p+2+k*sz O:Nat):Int)==(addr:Int))=true:=(by rw [<-hA];simp);generalize 64*p+2+k*sz O=A at*;have d5:=bP.out;clear hA;have a5:=OO;have bj:=(λX:BK wr=>X.cell a3);have bk:=(λX:BK wr=>X.cell aM);have bm:=(λX:BK wr=>X.cell aN);gi_wp2;refine EN (by kernel_rfl) a5 (by kernel_rfl) ?_
        repeat (gi_big_quiet_step ((first|(gi_at_call 95;exact Fc (bh _))|(gi_at_call 94;exact Fc ((bT _).mono λe w' h=>⟨h.1,h.2▸Below.refl _ _⟩)))))
        refine wpQuietIn_nil ?_;rintro _ ⟨X,rfl⟩;have bo:=bg.below X.h;have ck:=X.cell a4;have cl:=X.cell aM;have cn:=X.cell aN;have bV:=Zh ((BI (ac.trans (X.h.mono ac.size))).from w2.heap.size);have a6:=Zh (be.trans ((ac.trans (X.h.mono ac.size)).mono be.size));generalize X.W=bW at*;have aW:=Zh (bo.set (.int .i64 p) (.int .i64 (k:Nat)) (.int .i64 1) (.int .i64 O) (.int .u64 m) (.bool true));have aX:=Zh (Mp (w:=w) a6 (.int .i64 p) (.int .i64 (k:Nat)) (.int .i64 1) (.int .i64 O) (.int .u64 m) (.bool true));have aY:=Zh (Mh bW w.heap.size w2.heap.size (.int .i64 p) (.int .i64 (k:Nat)) (.int .i64 1) (.int .i64 O) (.int .u64 m) (.bool true));obtain⟨q1,bH,bI,bJ,bK,bL,u1,u2,u3,aZ,a0,a1⟩:=bo;clear bj bk bm a4 aM aN a3 bg;gi_wp2
        gi_region_with_o (fail)
        all_goals
         gi_wp2;exact⟨bR.trans (bV.trans aY),rfl,⟨_,_,aV,aW⟩,aX⟩
  . have bX:=aU.resolve_left aQ
    obtain⟨bp,bq⟩:=bX;have aE:Hid (y∉(pre++ [(⟨(p,hd),al⟩:{z:Nat × Hd // z∈L})]).map (λ(z:{z:Nat × Hd // z∈L})=>z.1)):=Zh (by
     have:=bF.out;simp only [List.map_append,List.mem_append,not_or,List.map_cons,List.map_nil,List.mem_singleton] at this ⊢;exact⟨this,λe=>aQ e.symm⟩)
    clear aU aQ ah
    cases hd with
    |Bx ww=>
     simp only [Hu,Hp,Hi] at U ag hw;dsimp only at bp bq;have d0:((2:Int)==2)=true:=(by decide);have d1:((2:Int) !=1)=true:=(by decide);have d2:((addr:Int)==(p:Int)*64+2)=false:=(by simp;omega);exact Ygm
    |small O m=>
     simp only [Hu,Hp,Hi] at U ag hw;dsimp only at bp bq;have d0:((1:Int)==2)=false:=(by decide);have d1:((1:Int) !=1)=false:=(by decide);have d2:((addr:Int)/64 !=(p:Int))=true:=(by simp;omega);exact Ygm
 case done=>
  rintro D' xs W bY bZ ⟨aK,hi⟩ Z;exact absurd (by rw [bZ];exact bw.out) aK
 case stop=>
  rintro D' aT pre W bY ⟨t,b3⟩ ⟨rfl,⟨u,v,br,aq⟩,aG⟩ Z;have au:=Zh aG;have aC:=Zh br;have b4:=Yla;obtain⟨u1,u2,u3,aZ,a0,a1,_⟩:=b4;clear aG aq b3 br hdiv a7;gi_wp2;refine⟨by simp, .inl ⟨_,_,rfl,run_takeDeferred Z, ?_⟩⟩;refine⟨.tuple #[u,v,Is y.2, .bool true], ?_, ?_⟩
  . simp [results,f103,go_sem,u1,u2,u3,aZ,a0,a1,Jd]
  . exact Yfe
