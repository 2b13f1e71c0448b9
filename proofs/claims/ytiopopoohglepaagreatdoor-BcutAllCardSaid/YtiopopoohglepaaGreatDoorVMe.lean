/- A part. -/
import Derived.Test.YtiopopoohglepaaGreatDoorVMd
import Derived.WalkArith
import Derived.Maps.Own
import Derived.Maps.OwnOps
import Derived.Maps.OwnSet
import Derived.Maps.Views
set_option linter.all false
set_option maxRecDepth 100000
namespace Go.Proofs.YtiopopoohglepaaGreatDoor
open Go.Proofs.Tryz
open Go.RowKit Go.Shelf
variable {a b mb n p q:Nat}{mem:Nat->Nat}{ps:List Nat}{v:Value}{w w':World}
abbrev DW:=DataW Unit
def F9:Value->Option (DW × List MemPlace)
 | .pointer none=>some (.nil,[])
 | .pointer (some a)=>if a.off=0/\a.spot=none then some (.lit (.int .u64 a.block),[]) else none
 |_=>none
def numOf:DW->Option Nat
 | .lit (.int _ g)=>some g.toNat
 |_=>none
def Cw(D:DW)(p:Int):Option Nat:=numOf (D.atKey (.int .i64 p) .nil)
def S4:Option Nat->Value
 |none=> .pointer none
 |some g=> .pointer (some ⟨g,0,none⟩)
theorem VV(w:World):(zeroValue 193).run prog w= .ok (.pointer none) w:=by kernel_rfl
theorem E7:Maps.Keyed prog 3:=Maps.int_keyed Tryz.underlying3
theorem QL{p:Int}(h1: -9223372036854775808<=p)(d:p<=9223372036854775807):keyOf prog 3 (.int .i64 p)=some (.int .i64 p):=
 Maps.keyOf_int_mk Tryz.underlying3 (WalkArith.wf_i64 ⟨h1,d⟩)
abbrev Ez(w:World)(b n:Nat)(D:DW):Prop:=w.ownsMap prog 3 F9 b n D
theorem Wz{d:DW}{ps:List MemPlace}(h:F9 v=some (d,ps)):v=S4 (numOf d):=by
 unfold F9 at h
 split at h
 . cases h;rfl
 . rename_i a
   obtain⟨b,o,s⟩:=a;by_cases ha:o=0/\s=none
   . obtain⟨rfl,rfl⟩:=ha
     rw [if_pos ⟨rfl,rfl⟩] at h
     cases h
     rfl
   . rw [if_neg ha] at h
     cases h
 . cases h
theorem Na{D:DW}(h:Ez w b n D){p:Int}(h1: -9223372036854775808<=p)(d:p<=9223372036854775807):
 (Instr.lookup 124 (.map (some b)) (.int .i64 p) false).run prog w= .ok (S4 (Cw D p)) w:=by
 obtain⟨v,ps,I,J⟩:=h.lookup E7 Tryz.underlying124 (VV w) (show F9 (.pointer none)=some (.nil,[]) from rfl) (QL h1 d);rw [I,Wz J];rfl
theorem EM(w:World){ops:Array Oper}{rest:List Oper}{o:Oper}{a:Act}{Q:Exit->Act->World->Prop}
 (hg:o.guard=none) (m x:Operand) (d:o.op=Op.lookup 124 m x false) (b n:Nat) (D:DW)
 (hm:a.eval m= .map (some b)) (I:Ez w b n D) (p:Int) (hx:a.eval x= .int .i64 p) (h1: -9223372036854775808<=p) (J:p<=9223372036854775807)
 (O:wpList prog ops Q rest (a.put o.dst (S4 (Cw D p))) w):
 wpList prog ops Q (o::rest) a w:=by
 refine wpList_plain hg λK' U => ?_
 have V:=Na I h1 J;unfold Oper.wp;simp [execOp,d,hm,hx,V,Result.andThen];exact U _ _ O
theorem Ez.tight{D:DW}(h:Ez w b n D):Ez w b (Maps.size D) D:=by
 obtain⟨es,clock,I,F,hs,d⟩:=h;refine⟨es,clock,I,F, ?_,d⟩;rw [d];simp [Maps.size,length_sorted]
theorem Zc(p:Int):WideAt.IsKeyLit (.int .i64 p):=by simp [WideAt.IsKeyLit]
theorem We{D:DW}(I:Maps.IsMap D)(p:Int)(g:Nat)(d :Int):Cw (D.put (.int .i64 p) (.lit (.int .u64 g))) d =if d =p then some g else Cw D d :=by
 unfold Cw;by_cases h:d =p
 . subst h;rw [Maps.atKey_put_same I (Zc _),if_pos rfl];rfl
 . rw [Maps.atKey_put_other (by simpa using h),if_neg h]
theorem Vd{D:DW}(p d :Int):Cw (D.del (.int .i64 p)) d =if d =p then none else Cw D d :=by
 unfold Cw;by_cases h:d =p
 . subst h;rw [Maps.atKey_del_same,if_pos rfl];rfl
 . rw [Maps.atKey_del_other (by simpa using h),if_neg h]
structure AW(w:World)(a mb:Nat)(D:DW)(ps:List Nat)(q:Nat)(mem:Nat->Nat):Prop where
 cq:w.cell? ⟨a,0,none⟩=some (.int .i64 q)
 cm:w.cell? ⟨a,1,none⟩=some (.map (some mb))
 own:Ez w mb (Maps.size D) D
 room:Maps.size D*64<=q
 Cc: ∀p:Int,Cw D p≠none↔ ∃k∈ps,p=(k:Nat)
 nodup:ps.Nodup
 count:Maps.size D=ps.length
 full: ∀p:Int,Maps.has D (.int .i64 p)=true->Cw D p≠none
 keys: ∀k,Maps.has D k=true-> ∃p:Int,k= .int .i64 p
 Dw:q<=262144
 low: ∀p∈ps,p<524288
 words: ∀p g:Nat,Cw D (p:Nat)=some g-> ∀k,k<64->w.cell? ⟨g,k,none⟩=some (.int .u64 (mem (64*p+k):Nat))/\w.frozen? ⟨g,k,none⟩=false
 inj: ∀p p' g:Nat,Cw D (p:Nat)=some g->Cw D (p' :Nat)=some g->p=p'
 off: ∀p g:Nat,Cw D (p:Nat)=some g->g≠a
 word: ∀x,mem x<18446744073709551616
def Bo(a mb:Nat)(D:DW)(b:Nat):Prop:=b=a\/b=mb\/ ∃p:Nat,Cw D (p:Nat)=some b
theorem Al{a:Addr}(h:w.cell? a=some v):a.block<w.heap.size:=by
 unfold World.cell? at h;by_cases d:a.block<w.heap.size
 . exact d
 . rw [Array.getElem?_eq_none (by omega)] at h;simp at h
theorem AW.lt{D:DW}(h:AW w a mb D ps q mem)(d:Bo a mb D b):b<w.heap.size:=by
 rcases d with rfl|rfl|⟨p,hp⟩
 . exact Al (a:=⟨_,0,none⟩) h.cq
 . exact h.own.lt
 . exact Al (a:=⟨_,0,none⟩) (h.words p b hp 0 (by omega)).1
theorem AW.same{D:DW}(h:AW w a mb D ps q mem)(d: ∀b,Bo a mb D b->w'.heap[b]? =w.heap[b]?):AW w' a mb D ps q mem where
 cq:=(World.cell?_of_block (a:=⟨a,0,none⟩) (d a (.inl rfl))).trans h.cq
 cm:=(World.cell?_of_block (a:=⟨a,1,none⟩) (d a (.inl rfl))).trans h.cm
 own:=by
  obtain⟨es,clock,J,F,hs,O⟩:=h.own;exact⟨es,clock,(d mb (.inr (.inl rfl))).trans J,F,hs,O⟩
 room:=h.room
 Cc:=h.Cc
 nodup:=h.nodup
 count:=h.count
 full:=h.full
 keys:=h.keys
 Dw:=h.Dw
 low:=h.low
 words:=λp g hg k I =>⟨(World.cell?_of_block (a:=⟨g,k,none⟩) (d g (.inr (.inr ⟨p,hg⟩)))).trans (h.words p g hg k I).1,(World.frozen?_of_block (a:=⟨g,k,none⟩) (d g (.inr (.inr ⟨p,hg⟩)))).trans (h.words p g hg k I).2⟩
 inj:=h.inj
 off:=h.off
 word:=h.word
theorem AW.below{B:Nat}{D:DW}(h:AW w a mb D ps q mem)(d:Below B w w')(I: ∀b,Bo a mb D b->b<B):AW w' a mb D ps q mem:=
 h.same λb J=>d.block b (I b J)
def B5(mem:Nat->Nat)(x v:Nat):Nat->Nat:=λi=>if i=x then v else mem i
theorem AW.write{D:DW}(h:AW w a mb D ps q mem){g k v:Nat}(hg:Cw D (p:Nat)=some g)(ae:k<64)(V:v<18446744073709551616):
 AW (w.setCell ⟨g,k,none⟩ (.int .u64 v)) a mb D ps q (B5 mem (64*p+k) v):=by
 have U:=h.off p g hg;have Z:g≠mb:=by
  rintro rfl;obtain⟨es,clock,aa,_⟩:=h.own;have:=(h.words p g hg 0 (by omega)).1;unfold World.cell? at this;simp [aa] at this
 refine⟨?_, ?_, ?_,h.room,h.Cc,h.nodup,h.count,h.full,h.keys,h.Dw,h.low, ?_,h.inj,h.off, ?_⟩
 . exact(World.cell?_setCell_other _ _ _ _ (by simp [U])).trans h.cq
 . exact(World.cell?_setCell_other _ _ _ _ (by simp [U])).trans h.cm
 . exact Go.World.ownsMap.setCell h.own (a:=⟨g,k,none⟩) (Ne.symm Z) _
 . intro I d J k' O
   by_cases he:d =g/\k' =k
   . obtain⟨rfl,rfl⟩:=he
     obtain rfl:=h.inj p I d hg J;refine⟨?_,by simpa using (h.words p d hg k' O).2⟩;rw [World.cell?_setCell_same' _ _ _ (by rw [(h.words p d hg k' O).1];rfl)];simp [B5]
   . refine⟨?_,by simpa using (h.words I d J k' O).2⟩
     have ab:(⟨g,k,none⟩:Addr)≠⟨d,k',none⟩:=by
      intro hh;simp only [Addr.mk.injEq] at hh;exact he ⟨hh.1.symm,hh.2.1.symm⟩
     rw [World.cell?_setCell_other _ _ _ _ ab,(h.words I d J k' O).1];have:64*I +k' ≠64*p+k:=by
      intro hh;have ac:I =p:=(by omega);subst ac;rw [hg] at J
      cases J
      exact he ⟨rfl,by omega⟩
     simp [B5,this]
 . intro x;unfold B5;split;exact V;exact h.word x
theorem QE(b:Nat)(w:World):(binOp .eql 124 (.map (some b)) (.map none)).run prog w= .ok (.bool false) w:=by
 first|kernel_rfl|rfl|simp [binOp,go_sem]
theorem FO{D:DW}(h:AW w a mb D ps q mem):Calls prog 114 #[.pointer (some ⟨a,0,none⟩)] w λe w' =>e= .returned (.bool false)/\w=w' :=by
 have d:=h.cm;have I:=QE mb w;clear h;go_enter func114,ntmps114;go_wp2;go_ret;exact⟨rfl,rfl⟩
def atR(D:DW)(x:Nat):Value:=
 match Cw D ((x/64:Nat):Nat) with
 |some g=> .tuple #[.pointer (some ⟨g,x%64,none⟩), .int .i64 0]
 |none=> .tuple #[.pointer none, .int .i64 5]
def Yda{P}(h:P:=by
 simp only [S4] at d;push_cast at d;go_enter func96,ntmps96;go_wp2_with (go_at_call 114;refine hN.mono ?_;rintro e w' ⟨rfl,rfl⟩)
 go_ret2
 exact⟨rfl,rfl⟩):=h
theorem Th{D:DW}(h:AW w a mb D ps q mem)(x:Nat)(hx:x<67108864):
 Calls prog 96 #[.pointer (some ⟨a,0,none⟩), .int .i64 x] w λe w' =>e= .returned (atR D x)/\w=w' :=by
 have J:=h.cm;have I:=h.own;have hN:=Zh (FO h);have d:=Na I (p:=((x/64:Nat):Int)) (by omega) (by omega);clear h;have O:decide ((67108863:Int)<(x:Int))=false:=by simp;omega
 unfold atR;generalize hg:Cw D ((x/64:Nat):Int)=og at*;clear hg
 cases og with
 |none=>
  exact Yda
 |some g=>
  exact Yda
theorem AW.perm{D:DW}{I:List Nat}(h:AW w a mb D ps q mem)(hp:ps.Perm I):AW w a mb D I q mem where
 cq:=h.cq
 cm:=h.cm
 own:=h.own
 room:=h.room
 Cc:=λp=>(h.Cc p).trans ⟨λ⟨k,d,e⟩=>⟨k,hp.mem_iff.1 d,e⟩,λ⟨k,d,e⟩=>⟨k,hp.mem_iff.2 d,e⟩⟩
 nodup:=hp.nodup_iff.1 h.nodup
 count:=h.count.trans hp.length_eq
 full:=h.full
 keys:=h.keys
 Dw:=h.Dw
 low:=λp J =>h.low p (hp.mem_iff.2 J)
 words:=h.words
 inj:=h.inj
 off:=h.off
 word:=h.word
theorem AW.UR{D:DW}(h:AW w a mb D ps q mem)(hp:p∈ps): ∃g,Cw D (p:Nat)=some g:=by
 have:=(h.Cc (p:Nat)).2 ⟨p,hp,rfl⟩
 cases hg:Cw D (p:Nat) with
 |none=>exact absurd hg this
 |some g=>exact⟨g,rfl⟩
theorem AW.N6{D:DW}(h:AW w a mb D ps q mem)(hp:p∉ps):Cw D (p:Nat)=none:=by
 cases hg:Cw D (p:Nat) with
 |none=>rfl
 |some g=>
  obtain⟨k,d,e⟩:=(h.Cc (p:Nat)).1 (by rw [hg];simp);obtain rfl:p=k:=by omega
  exact absurd d hp
def Ydv{P}(h:P:=by
 go_enter func53,ntmps53;go_wp2_with (go_at_call 96;refine d.mono ?_;rintro e w' ⟨rfl,rfl⟩)
 go_ret2
 exact⟨rfl,rfl⟩):=h
theorem ND{D:DW}(h:AW w a mb D ps q mem)(x:Nat)(hp:x/64∈ps):
 Calls prog 53 #[.pointer (some ⟨a,0,none⟩), .int .i64 x] w λe w' =>e= .returned (.tuple #[.int .u64 (mem x:Nat), .int .i64 0])/\w=w' :=by
 have J:=h.low _ hp;obtain⟨g,hg⟩:=h.UR hp;have I:=Th h x (by omega);unfold atR at I;rw [hg] at I;have O:=(h.words _ g hg (x%64) (by omega)).1;rw [show 64*(x/64)+x%64=x by omega] at O;have d:=Zh I;clear I hg h J hp;exact Ydv
theorem UF{D:DW}(h:AW w a mb D ps q mem)(x:Nat)(hx:x<67108864)(hp:x/64∉ps):
 Calls prog 53 #[.pointer (some ⟨a,0,none⟩), .int .i64 x] w λe w' =>e= .returned (.tuple #[.int .u64 0, .int .i64 5])/\w=w' :=by
 have I:=Th h x hx;unfold atR at I;rw [h.N6 hp] at I;have d:=Zh I;clear I h hp;exact Ydv
def Xf(w:World)(D:DW)(x v:Nat)(w' :World):Prop:= ∃g,Cw D ((x/64:Nat):Nat)=some g/\w' =w.setCell ⟨g,x%64,none⟩ (.int .u64 v)
theorem Jm{D:DW}(h:AW w a mb D ps q mem)(x v:Nat)(hp:x/64∈ps)(O:v<18446744073709551616):
 Calls prog 58 #[.pointer (some ⟨a,0,none⟩), .int .i64 x, .int .u64 v] w λe w' =>e= .returned (.int .i64 0)/\Xf w D x v w' /\AW w' a mb D ps q (B5 mem x v):=by
 have U:=h.low _ hp;obtain⟨g,hg⟩:=h.UR hp;have d:=Th h x (by omega);unfold atR at d;rw [hg] at d;have J:=h.words _ g hg (x%64) (by omega);have I:=h.write hg (k:=x%64) (by omega) O;rw [show 64*(x/64)+x%64=x by omega] at J I;obtain⟨ab,ac⟩:=J;have V:=Zh d;have Z:=Zh I;have aa:=Zh hg;clear d hg h U hp I;go_enter func58,ntmps58;go_wp2_with (go_at_call 96;refine V.mono ?_;rintro e w' ⟨rfl,rfl⟩);go_ret;exact⟨rfl,⟨g,aa,rfl⟩,Z⟩
