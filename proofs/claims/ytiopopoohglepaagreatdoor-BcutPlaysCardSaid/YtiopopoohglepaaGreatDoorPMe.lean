/- A part. -/
import Derived.Test.YtiopopoohglepaaGreatDoorPMd
import Derived.WalkArith
import Derived.Maps.Own
import Derived.Maps.OwnOps
import Derived.Maps.OwnSet
import Derived.Maps.Views
set_option linter.all false
set_option maxRecDepth 100000
namespace Go.Proofs.YtiopopoohglepaaGreatDoor
open Go.Proofs.Tryz
open Go.RowKit Go.Shelf
variable {a b mb n p q:Nat}{mem:Nat->Nat}{ps:List Nat}{v:Value}{w w':World}
abbrev DW:=DataW Unit
def Gc:Value->Option (DW × List MemPlace)
 | .pointer none=>some (.nil,[])
 | .pointer (some a)=>if a.off=0/\a.spot=none then some (.lit (.int .u64 a.block),[]) else none
 |_=>none
def numOf:DW->Option Nat
 | .lit (.int _ g)=>some g.toNat
 |_=>none
def Cy(D:DW)(p:Int):Option Nat:=numOf (D.atKey (.int .i64 p) .nil)
def Tn:Option Nat->Value
 |none=> .pointer none
 |some g=> .pointer (some ⟨g,0,none⟩)
theorem Wk(w:World):(zeroValue 193).run prog w= .ok (.pointer none) w:=by kernel_rfl
theorem E9:Maps.Keyed prog 3:=Maps.int_keyed Tryz.underlying3
theorem QS{p:Int}(h1: -9223372036854775808<=p)(I:p<=9223372036854775807):keyOf prog 3 (.int .i64 p)=some (.int .i64 p):=
 Maps.keyOf_int_mk Tryz.underlying3 (WalkArith.wf_i64 ⟨h1,I⟩)
abbrev EB(w:World)(b n:Nat)(D:DW):Prop:=w.ownsMap prog 3 Gc b n D
theorem WV{d:DW}{ps:List MemPlace}(h:Gc v=some (d,ps)):v=Tn (numOf d):=by
 unfold Gc at h
 split at h
 . cases h;rfl
 . rename_i a
   obtain⟨b,o,s⟩:=a;by_cases ha:o=0/\s=none
   . obtain⟨rfl,rfl⟩:=ha
     rw [if_pos ⟨rfl,rfl⟩] at h
     cases h
     rfl
   . rw [if_neg ha] at h
     cases h
 . cases h
theorem Nc{D:DW}(h:EB w b n D){p:Int}(h1: -9223372036854775808<=p)(I:p<=9223372036854775807):
 (Instr.lookup 124 (.map (some b)) (.int .i64 p) false).run prog w= .ok (Tn (Cy D p)) w:=by
 obtain⟨v,ps,J,O⟩:=h.lookup E9 Tryz.underlying124 (Wk w) (show Gc (.pointer none)=some (.nil,[]) from rfl) (QS h1 I);rw [J,WV O];rfl
theorem EP(w:World){ops:Array Oper}{rest:List Oper}{o:Oper}{a:Act}{Q:Exit->Act->World->Prop}
 (hg:o.guard=none) (m x:Operand) (I:o.op=Op.lookup 124 m x false) (b n:Nat) (D:DW)
 (hm:a.eval m= .map (some b)) (J:EB w b n D) (p:Int) (hx:a.eval x= .int .i64 p) (h1: -9223372036854775808<=p) (O:p<=9223372036854775807)
 (U:wpList prog ops Q rest (a.put o.dst (Tn (Cy D p))) w):
 wpList prog ops Q (o::rest) a w:=by
 refine wpList_plain hg λK' V => ?_
 have Z:=Nc J h1 O;unfold Oper.wp;simp [execOp,I,hm,hx,Z,Result.andThen];exact V _ _ U
theorem EB.tight{D:DW}(h:EB w b n D):EB w b (Maps.size D) D:=by
 obtain⟨es,clock,J,F,hs,I⟩:=h;refine⟨es,clock,J,F, ?_,I⟩;rw [I];simp [Maps.size,length_sorted]
theorem ZG(p:Int):WideAt.IsKeyLit (.int .i64 p):=by simp [WideAt.IsKeyLit]
theorem Wz{D:DW}(J:Maps.IsMap D)(p:Int)(g:Nat)(I :Int):Cy (D.put (.int .i64 p) (.lit (.int .u64 g))) I =if I =p then some g else Cy D I :=by
 unfold Cy;by_cases h:I =p
 . subst h;rw [Maps.atKey_put_same J (ZG _),if_pos rfl];rfl
 . rw [Maps.atKey_put_other (by simpa using h),if_neg h]
theorem Vz{D:DW}(p I :Int):Cy (D.del (.int .i64 p)) I =if I =p then none else Cy D I :=by
 unfold Cy;by_cases h:I =p
 . subst h;rw [Maps.atKey_del_same,if_pos rfl];rfl
 . rw [Maps.atKey_del_other (by simpa using h),if_neg h]
structure AW(w:World)(a mb:Nat)(D:DW)(ps:List Nat)(q:Nat)(mem:Nat->Nat):Prop where
 cq:w.cell? ⟨a,0,none⟩=some (.int .i64 q)
 cm:w.cell? ⟨a,1,none⟩=some (.map (some mb))
 own:EB w mb (Maps.size D) D
 room:Maps.size D*64<=q
 Cb: ∀p:Int,Cy D p≠none↔ ∃k∈ps,p=(k:Nat)
 nodup:ps.Nodup
 count:Maps.size D=ps.length
 full: ∀p:Int,Maps.has D (.int .i64 p)=true->Cy D p≠none
 keys: ∀k,Maps.has D k=true-> ∃p:Int,k= .int .i64 p
 DA:q<=262144
 low: ∀p∈ps,p<524288
 words: ∀p g:Nat,Cy D (p:Nat)=some g-> ∀k,k<64->w.cell? ⟨g,k,none⟩=some (.int .u64 (mem (64*p+k):Nat))/\w.frozen? ⟨g,k,none⟩=false
 inj: ∀p p' g:Nat,Cy D (p:Nat)=some g->Cy D (p' :Nat)=some g->p=p'
 off: ∀p g:Nat,Cy D (p:Nat)=some g->g≠a
 word: ∀x,mem x<18446744073709551616
def Bn(a mb:Nat)(D:DW)(b:Nat):Prop:=b=a\/b=mb\/ ∃p:Nat,Cy D (p:Nat)=some b
theorem Am{a:Addr}(h:w.cell? a=some v):a.block<w.heap.size:=by
 unfold World.cell? at h;by_cases I:a.block<w.heap.size
 . exact I
 . rw [Array.getElem?_eq_none (by omega)] at h;simp at h
theorem AW.lt{D:DW}(h:AW w a mb D ps q mem)(I:Bn a mb D b):b<w.heap.size:=by
 rcases I with rfl|rfl|⟨p,hp⟩
 . exact Am (a:=⟨_,0,none⟩) h.cq
 . exact h.own.lt
 . exact Am (a:=⟨_,0,none⟩) (h.words p b hp 0 (by omega)).1
theorem AW.same{D:DW}(h:AW w a mb D ps q mem)(I: ∀b,Bn a mb D b->w'.heap[b]? =w.heap[b]?):AW w' a mb D ps q mem where
 cq:=(World.cell?_of_block (a:=⟨a,0,none⟩) (I a (.inl rfl))).trans h.cq
 cm:=(World.cell?_of_block (a:=⟨a,1,none⟩) (I a (.inl rfl))).trans h.cm
 own:=by
  obtain⟨es,clock,O,F,hs,U⟩:=h.own;exact⟨es,clock,(I mb (.inr (.inl rfl))).trans O,F,hs,U⟩
 room:=h.room
 Cb:=h.Cb
 nodup:=h.nodup
 count:=h.count
 full:=h.full
 keys:=h.keys
 DA:=h.DA
 low:=h.low
 words:=λp g hg k J =>⟨(World.cell?_of_block (a:=⟨g,k,none⟩) (I g (.inr (.inr ⟨p,hg⟩)))).trans (h.words p g hg k J).1,(World.frozen?_of_block (a:=⟨g,k,none⟩) (I g (.inr (.inr ⟨p,hg⟩)))).trans (h.words p g hg k J).2⟩
 inj:=h.inj
 off:=h.off
 word:=h.word
theorem AW.below{B:Nat}{D:DW}(h:AW w a mb D ps q mem)(I:Below B w w')(J: ∀b,Bn a mb D b->b<B):AW w' a mb D ps q mem:=
 h.same λb O=>I.block b (J b O)
def B7(mem:Nat->Nat)(x v:Nat):Nat->Nat:=λi=>if i=x then v else mem i
theorem AW.write{D:DW}(h:AW w a mb D ps q mem){g k v:Nat}(hg:Cy D (p:Nat)=some g)(af:k<64)(Z:v<18446744073709551616):
 AW (w.setCell ⟨g,k,none⟩ (.int .u64 v)) a mb D ps q (B7 mem (64*p+k) v):=by
 have V:=h.off p g hg;have aa:g≠mb:=by
  rintro rfl;obtain⟨es,clock,ab,_⟩:=h.own;have:=(h.words p g hg 0 (by omega)).1;unfold World.cell? at this;simp [ab] at this
 refine⟨?_, ?_, ?_,h.room,h.Cb,h.nodup,h.count,h.full,h.keys,h.DA,h.low, ?_,h.inj,h.off, ?_⟩
 . exact(World.cell?_setCell_other _ _ _ _ (by simp [V])).trans h.cq
 . exact(World.cell?_setCell_other _ _ _ _ (by simp [V])).trans h.cm
 . exact Go.World.ownsMap.setCell h.own (a:=⟨g,k,none⟩) (Ne.symm aa) _
 . intro J I O k' U
   by_cases he:I =g/\k' =k
   . obtain⟨rfl,rfl⟩:=he
     obtain rfl:=h.inj p J I hg O;refine⟨?_,by simpa using (h.words p I hg k' U).2⟩;rw [World.cell?_setCell_same' _ _ _ (by rw [(h.words p I hg k' U).1];rfl)];simp [B7]
   . refine⟨?_,by simpa using (h.words J I O k' U).2⟩
     have ac:(⟨g,k,none⟩:Addr)≠⟨I,k',none⟩:=by
      intro hh;simp only [Addr.mk.injEq] at hh;exact he ⟨hh.1.symm,hh.2.1.symm⟩
     rw [World.cell?_setCell_other _ _ _ _ ac,(h.words J I O k' U).1];have:64*J +k' ≠64*p+k:=by
      intro hh;have ae:J =p:=(by omega);subst ae;rw [hg] at O
      cases O
      exact he ⟨rfl,by omega⟩
     simp [B7,this]
 . intro x;unfold B7;split;exact Z;exact h.word x
theorem QM(b:Nat)(w:World):(binOp .eql 124 (.map (some b)) (.map none)).run prog w= .ok (.bool false) w:=by
 first|kernel_rfl|rfl|simp [binOp,go_sem]
theorem FQ{D:DW}(h:AW w a mb D ps q mem):Calls prog 114 #[.pointer (some ⟨a,0,none⟩)] w λe w' =>e= .returned (.bool false)/\w=w' :=by
 have I:=h.cm;have J:=QM mb w;clear h;go_enter func114,ntmps114;go_wp2;go_ret;exact⟨rfl,rfl⟩
def atR(D:DW)(x:Nat):Value:=
 match Cy D ((x/64:Nat):Nat) with
 |some g=> .tuple #[.pointer (some ⟨g,x%64,none⟩), .int .i64 0]
 |none=> .tuple #[.pointer none, .int .i64 5]
def Ydd{P}(h:P:=by
 simp only [Tn] at I;push_cast at I;go_enter func96,ntmps96;go_wp2_with (go_at_call 114;refine hN.mono ?_;rintro e w' ⟨rfl,rfl⟩)
 go_ret2
 exact⟨rfl,rfl⟩):=h
theorem TD{D:DW}(h:AW w a mb D ps q mem)(x:Nat)(hx:x<67108864):
 Calls prog 96 #[.pointer (some ⟨a,0,none⟩), .int .i64 x] w λe w' =>e= .returned (atR D x)/\w=w' :=by
 have O:=h.cm;have J:=h.own;have hN:=Zh (FQ h);have I:=Nc J (p:=((x/64:Nat):Int)) (by omega) (by omega);clear h;have U:decide ((67108863:Int)<(x:Int))=false:=by simp;omega
 unfold atR;generalize hg:Cy D ((x/64:Nat):Int)=og at*;clear hg
 cases og with
 |none=>
  exact Ydd
 |some g=>
  exact Ydd
theorem AW.perm{D:DW}{J:List Nat}(h:AW w a mb D ps q mem)(hp:ps.Perm J):AW w a mb D J q mem where
 cq:=h.cq
 cm:=h.cm
 own:=h.own
 room:=h.room
 Cb:=λp=>(h.Cb p).trans ⟨λ⟨k,I,e⟩=>⟨k,hp.mem_iff.1 I,e⟩,λ⟨k,I,e⟩=>⟨k,hp.mem_iff.2 I,e⟩⟩
 nodup:=hp.nodup_iff.1 h.nodup
 count:=h.count.trans hp.length_eq
 full:=h.full
 keys:=h.keys
 DA:=h.DA
 low:=λp O =>h.low p (hp.mem_iff.2 O)
 words:=h.words
 inj:=h.inj
 off:=h.off
 word:=h.word
theorem AW.Vf{D:DW}(h:AW w a mb D ps q mem)(hp:p∈ps): ∃g,Cy D (p:Nat)=some g:=by
 have:=(h.Cb (p:Nat)).2 ⟨p,hp,rfl⟩
 cases hg:Cy D (p:Nat) with
 |none=>exact absurd hg this
 |some g=>exact⟨g,rfl⟩
theorem AW.N9{D:DW}(h:AW w a mb D ps q mem)(hp:p∉ps):Cy D (p:Nat)=none:=by
 cases hg:Cy D (p:Nat) with
 |none=>rfl
 |some g=>
  obtain⟨k,I,e⟩:=(h.Cb (p:Nat)).1 (by rw [hg];simp);obtain rfl:p=k:=by omega
  exact absurd I hp
def Yea{P}(h:P:=by
 go_enter func53,ntmps53;go_wp2_with (go_at_call 96;refine I.mono ?_;rintro e w' ⟨rfl,rfl⟩)
 go_ret2
 exact⟨rfl,rfl⟩):=h
theorem NH{D:DW}(h:AW w a mb D ps q mem)(x:Nat)(hp:x/64∈ps):
 Calls prog 53 #[.pointer (some ⟨a,0,none⟩), .int .i64 x] w λe w' =>e= .returned (.tuple #[.int .u64 (mem x:Nat), .int .i64 0])/\w=w' :=by
 have J:=h.low _ hp;obtain⟨g,hg⟩:=h.Vf hp;have hA:=TD h x (by omega);unfold atR at hA;rw [hg] at hA;have O:=(h.words _ g hg (x%64) (by omega)).1;rw [show 64*(x/64)+x%64=x by omega] at O;have I:=Zh hA;clear hA hg h J hp;exact Yea
theorem U2{D:DW}(h:AW w a mb D ps q mem)(x:Nat)(hx:x<67108864)(hp:x/64∉ps):
 Calls prog 53 #[.pointer (some ⟨a,0,none⟩), .int .i64 x] w λe w' =>e= .returned (.tuple #[.int .u64 0, .int .i64 5])/\w=w' :=by
 have hA:=TD h x hx;unfold atR at hA;rw [h.N9 hp] at hA;have I:=Zh hA;clear hA h hp;exact Yea
def XG(w:World)(D:DW)(x v:Nat)(w' :World):Prop:= ∃g,Cy D ((x/64:Nat):Nat)=some g/\w' =w.setCell ⟨g,x%64,none⟩ (.int .u64 v)
theorem Jk{D:DW}(h:AW w a mb D ps q mem)(x v:Nat)(hp:x/64∈ps)(O:v<18446744073709551616):
 Calls prog 58 #[.pointer (some ⟨a,0,none⟩), .int .i64 x, .int .u64 v] w λe w' =>e= .returned (.int .i64 0)/\XG w D x v w' /\AW w' a mb D ps q (B7 mem x v):=by
 have U:=h.low _ hp;obtain⟨g,hg⟩:=h.Vf hp;have hA:=TD h x (by omega);unfold atR at hA;rw [hg] at hA;have J:=h.words _ g hg (x%64) (by omega);have I:=h.write hg (k:=x%64) (by omega) O;rw [show 64*(x/64)+x%64=x by omega] at J I;obtain⟨ab,ac⟩:=J;have V:=Zh hA;have Z:=Zh I;have aa:=Zh hg;clear hA hg h U hp I;go_enter func58,ntmps58;go_wp2_with (go_at_call 96;refine V.mono ?_;rintro e w' ⟨rfl,rfl⟩);go_ret;exact⟨rfl,⟨g,aa,rfl⟩,Z⟩
