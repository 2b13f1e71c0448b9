/- A part. -/
import Derived.Test.YtiopopoohglepaaGreatDoorPMa
import Derived.Sort.BigQuietIn
import Derived.Below
set_option linter.all false
namespace Go.Proofs.YtiopopoohglepaaGreatDoor
open Go Go.RowKit
variable {K':Act->World->Prop}{Q Q':Exit->Act->World->Prop}{args:Array Value}{i id:Nat}{p:Addr}{v:Value}{w:World}
structure BK(w:World) where
 W:World
 h:Below w.heap.size w W
instance (w:World):Nonempty (BK w):=⟨⟨w,Below.refl _ _⟩⟩
def Ydw{P}(h:P:=by
 unfold World.cell? at I;by_cases J:p.block<w.heap.size
 . exact J
 . rw [Array.getElem?_eq_none (by omega)] at I;simp at I):=h
theorem BK.cell(I:w.cell? p=some v)(X:BK w):X.W.cell? p=some v:=by
 have J:p.block<w.heap.size:=by
  exact Ydw
 exact(X.h.cell J).trans I
theorem BK.frozen(I:p.block<w.heap.size)(X:BK w):X.W.frozen? p=w.frozen? p:=X.h.frozen I
theorem BK.block{k:Nat}(I:k<w.heap.size)(X:BK w):X.W.heap[k]? =w.heap[k]? :=X.h.block k I
theorem Ec(f:Nat):Fence.wide.fn f=True:=rfl
theorem Ac(w:World):Below w.heap.size w { w with drawn:=w.drawn+1 }:=⟨rfl,rfl,rfl,Nat.le_refl _,λ_ _=>rfl⟩
theorem I9{P:Program}{f:FuncId}{X:BK w}(h:Calls P f args X.W λe w' =>e= .returned v/\Below X.W.heap.size X.W w'):
 Calls P f args X.W λe w' =>e= .returned v/\ ∃Y:BK w,w' =Y.W:=
 h.mono λ_ w' ⟨he,I⟩=>⟨he,⟨w',X.h.trans (I.mono X.h.size)⟩,rfl⟩
theorem Fc{F:Fence}{n:Nat}{P:Program}{f:FuncId}{X:BK w}(h:CallsIn F n P f args X.W λe w' =>e= .returned v/\Below X.W.heap.size X.W w'):
 CallsIn F n P f args X.W λe w' =>e= .returned v/\ ∃Y:BK w,w' =Y.W:=
 h.mono λ_ w' ⟨he,I⟩=>⟨he,⟨w',X.h.trans (I.mono X.h.size)⟩,rfl⟩
theorem Ek{P:Program}{a:Act}{l:List Oper}(hm:P.follows .mixedOrders=true)(I:Region.lexB .any l.toArray=true)
 (h:wpQuiet P l.toArray (λw' => ∃X:BK w,w' =X.W) (λa' => ∀w',(∃X:BK w,w' =X.W)->Q .normal a' w') l a):(Code.region id l.toArray true).wp P Q a w:=
 wp_region_quiet (C:=λw' => ∃X:BK w,w' =X.W) hm I ⟨⟨_,Ac w⟩,rfl⟩ (by simpa using h)
theorem C2{P:Program}{a:Act}{l:List Oper}(n:Nat)(hm:P.follows .mixedOrders=true)(I:Region.lexTailB .any l.toArray n=true)
 (h:wpQuiet P l.toArray (λw' => ∃X:BK w,w' =X.W) (λa' => ∀w',(∃X:BK w,w' =X.W)->wpList P l.toArray Q (l.drop n) a' w') (l.take n) a):(Code.region id l.toArray true).wp P Q a w:=
 Eb (λw' => ∃X:BK w,w' =X.W) n hm I ⟨⟨_,Ac w⟩,rfl⟩ h
section
variable {F:Fence} {n:Nat} {P:Program} {ops:Array Oper} {md:Region.Mode} {C:World->Prop}
def Ef(ops:Array Oper):Bool:=ops.all λo=>match o.op with| .defer _=>false|_=>true
theorem G9{o:Oper}(h:Ef ops=true)(hi:ops[i]? =some o): ∀c,o.op≠ .defer c:=by
 intro c I;unfold Ef at h;rw [Array.all_eq_true] at h;obtain⟨J,rfl⟩:=Array.getElem?_eq_some_iff.1 hi;have:=h i J;rw [I] at this
 cases this
theorem TG(F:Fence)(ρ:Operand->Value)(o:Oper)(h: ∀c,o.op≠ .defer c):o.semAt F.round ρ=execOp ρ o:=by
 cases F.round with
 |none=>rfl
 |some l=>exact Oper.semAt_some l _ _ h
theorem MG{o:Oper}{a:Act}{K:Act->Prop}(V: ∀c,o.op≠ .defer c)(hw:C w)(h: ∀a w',C w' ->K a->K' a w')
 (ha:o.askedIn F P a C) (hh:o.quietIn F n P a C K):o.wpIn F n P a w K' Q' :=by
 obtain⟨v,h1,O⟩:=hh;have I:=h1 w hw;unfold Oper.quietAtIn at I;unfold Oper.wpIn;refine⟨ha w hw, ?_⟩;rw [TG _ _ _ V];generalize (execOp a.eval o).run P w=r at*
 cases r with
 |ok x w' =>
  cases x<;>simp only [Oper.quietUponIn] at I<;>simp only [Oper.uponIn]
  case value u=>
   obtain⟨J,U⟩:=I;rw [J,U];exact h _ _ hw O
  case skip=>
   obtain⟨J,U⟩:=I;rw [J,<-U];exact h _ _ hw O
  case enter f args=>
   obtain⟨J,hd,Z⟩:=I;rw [J];exact⟨hd,Z.mono λe ab ⟨he,aa⟩=>by subst he;exact h _ _ aa O⟩
 |halt x w' =>simp only [Oper.quietUponIn] at I
theorem MJ{a:Act}{K:Act->Prop}(J:Ef ops=true)(I:C w)(h: ∀a w',C w' ->K a->K' a w')
 (hh:qOpIn F n P ops C i K a):wpOpIn F n P ops Q' i K' a w:=by
 unfold qOpIn at hh;unfold wpOpIn
 split
 . rename_i ho;simp only [ho] at hh;exact h _ _ I hh
 . rename_i o ho
   simp only [ho] at hh;obtain⟨ha,hh⟩:=hh
   split
   . rename_i hw;simp only [hw,if_true] at hh;exact MG (G9 J ho) I h ha hh
   . rename_i hw;simp only [hw] at hh;exact⟨ha w I,h _ _ I hh⟩
theorem Gs{Q:Act->Prop}{Q' :Exit->Act->World->Prop}(J:Ef ops=true)(I: ∀a w,C w->Q a->Q' .normal a w): ∀(fuel:Nat) (listed:Array Bool) (a:Act) (w:World),C w->
 wpAnyQIn F n P md ops C Q fuel listed a->wpAnyIn F n P md ops Q' fuel listed a w
 |0,_,_,_,hw,h=>⟨h.1,I _ _ hw h.2⟩
 |fuel+1,_,_,_,hw,h=>⟨λh0=>I _ _ hw (h.1 h0),λi hi=>MJ J hw (λa' w' O =>Gs J I fuel _ a' w' O) (h.2 i hi)⟩
theorem EN{a:Act}{l:List Oper}(J:Ef l.toArray=true)(hm:P.follows .mixedOrders=true)(I:Region.lexB .any l.toArray=true)
 (h:wpQuietIn F n P l.toArray (λw' => ∃X:BK w,w' =X.W) (λa' => ∀w',(∃X:BK w,w' =X.W)->Q .normal a' w') l a):(Code.region id l.toArray true).wpIn F n P Q a w:=by
 simp only [Region.lexB,Bool.and_eq_true] at I;refine wpIn_region_any hm (Gs (Q:=λa' => ∀w',(∃X:BK w,w' =X.W)->Q .normal a' w') (C:=λw' => ∃X:BK w,w' =X.W) J (λ_ w' O h=>h w' O) _ _ _ _ ⟨⟨_,Ac w⟩,rfl⟩ ?_);have:=wpAnyQIn_lex (F:=F) (n:=n) (P:=P) (C:=λw' => ∃X:BK w,w' =X.W) (Q:=λa' => ∀w',(∃X:BK w,w' =X.W)->Q .normal a' w') (md:= .any) (ops:=l.toArray) I.1 l 0 (Array.replicate l.toArray.size false) a (by simp) (by simpa using I.2) h
 simpa using this
end
section
variable {F:Fence} {n':Nat} {P:Program} {ops:Array Oper} {md:Region.Mode} {C:World->Prop}
end
