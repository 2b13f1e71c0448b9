/- A part. -/
import Derived.Test.YtiopopoohglepaaGreatDoorVMa
import Derived.Sort.BigQuietIn
import Derived.Below
set_option linter.all false
namespace Go.Proofs.YtiopopoohglepaaGreatDoor
open Go Go.RowKit
variable {K':Act->World->Prop}{Q Q':Exit->Act->World->Prop}{args:Array Value}{i id:Nat}{p:Addr}{v:Value}{w:World}
structure BL(w:World) where
 W:World
 h:Below w.heap.size w W
instance (w:World):Nonempty (BL w):=⟨⟨w,Below.refl _ _⟩⟩
def Ydr{P}(h:P:=by
 unfold World.cell? at d;by_cases I:p.block<w.heap.size
 . exact I
 . rw [Array.getElem?_eq_none (by omega)] at d;simp at d):=h
theorem BL.cell(d:w.cell? p=some v)(X:BL w):X.W.cell? p=some v:=by
 have I:p.block<w.heap.size:=by
  exact Ydr
 exact(X.h.cell I).trans d
theorem BL.frozen(d:p.block<w.heap.size)(X:BL w):X.W.frozen? p=w.frozen? p:=X.h.frozen d
theorem BL.block{k:Nat}(d:k<w.heap.size)(X:BL w):X.W.heap[k]? =w.heap[k]? :=X.h.block k d
theorem Ea(f:Nat):Fence.wide.fn f=True:=rfl
theorem Ac(w:World):Below w.heap.size w { w with drawn:=w.drawn+1 }:=⟨rfl,rfl,rfl,Nat.le_refl _,λ_ _=>rfl⟩
theorem Ja{P:Program}{f:FuncId}{X:BL w}(h:Calls P f args X.W λe w' =>e= .returned v/\Below X.W.heap.size X.W w'):
 Calls P f args X.W λe w' =>e= .returned v/\ ∃Y:BL w,w' =Y.W:=
 h.mono λ_ w' ⟨he,d⟩=>⟨he,⟨w',X.h.trans (d.mono X.h.size)⟩,rfl⟩
theorem Fa{F:Fence}{n:Nat}{P:Program}{f:FuncId}{X:BL w}(h:CallsIn F n P f args X.W λe w' =>e= .returned v/\Below X.W.heap.size X.W w'):
 CallsIn F n P f args X.W λe w' =>e= .returned v/\ ∃Y:BL w,w' =Y.W:=
 h.mono λ_ w' ⟨he,d⟩=>⟨he,⟨w',X.h.trans (d.mono X.h.size)⟩,rfl⟩
theorem Ei{P:Program}{a:Act}{l:List Oper}(hm:P.follows .mixedOrders=true)(d:Region.lexB .any l.toArray=true)
 (h:wpQuiet P l.toArray (λw' => ∃X:BL w,w' =X.W) (λa' => ∀w',(∃X:BL w,w' =X.W)->Q .normal a' w') l a):(Code.region id l.toArray true).wp P Q a w:=
 wp_region_quiet (C:=λw' => ∃X:BL w,w' =X.W) hm d ⟨⟨_,Ac w⟩,rfl⟩ (by simpa using h)
theorem CW{P:Program}{a:Act}{l:List Oper}(n:Nat)(hm:P.follows .mixedOrders=true)(d:Region.lexTailB .any l.toArray n=true)
 (h:wpQuiet P l.toArray (λw' => ∃X:BL w,w' =X.W) (λa' => ∀w',(∃X:BL w,w' =X.W)->wpList P l.toArray Q (l.drop n) a' w') (l.take n) a):(Code.region id l.toArray true).wp P Q a w:=
 D9 (λw' => ∃X:BL w,w' =X.W) n hm d ⟨⟨_,Ac w⟩,rfl⟩ h
section
variable {F:Fence} {n:Nat} {P:Program} {ops:Array Oper} {md:Region.Mode} {C:World->Prop}
def Ed(ops:Array Oper):Bool:=ops.all λo=>match o.op with| .defer _=>false|_=>true
theorem Hb{o:Oper}(h:Ed ops=true)(hi:ops[i]? =some o): ∀c,o.op≠ .defer c:=by
 intro c d;unfold Ed at h;rw [Array.all_eq_true] at h;obtain⟨I,rfl⟩:=Array.getElem?_eq_some_iff.1 hi;have:=h i I;rw [d] at this
 cases this
theorem Tj(F:Fence)(ρ:Operand->Value)(o:Oper)(h: ∀c,o.op≠ .defer c):o.semAt F.round ρ=execOp ρ o:=by
 cases F.round with
 |none=>rfl
 |some l=>exact Oper.semAt_some l _ _ h
theorem MC{o:Oper}{a:Act}{K:Act->Prop}(U: ∀c,o.op≠ .defer c)(hw:C w)(h: ∀a w',C w' ->K a->K' a w')
 (ha:o.askedIn F P a C) (hh:o.quietIn F n P a C K):o.wpIn F n P a w K' Q' :=by
 obtain⟨v,h1,J⟩:=hh;have d:=h1 w hw;unfold Oper.quietAtIn at d;unfold Oper.wpIn;refine⟨ha w hw, ?_⟩;rw [Tj _ _ _ U];generalize (execOp a.eval o).run P w=r at*
 cases r with
 |ok x w' =>
  cases x<;>simp only [Oper.quietUponIn] at d<;>simp only [Oper.uponIn]
  case value u=>
   obtain⟨I,O⟩:=d;rw [I,O];exact h _ _ hw J
  case skip=>
   obtain⟨I,O⟩:=d;rw [I,<-O];exact h _ _ hw J
  case enter f args=>
   obtain⟨I,hd,V⟩:=d;rw [I];exact⟨hd,V.mono λe aa ⟨he,Z⟩=>by subst he;exact h _ _ Z J⟩
 |halt x w' =>simp only [Oper.quietUponIn] at d
theorem ME{a:Act}{K:Act->Prop}(I:Ed ops=true)(d:C w)(h: ∀a w',C w' ->K a->K' a w')
 (hh:qOpIn F n P ops C i K a):wpOpIn F n P ops Q' i K' a w:=by
 unfold qOpIn at hh;unfold wpOpIn
 split
 . rename_i ho;simp only [ho] at hh;exact h _ _ d hh
 . rename_i o ho
   simp only [ho] at hh;obtain⟨ha,hh⟩:=hh
   split
   . rename_i hw;simp only [hw,if_true] at hh;exact MC (Hb I ho) d h ha hh
   . rename_i hw;simp only [hw] at hh;exact⟨ha w d,h _ _ d hh⟩
theorem Gs{Q:Act->Prop}{Q' :Exit->Act->World->Prop}(I:Ed ops=true)(d: ∀a w,C w->Q a->Q' .normal a w): ∀(fuel:Nat) (listed:Array Bool) (a:Act) (w:World),C w->
 wpAnyQIn F n P md ops C Q fuel listed a->wpAnyIn F n P md ops Q' fuel listed a w
 |0,_,_,_,hw,h=>⟨h.1,d _ _ hw h.2⟩
 |fuel+1,_,_,_,hw,h=>⟨λh0=>d _ _ hw (h.1 h0),λi hi=>ME I hw (λa' w' J =>Gs I d fuel _ a' w' J) (h.2 i hi)⟩
theorem EL{a:Act}{l:List Oper}(I:Ed l.toArray=true)(hm:P.follows .mixedOrders=true)(d:Region.lexB .any l.toArray=true)
 (h:wpQuietIn F n P l.toArray (λw' => ∃X:BL w,w' =X.W) (λa' => ∀w',(∃X:BL w,w' =X.W)->Q .normal a' w') l a):(Code.region id l.toArray true).wpIn F n P Q a w:=by
 simp only [Region.lexB,Bool.and_eq_true] at d;refine wpIn_region_any hm (Gs (Q:=λa' => ∀w',(∃X:BL w,w' =X.W)->Q .normal a' w') (C:=λw' => ∃X:BL w,w' =X.W) I (λ_ w' J h=>h w' J) _ _ _ _ ⟨⟨_,Ac w⟩,rfl⟩ ?_);have:=wpAnyQIn_lex (F:=F) (n:=n) (P:=P) (C:=λw' => ∃X:BL w,w' =X.W) (Q:=λa' => ∀w',(∃X:BL w,w' =X.W)->Q .normal a' w') (md:= .any) (ops:=l.toArray) d.1 l 0 (Array.replicate l.toArray.size false) a (by simp) (by simpa using d.2) h
 simpa using this
end
section
variable {F:Fence} {n':Nat} {P:Program} {ops:Array Oper} {md:Region.Mode} {C:World->Prop}
end
