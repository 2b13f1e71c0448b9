/-
  The seat's own texts, part b: Calm, CalmIn.
-/
import Derived.Test.YthcmecokejemcaaGreatDoorWMa
import Derived.Sort.BigQuietIn
import Derived.Below
namespace Go.Proofs.YthcmecokejemcaaGreatDoor
open Go Go.RowKit
structure Bel(w:World) where
 W:World
 h:Below w.heap.size w W
instance (w:World):Nonempty (Bel w):=⟨⟨w,Below.refl _ _⟩⟩
theorem Bel.cell{w:World}{p:Addr}{v:Value}(hc:w.cell? p=some v)(X:Bel w):X.W.cell? p=some v:=by
 have hlt:p.block<w.heap.size:=by
  unfold World.cell? at hc
  by_cases hb:p.block<w.heap.size
  · exact hb
  · rw [Array.getElem?_eq_none (by omega)] at hc;simp at hc
 exact(X.h.cell hlt).trans hc
theorem Bel.frozen{w:World}{p:Addr}(hlt:p.block<w.heap.size)(X:Bel w):X.W.frozen? p=w.frozen? p:=X.h.frozen hlt
theorem Bel.block{w:World}{k:Nat}(hlt:k<w.heap.size)(X:Bel w):X.W.heap[k]? =w.heap[k]? :=X.h.block k hlt
theorem wide_fn(f:Nat):Fence.wide.fn f=True:=rfl
theorem below_drawn(w:World):Below w.heap.size w { w with drawn:=w.drawn+1 }:=⟨rfl,rfl,rfl,Nat.le_refl _,fun _ _=>rfl⟩
theorem calls_calm{P:Program}{f:FuncId}{args:Array Value}{w:World}{X:Bel w}{v:Value}(h:Calls P f args X.W fun e w' =>e= .returned v∧Below X.W.heap.size X.W w'):
 Calls P f args X.W fun e w' =>e= .returned v∧ ∃Y:Bel w,w' =Y.W:=
 h.mono fun _ w' ⟨he,hb⟩=>⟨he,⟨w',X.h.trans (hb.mono X.h.size)⟩,rfl⟩
theorem callsIn_calm{F:Fence}{n:Nat}{P:Program}{f:FuncId}{args:Array Value}{w:World}{X:Bel w}{v:Value}(h:CallsIn F n P f args X.W fun e w' =>e= .returned v∧Below X.W.heap.size X.W w'):
 CallsIn F n P f args X.W fun e w' =>e= .returned v∧ ∃Y:Bel w,w' =Y.W:=
 h.mono fun _ w' ⟨he,hb⟩=>⟨he,⟨w',X.h.trans (hb.mono X.h.size)⟩,rfl⟩
theorem wp_region_calm{P:Program}{id:Nat}{Q:Exit→Act→World→Prop}{a:Act}{w:World}{l:List Oper}(hm:P.follows .mixedOrders=true)(hB:Region.lexB .any l.toArray=true)
 (h:wpQuiet P l.toArray (fun w' => ∃X:Bel w,w' =X.W) (fun a' => ∀w',(∃X:Bel w,w' =X.W)→Q .normal a' w') l a):(Code.region id l.toArray true).wp P Q a w:=
 wp_region_quiet (C:=fun w' => ∃X:Bel w,w' =X.W) hm hB ⟨⟨_,below_drawn w⟩,rfl⟩ (by simpa using h)
theorem wp_region_calm_tail{P:Program}{id:Nat}{Q:Exit→Act→World→Prop}{a:Act}{w:World}{l:List Oper}(n:Nat)(hm:P.follows .mixedOrders=true)(hB:Region.lexTailB .any l.toArray n=true)
 (h:wpQuiet P l.toArray (fun w' => ∃X:Bel w,w' =X.W) (fun a' => ∀w',(∃X:Bel w,w' =X.W)→wpList P l.toArray Q (l.drop n) a' w') (l.take n) a):(Code.region id l.toArray true).wp P Q a w:=
 wp_region_quiet_tail_of (fun w' => ∃X:Bel w,w' =X.W) n hm hB ⟨⟨_,below_drawn w⟩,rfl⟩ h
section
variable {F:Fence} {n:Nat} {P:Program} {ops:Array Oper} {md:Region.Mode} {C:World→Prop}
def noDefer(ops:Array Oper):Bool:=ops.all fun o=>match o.op with| .defer _=>false|_=>true
theorem noDefer_spec{i:Nat}{o:Oper}(h:noDefer ops=true)(hi:ops[i]? =some o): ∀c,o.op≠ .defer c:=by
 intro c hc
 unfold noDefer at h
 rw [Array.all_eq_true] at h
 obtain⟨hlt,rfl⟩:=Array.getElem?_eq_some_iff.1 hi
 have:=h i hlt
 rw [hc] at this
 cases this
theorem semAt_any(F:Fence)(ρ:Operand→Value)(o:Oper)(h: ∀c,o.op≠ .defer c):o.semAt F.round ρ=execOp ρ o:=by
 cases F.round with
 |none=>rfl
 |some l=>exact Oper.semAt_some l _ _ h
theorem wpIn_of_quietR{o:Oper}{a:Act}{K:Act→Prop}{K' :Act→World→Prop}{Q' :Exit→Act→World→Prop}{w:World}(hnd: ∀c,o.op≠ .defer c)(hw:C w)(h: ∀a w',C w' →K a→K' a w')
 (ha:o.askedIn F P a C) (hh:o.quietIn F n P a C K):o.wpIn F n P a w K' Q' :=by
 obtain⟨v,h1,h2⟩:=hh
 have h3:=h1 w hw
 unfold Oper.quietAtIn at h3
 unfold Oper.wpIn
 refine⟨ha w hw, ?_⟩
 rw [semAt_any _ _ _ hnd]
 generalize (execOp a.eval o).run P w=r at*
 cases r with
 |ok x w' =>
  cases x<;>simp only [Oper.quietUponIn] at h3<;>simp only [Oper.uponIn]
  case value u=>
   obtain⟨e1,e2⟩:=h3
   rw [e1,e2]
   exact h _ _ hw h2
  case skip=>
   obtain⟨e1,e2⟩:=h3
   rw [e1,←e2]
   exact h _ _ hw h2
  case enter f args=>
   obtain⟨e1,hd,hc⟩:=h3
   rw [e1]
   exact⟨hd,hc.mono fun e w'' ⟨he,hw''⟩=>by subst he;exact h _ _ hw'' h2⟩
 |halt x w' =>simp only [Oper.quietUponIn] at h3
theorem wpOpIn_of_qOpR{i:Nat}{a:Act}{K:Act→Prop}{K' :Act→World→Prop}{Q' :Exit→Act→World→Prop}{w:World}(hnd:noDefer ops=true)(hC:C w)(h: ∀a w',C w' →K a→K' a w')
 (hh:qOpIn F n P ops C i K a):wpOpIn F n P ops Q' i K' a w:=by
 unfold qOpIn at hh
 unfold wpOpIn
 split
 · rename_i ho;simp only [ho] at hh;exact h _ _ hC hh
 · rename_i o ho
   simp only [ho] at hh
   obtain⟨ha,hh⟩:=hh
   split
   · rename_i hw;simp only [hw,if_true] at hh;exact wpIn_of_quietR (noDefer_spec hnd ho) hC h ha hh
   · rename_i hw;simp only [hw] at hh;exact⟨ha w hC,h _ _ hC hh⟩
theorem wpAnyIn_of_quietR{Q:Act→Prop}{Q' :Exit→Act→World→Prop}(hnd:noDefer ops=true)(hQ: ∀a w,C w→Q a→Q' .normal a w): ∀(fuel:Nat) (listed:Array Bool) (a:Act) (w:World),C w→
 wpAnyQIn F n P md ops C Q fuel listed a→wpAnyIn F n P md ops Q' fuel listed a w
 |0,_,_,_,hw,h=>⟨h.1,hQ _ _ hw h.2⟩
 |fuel+1,_,_,_,hw,h=>⟨fun h0=>hQ _ _ hw (h.1 h0),fun i hi=>wpOpIn_of_qOpR hnd hw (fun a' w' hw' =>wpAnyIn_of_quietR hnd hQ fuel _ a' w' hw') (h.2 i hi)⟩
theorem wpIn_region_calm{id:Nat}{Q:Exit→Act→World→Prop}{a:Act}{w:World}{l:List Oper}(hnd:noDefer l.toArray=true)(hm:P.follows .mixedOrders=true)(hB:Region.lexB .any l.toArray=true)
 (h:wpQuietIn F n P l.toArray (fun w' => ∃X:Bel w,w' =X.W) (fun a' => ∀w',(∃X:Bel w,w' =X.W)→Q .normal a' w') l a):(Code.region id l.toArray true).wpIn F n P Q a w:=by
 simp only [Region.lexB,Bool.and_eq_true] at hB
 refine wpIn_region_any hm (wpAnyIn_of_quietR (Q:=fun a' => ∀w',(∃X:Bel w,w' =X.W)→Q .normal a' w') (C:=fun w' => ∃X:Bel w,w' =X.W) hnd (fun _ w' hw' h=>h w' hw') _ _ _ _ ⟨⟨_,below_drawn w⟩,rfl⟩ ?_)
 have:=wpAnyQIn_lex (F:=F) (n:=n) (P:=P) (C:=fun w' => ∃X:Bel w,w' =X.W) (Q:=fun a' => ∀w',(∃X:Bel w,w' =X.W)→Q .normal a' w') (md:= .any) (ops:=l.toArray) hB.1 l 0 (Array.replicate l.toArray.size false) a (by simp) (by simpa using hB.2) h
 simpa using this
end
section
variable {F:Fence} {n' :Nat} {P:Program} {ops:Array Oper} {md:Region.Mode} {C:World→Prop}
end
end Go.Proofs.YthcmecokejemcaaGreatDoor
