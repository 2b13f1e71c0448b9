/- A part. -/
import Derived.StillTail
import Derived.Deep.Quiet
import Derived.BigQuiet
set_option linter.all false
namespace Go.Proofs.YtiopopoohglepaaGreatDoor
open Go
variable {Q:Exit->Act->World->Prop}{id:Nat}{w:World}
section
variable {P:Program} {ops:Array Oper} {md:Region.Mode} {C:World->Prop}
def IS(P:Program)(md:Region.Mode)(ops:Array Oper)(C:World->Prop)(n:Nat)(L:Array Bool->Act->Prop):Nat->Array Bool->Act->Prop
 |0,listed,a=>L listed a
 |f+1,listed,a=>
  Region.ready md ops listed≠ []/\ ∀i∈Region.ready md ops listed,i<n/\qOp P ops C i (IS P md ops C n L f (listed.setIfInBounds i true)) a
theorem Ii{n g:Nat}{L:Array Bool->Act->Prop}{Q' :Exit->Act->World->Prop}(I: ∀listed a w,C w->L listed a->wpAny P md ops Q' g listed a w):
 ∀(f:Nat) (listed:Array Bool) (a:Act) (w:World),C w->IS P md ops C n L f listed a->wpAny P md ops Q' (f+g) listed a w
 |0,listed,a,w,hw,h=>by rw [Nat.zero_add];exact I _ _ _ hw h
 |f+1,listed,a,w,hw,h=>by
  rw [show f+1+g=(f+g)+1 by omega];exact⟨λh0=>absurd h0 h.1,λi hi=>wpOp_of_qOp hw (λa' w' J O =>Ii I f _ a' w' J O) (h.2 i hi).2⟩
def Ybx{P}(h:P:=by
 have h1:=ac e he af;rw [heq,getD_both V] at h1
 cases h1):=h
def Yen{P}(h:P:=by
 rcases Nat.lt_or_ge j n with h|h
 . exact h
 . exact absurd O (tail_waits hs aa U inv _ i rfl ae V j h)):=h
def Xi{P}(h:P:=by
 have O : ∀k ok,ops[k]? =some ok->k≠i->(listed.setIfInBounds j true).getD k true=false->
  (∀e∈ok.after,Region.binds md e=true->e.on≠i)->J.apart ops ok=true:=λk ok U aa V ac=>by
  refine ab k ok U aa ?_ ac;by_cases I:j=k
  . subst I;exact Z
  . rw [getD_set_ne true I] at V;exact V
 exact O):=h
def Wa{P}(h:P:=by
 have J: ∀e∈I.after,Region.binds md e=true->e.on≠i:=λe he af heq=>by
  exact Ybx
 exact J):=h
theorem Oc{n i:Nat}{J:Oper}{v:Value}{L:Array Bool->Act->Prop}(hi:ops[i]? =some J)(am: ∀(j:Nat) (o:Oper) cs b,ops[j]? =some o->o.op≠ .select cs b)
 (hs:Region.sinkB md ops n=true) (aa:Region.chainB md ops n=true) (U:n<ops.size) (ae:i<n)
 (ao: ∀listed a,L listed a-> ∀j∈Region.ready md ops listed,n<=j):
 ∀(f:Nat) (listed:Array Bool) (a:Act),HeadInv md ops n listed->
  (∀j I,ops[j]? =some I->j≠i->listed.getD j true=false->(∀e∈I.after,Region.binds md e=true->e.on≠i)->J.apart ops I=true)->
  i∈Region.ready md ops listed->YieldsIn P ops C J v a->
  IS P md ops C n L f (listed.setIfInBounds i true) (a.put J.dst v)->IS P md ops C n L (f+1) listed a:=by
 intro f
 induction f with
 |zero=>
  intro listed a inv _ ag ai H;have V:=(mem_ready.1 ag).1;refine⟨λh=>(by rw [h] at ag;cases ag),λj O=> ?_⟩;have aj:j<n:=by
   exact Yen
  refine⟨aj, ?_⟩;by_cases ah:j=i
  . subst ah;exact ai.qOp hi H
  . have:=ao _ _ H j (ready_mono O ah)
    omega
 |succ f ih=>
  intro listed a inv ab ag ai H;have V:=(mem_ready.1 ag).1;refine⟨λh=>(by rw [h] at ag;cases ag),λj O=> ?_⟩;have aj:j<n:=by
   exact Yen
  refine⟨aj, ?_⟩;by_cases ah:j=i
  . subst ah;exact ai.qOp hi H
  . have h1:=(H.2 j (ready_mono O ah)).2
    obtain⟨Z,I,al,ac⟩:=mem_ready.1 O;have aq:=Wa;have ar:=qOp_put al (ab j I al ah Z aq) (λcs b=>am i J cs b hi) (λcs b=>am j I cs b al) ai h1;have au:=Xi;refine qOp_mono (λa' an=>ih (listed.setIfInBounds j true) a' (inv.set O aj) au (ready_mono ag (Ne.symm ah)) an.1 ?_) ar;rw [Array.setIfInBounds_comm _ _ ah];exact an.2
theorem Kz{n g:Nat}{Lq:Act->Prop}(I:Region.noSelect ops=true)(hs:Region.sinkB md ops n=true)(J:Region.chainB md ops n=true)(O:n<ops.size):
 ∀(l:List Oper) (k:Nat) (listed:Array Bool) (a:Act),(∀j,j<l.length->l[j]? =ops[k+j]?)->k+l.length=n->HeadInv md ops n listed->
 Region.lexHead md ops g l.length k listed=true->wpQuiet P ops C Lq l a->
 IS P md ops C n (λU a' =>Region.seqB md ops g n U =true/\Lq a') l.length listed a
 | [],k,listed,a,_,hk,_,hB,h=>by
   have:k=n:=(by simpa using hk);subst this;exact⟨by simpa [Region.lexHead] using hB,h⟩
 |o::l,k,listed,a,hl,hk,inv,hB,h=>by
  have h0:ops[k]? =some o:=by simpa using (hl 0 (by simp)).symm
  simp only [List.length_cons,Region.lexHead,Bool.and_eq_true] at hB;obtain⟨⟨aa,ab⟩,ac⟩:=hB;have V:k<n:=by simp only [List.length_cons] at hk;omega
  have Z :k∈Region.ready md ops listed:=by simpa using aa
  have ae:qOp P ops C k (wpQuiet P ops C Lq l) a:=by unfold qOp;simp only [h0];exact h
  obtain⟨v,af,ag⟩:=yieldsIn_of_qOp h0 ae
  exact Oc h0 (Region.noSelect_spec I) hs J O V (λU a' ah=>seqB_ready ah.1) l.length listed a inv (Region.free_spec h0 ab) Z af
   (Kz I hs J O l (k+1) _ _ (λj ai=>by have:=hl (j+1) (by simp;omega);simpa [Nat.add_assoc,Nat.add_comm 1 j] using this) (by simp only [List.length_cons] at hk;omega) (inv.set Z V) ac ag)
theorem Eb{a:Act}{l:List Oper}(C:World->Prop)(n:Nat)(hm:P.follows .mixedOrders=true)(O:Region.lexTailB .any l.toArray n=true)
 (ac:C { w with drawn:=w.drawn+1 })
 (h:wpQuiet P l.toArray C (λa' => ∀w',C w' ->wpList P l.toArray Q (l.drop n) a' w') (l.take n) a):(Code.region id l.toArray true).wp P Q a w:=by
 simp only [Region.lexTailB,Bool.and_eq_true,decide_eq_true_eq] at O;obtain⟨⟨⟨⟨ae,U⟩,hs⟩,af⟩,ag⟩:=O;have am :n<l.length:=by simpa using U
 have I:(l.take n).length=n:=by simp;omega
 have V:(l.drop n).length=l.toArray.size-n:=by simp
 have ah:HeadInv .any l.toArray n (Array.replicate l.toArray.size false):=
  ⟨by simp,λj an _ Z=>(by rw [getD_replicate_false] at Z;cases Z),λt _ ai=>getD_in (by simpa using ai) (getD_replicate_false _ _)⟩
 have key:=Kz (P:=P) (C:=C) (g:=l.toArray.size-n) ae hs af U (l.take n) 0 (Array.replicate l.toArray.size false) a
  (λj aa=>by rw [I] at aa;simp [aa]) (by rw [I];omega) ah (by rw [I];exact ag) h
 rw [I] at key;refine wp_region_any hm ?_
 have aj:=Ii (P:=P) (md:= .any) (ops:=l.toArray) (C:=C) (n:=n) (g:=l.toArray.size-n) (Q' :=Q)
  (L:=λJ a' =>Region.seqB .any l.toArray (l.toArray.size-n) n J =true/\ ∀w',C w' ->wpList P l.toArray Q (l.drop n) a' w')
  (λJ a' w' al ab=>by
   have:=wpAny_of_seq (P:=P) (md:= .any) (ops:=l.toArray) (Q' :=Q) (l.drop n) n J a' w' (λj=>by simp [List.getElem?_drop]) (by rw [V];exact ab.1) (ab.2 w' al)
   rwa [V] at this) n (Array.replicate l.toArray.size false) a { w with drawn:=w.drawn+1 } ac key
 rwa [show n+(l.toArray.size-n)=l.toArray.size by omega] at aj
theorem Cj{a:Act}{l:List Oper}(n:Nat)(hm:P.follows .mixedOrders=true)(I:Region.lexTailB .any l.toArray n=true)
 (h:wpQuiet P l.toArray (λw' => ∃k,w' =w.drewN k) (λa' => ∀w',(∃k,w' =w.drewN k)->wpList P l.toArray Q (l.drop n) a' w') (l.take n) a):(Code.region id l.toArray true).wp P Q a w:=
 Eb (λw' => ∃k,w' =w.drewN k) n hm I ⟨1,rfl⟩ h
end
