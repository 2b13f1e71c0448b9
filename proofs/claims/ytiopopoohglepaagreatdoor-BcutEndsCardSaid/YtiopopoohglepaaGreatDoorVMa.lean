/- A part. -/
import Derived.StillTail
import Derived.Deep.Quiet
import Derived.BigQuiet
set_option linter.all false
namespace Go.Proofs.YtiopopoohglepaaGreatDoor
open Go
variable {Q:Exit->Act->World->Prop}{id:Nat}{w:World}
section
variable {P:Program} {ops:Array Oper} {md:Region.Mode} {C:World->Prop}
def IW(P:Program)(md:Region.Mode)(ops:Array Oper)(C:World->Prop)(n:Nat)(L:Array Bool->Act->Prop):Nat->Array Bool->Act->Prop
 |0,listed,a=>L listed a
 |f+1,listed,a=>
  Region.ready md ops listed≠ []/\ ∀i∈Region.ready md ops listed,i<n/\qOp P ops C i (IW P md ops C n L f (listed.setIfInBounds i true)) a
theorem Il{n g:Nat}{L:Array Bool->Act->Prop}{Q' :Exit->Act->World->Prop}(d: ∀listed a w,C w->L listed a->wpAny P md ops Q' g listed a w):
 ∀(f:Nat) (listed:Array Bool) (a:Act) (w:World),C w->IW P md ops C n L f listed a->wpAny P md ops Q' (f+g) listed a w
 |0,listed,a,w,hw,h=>by rw [Nat.zero_add];exact d _ _ _ hw h
 |f+1,listed,a,w,hw,h=>by
  rw [show f+1+g=(f+g)+1 by omega];exact⟨λh0=>absurd h0 h.1,λi hi=>wpOp_of_qOp hw (λa' w' I J =>Il d f _ a' w' I J) (h.2 i hi).2⟩
def Yby{P}(h:P:=by
 have h1:=ab e he ac;rw [heq,getD_both U] at h1
 cases h1):=h
def Yej{P}(h:P:=by
 rcases Nat.lt_or_ge j n with h|h
 . exact h
 . exact absurd J (tail_waits hs O ae inv _ i rfl V U j h)):=h
def Yj{P}(h:P:=by
 have J : ∀k ok,ops[k]? =some ok->k≠i->(listed.setIfInBounds j true).getD k true=false->
  (∀e∈ok.after,Region.binds md e=true->e.on≠i)->I.apart ops ok=true:=λk ok O V U ab=>by
  refine aa k ok O V ?_ ab;by_cases d:j=k
  . subst d;exact Z
  . rw [getD_set_ne true d] at U;exact U
 exact J):=h
def Xd{P}(h:P:=by
 have I: ∀e∈d.after,Region.binds md e=true->e.on≠i:=λe he ac heq=>by
  exact Yby
 exact I):=h
theorem N9{n i:Nat}{I:Oper}{v:Value}{L:Array Bool->Act->Prop}(hi:ops[i]? =some I)(al: ∀(j:Nat) (o:Oper) cs b,ops[j]? =some o->o.op≠ .select cs b)
 (hs:Region.sinkB md ops n=true) (O:Region.chainB md ops n=true) (ae:n<ops.size) (V:i<n)
 (an: ∀listed a,L listed a-> ∀j∈Region.ready md ops listed,n<=j):
 ∀(f:Nat) (listed:Array Bool) (a:Act),HeadInv md ops n listed->
  (∀j d,ops[j]? =some d->j≠i->listed.getD j true=false->(∀e∈d.after,Region.binds md e=true->e.on≠i)->I.apart ops d=true)->
  i∈Region.ready md ops listed->YieldsIn P ops C I v a->
  IW P md ops C n L f (listed.setIfInBounds i true) (a.put I.dst v)->IW P md ops C n L (f+1) listed a:=by
 intro f
 induction f with
 |zero=>
  intro listed a inv _ af ah H;have U:=(mem_ready.1 af).1;refine⟨λh=>(by rw [h] at af;cases af),λj J=> ?_⟩;have ai:j<n:=by
   exact Yej
  refine⟨ai, ?_⟩;by_cases ag:j=i
  . subst ag;exact ah.qOp hi H
  . have:=an _ _ H j (ready_mono J ag)
    omega
 |succ f ih=>
  intro listed a inv aa af ah H;have U:=(mem_ready.1 af).1;refine⟨λh=>(by rw [h] at af;cases af),λj J=> ?_⟩;have ai:j<n:=by
   exact Yej
  refine⟨ai, ?_⟩;by_cases ag:j=i
  . subst ag;exact ah.qOp hi H
  . have h1:=(H.2 j (ready_mono J ag)).2
    obtain⟨Z,d,aj,ab⟩:=mem_ready.1 J;have ao:=Xd;have aq:=qOp_put aj (aa j d aj ag Z ao) (λcs b=>al i I cs b hi) (λcs b=>al j d cs b aj) ah h1;have ar:=Yj;refine qOp_mono (λa' am=>ih (listed.setIfInBounds j true) a' (inv.set J ai) ar (ready_mono af (Ne.symm ag)) am.1 ?_) aq;rw [Array.setIfInBounds_comm _ _ ag];exact am.2
theorem Ky{n g:Nat}{Lq:Act->Prop}(d:Region.noSelect ops=true)(hs:Region.sinkB md ops n=true)(I:Region.chainB md ops n=true)(J:n<ops.size):
 ∀(l:List Oper) (k:Nat) (listed:Array Bool) (a:Act),(∀j,j<l.length->l[j]? =ops[k+j]?)->k+l.length=n->HeadInv md ops n listed->
 Region.lexHead md ops g l.length k listed=true->wpQuiet P ops C Lq l a->
 IW P md ops C n (λO a' =>Region.seqB md ops g n O =true/\Lq a') l.length listed a
 | [],k,listed,a,_,hk,_,hB,h=>by
   have:k=n:=(by simpa using hk);subst this;exact⟨by simpa [Region.lexHead] using hB,h⟩
 |o::l,k,listed,a,hl,hk,inv,hB,h=>by
  have h0:ops[k]? =some o:=by simpa using (hl 0 (by simp)).symm
  simp only [List.length_cons,Region.lexHead,Bool.and_eq_true] at hB;obtain⟨⟨Z,aa⟩,ab⟩:=hB;have U:k<n:=by simp only [List.length_cons] at hk;omega
  have V :k∈Region.ready md ops listed:=by simpa using Z
  have ac:qOp P ops C k (wpQuiet P ops C Lq l) a:=by unfold qOp;simp only [h0];exact h
  obtain⟨v,ae,af⟩:=yieldsIn_of_qOp h0 ac
  exact N9 h0 (Region.noSelect_spec d) hs I J U (λO a' ag=>seqB_ready ag.1) l.length listed a inv (Region.free_spec h0 aa) V ae
   (Ky d hs I J l (k+1) _ _ (λj ah=>by have:=hl (j+1) (by simp;omega);simpa [Nat.add_assoc,Nat.add_comm 1 j] using this) (by simp only [List.length_cons] at hk;omega) (inv.set V U) ab af)
theorem D9{a:Act}{l:List Oper}(C:World->Prop)(n:Nat)(hm:P.follows .mixedOrders=true)(J:Region.lexTailB .any l.toArray n=true)
 (ab:C { w with drawn:=w.drawn+1 })
 (h:wpQuiet P l.toArray C (λa' => ∀w',C w' ->wpList P l.toArray Q (l.drop n) a' w') (l.take n) a):(Code.region id l.toArray true).wp P Q a w:=by
 simp only [Region.lexTailB,Bool.and_eq_true,decide_eq_true_eq] at J;obtain⟨⟨⟨⟨ac,O⟩,hs⟩,ae⟩,af⟩:=J;have al :n<l.length:=by simpa using O
 have d:(l.take n).length=n:=by simp;omega
 have U:(l.drop n).length=l.toArray.size-n:=by simp
 have ag:HeadInv .any l.toArray n (Array.replicate l.toArray.size false):=
  ⟨by simp,λj am _ V=>(by rw [getD_replicate_false] at V;cases V),λt _ ah=>getD_in (by simpa using ah) (getD_replicate_false _ _)⟩
 have key:=Ky (P:=P) (C:=C) (g:=l.toArray.size-n) ac hs ae O (l.take n) 0 (Array.replicate l.toArray.size false) a
  (λj Z=>by rw [d] at Z;simp [Z]) (by rw [d];omega) ag (by rw [d];exact af) h
 rw [d] at key;refine wp_region_any hm ?_
 have ai:=Il (P:=P) (md:= .any) (ops:=l.toArray) (C:=C) (n:=n) (g:=l.toArray.size-n) (Q' :=Q)
  (L:=λI a' =>Region.seqB .any l.toArray (l.toArray.size-n) n I =true/\ ∀w',C w' ->wpList P l.toArray Q (l.drop n) a' w')
  (λI a' w' aj aa=>by
   have:=wpAny_of_seq (P:=P) (md:= .any) (ops:=l.toArray) (Q' :=Q) (l.drop n) n I a' w' (λj=>by simp [List.getElem?_drop]) (by rw [U];exact aa.1) (aa.2 w' aj)
   rwa [U] at this) n (Array.replicate l.toArray.size false) a { w with drawn:=w.drawn+1 } ab key
 rwa [show n+(l.toArray.size-n)=l.toArray.size by omega] at ai
theorem Ck{a:Act}{l:List Oper}(n:Nat)(hm:P.follows .mixedOrders=true)(d:Region.lexTailB .any l.toArray n=true)
 (h:wpQuiet P l.toArray (λw' => ∃k,w' =w.drewN k) (λa' => ∀w',(∃k,w' =w.drewN k)->wpList P l.toArray Q (l.drop n) a' w') (l.take n) a):(Code.region id l.toArray true).wp P Q a w:=
 D9 (λw' => ∃k,w' =w.drewN k) n hm d ⟨1,rfl⟩ h
end
