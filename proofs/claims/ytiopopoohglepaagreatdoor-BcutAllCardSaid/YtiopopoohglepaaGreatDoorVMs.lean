/- A part. -/
import Derived.Test.YtiopopoohglepaaGreatDoorVMr
import Derived.Deep.AppendLies
import Derived.Laws.OwnMore
set_option linter.all false
namespace Go.Proofs.YtiopopoohglepaaGreatDoor
open Go.RowKit Go.Shelf
variable {F:Nat->Prop}{b n x z:Nat}{e:TypeId}{v v':Value}{w w1:World}{xs:List Value}
theorem Ae{base:Nat}(h:w.ownsRow base e z v n xs): ∃A c,v= .slice A n c:=by
 exact Yev
def Fi(v u:Value):Prop:= ∀b,v.ownBlock=some b->u.ownBlock≠some b
theorem Fi.symm{u:Value}(h:Fi v u):Fi u v:=λb d I=>h b I d
structure AQ(W:World)(B:Nat)(v1:Value)(l1:List Nat)(v2:Value)(l2:List Nat)(v3:Value)(l3:List Nat):Prop where
 r1:W.ownsRow B 23 1 v1 l1.length (AG l1)
 r2:W.ownsRow B 23 1 v2 l2.length (AG l2)
 r3:W.ownsRow B 23 1 v3 l3.length (AG l3)
 a12:Fi v1 v2
 Oq:Fi v1 v3
 a23:Fi v2 v3
section
variable {W W':World} {B:Nat} {v1 v2 v3:Value} {l1 l2 l3:List Nat}
theorem AQ.Eg(h:AQ W B v1 l1 v2 l2 v3 l3):AQ W B v2 l2 v1 l1 v3 l3:=⟨h.r2,h.r1,h.r3,h.a12.symm,h.a23,h.Oq⟩
theorem AQ.Fj(h:AQ W B v1 l1 v2 l2 v3 l3):AQ W B v3 l3 v2 l2 v1 l1:=⟨h.r3,h.r2,h.r1,h.a23.symm,h.Oq.symm,h.a12.symm⟩
theorem AQ.nil(W:World)(B:Nat):AQ W B (.slice none 0 0) [] (.slice none 0 0) [] (.slice none 0 0) []:=
 ⟨World.ownsRow_nil _ _ _ _,World.ownsRow_nil _ _ _ _,World.ownsRow_nil _ _ _ _,λb d=>by simp [Value.ownBlock] at d,λb d=>by simp [Value.ownBlock] at d,λb d=>by simp [Value.ownBlock] at d⟩
theorem CK(h:W.ownsRow B e z v n xs)(d: ∀b,v.ownBlock=some b->W'.heap[b]? =W.heap[b]?):W'.ownsRow B e z v n xs:=by
 refine⟨h.1, ?_⟩;rcases h.2 with h1|⟨g,cap,cur,h1,I,J,O⟩
 . exact .inl h1
 . exact .inr ⟨g,cap,cur,h1,I,(d g (by rw [h1];simp [Value.ownBlock])).trans J,O⟩
theorem BM(h:W.ownsRow B e z v n xs)(d:v.ownBlock=some b):B<=b/\b<W.heap.size:=by
 rcases h.2 with ⟨h1,_⟩|⟨g,cap,cur,h1,I,J,O⟩
 . rw [h1] at d;simp [Value.ownBlock] at d
 . rw [h1] at d
   have:g=b:=(by simpa [Value.ownBlock] using d);subst this;exact⟨I,(Array.getElem?_eq_some_iff.1 J).1⟩
theorem AQ.keep(h:AQ W B v1 l1 v2 l2 v3 l3)(I: ∀b,B<=b->b<W.heap.size->W'.heap[b]? =W.heap[b]?):AQ W' B v1 l1 v2 l2 v3 l3:=
 ⟨CK h.r1 (λb d=>I b (BM h.r1 d).1 (BM h.r1 d).2),CK h.r2 (λb d=>I b (BM h.r2 d).1 (BM h.r2 d).2),CK h.r3 (λb d=>I b (BM h.r3 d).1 (BM h.r3 d).2),h.a12,h.Oq,h.a23⟩
theorem AQ.below(h:AQ W B v1 l1 v2 l2 v3 l3)(d:Below W.heap.size W W'):AQ W' B v1 l1 v2 l2 v3 l3:=h.keep λb _ I=>d.block b I
theorem AQ.set(h:AQ W B v1 l1 v2 l2 v3 l3){j:Nat}(d:b<B)(v:Value):AQ (W.setCell ⟨b,j,none⟩ v) B v1 l1 v2 l2 v3 l3:=h.keep λk I _=>Below.heap_setCell W ⟨b,j,none⟩ v k (by simp only;omega)
def Yef{P}(h:P:=by
 obtain⟨k2,a2⟩:=d v2 l2 h.r2 h.a12;obtain⟨J,a3⟩:=d v3 l3 h.r3 h.Oq;exact⟨I,k2,J,a2,a3,h.a23⟩):=h
theorem AQ.Yl{tmp:Obj}(h:AQ W B v1 l1 v2 l2 v3 l3)(I:w1.ownsRow B 23 1 v' (l1++ [x]).length (AG (l1++ [x])))(hg:(W.alloc tmp).grownBy w1 v1.ownBlock)(U:v'.ownBlock=v1.ownBlock\/v'.ownBlock=some (W.alloc tmp).heap.size):
 AQ w1 B v' (l1++ [x]) v2 l2 v3 l3:=by
 have d: ∀(u:Value) (l:List Nat),W.ownsRow B 23 1 u l.length (AG l)->Fi v1 u->w1.ownsRow B 23 1 u l.length (AG l)/\Fi v' u:=λu l hu ha=>by
  refine⟨CK hu λb J=> ?_,λb J he=> ?_⟩
  . have O:=(BM hu J).2
    exact(hg.block b (by simp;omega) (λe=>ha b e.symm J)).trans (Below.heap_alloc W tmp b O)
  . rcases U with h1|h1
    . rw [h1] at J;exact ha b J he
    . rw [h1] at J
      have O:=(BM hu he).2;have:(W.alloc tmp).heap.size=b:=(by simpa using J);simp at this;omega
 exact Yef
theorem AQ.Adq{tmp:Obj}(h:AQ W B v1 l1 v2 l2 v3 l3)(d:w1.ownsRow B 23 1 v' (l2++ [x]).length (AG (l2++ [x])))(hg:(W.alloc tmp).grownBy w1 v2.ownBlock)(I:v'.ownBlock=v2.ownBlock\/v'.ownBlock=some (W.alloc tmp).heap.size):
 AQ w1 B v1 l1 v' (l2++ [x]) v3 l3:=(h.Eg.Yl d hg I).Eg
theorem AQ.Acb{tmp:Obj}(h:AQ W B v1 l1 v2 l2 v3 l3)(d:w1.ownsRow B 23 1 v' (l3++ [x]).length (AG (l3++ [x])))(hg:(W.alloc tmp).grownBy w1 v3.ownBlock)(I:v'.ownBlock=v3.ownBlock\/v'.ownBlock=some (W.alloc tmp).heap.size):
 AQ w1 B v1 l1 v2 l2 v' (l3++ [x]):=(h.Fj.Yl d hg I).Fj
theorem HY{tmp:Obj}(d:W.ownsRow B 23 1 v n xs)(hg:(W.alloc tmp).grownBy w1 v.ownBlock)(J:b<B)(I:b<W.heap.size):w1.heap[b]? =W.heap[b]? :=
 (hg.block b (by simp;omega) (λe=>by have:=(BM d e.symm).1;omega)).trans (Below.heap_alloc W tmp b I)
theorem HM{tmp:Obj}{m:Nat}(h:Below m w W)(hm:m<=B)(d:m<=W.heap.size)(I:W.ownsRow B 23 1 v n xs)(hg:(W.alloc tmp).grownBy w1 v.ownBlock):Below m w w1:=
 (h.alloc d tmp).trans ⟨hg.os,hg.tape,hg.output,hg.size,λk J=>hg.block k (by simp;omega) (λe=>by have:=(BM I e.symm).1;omega)⟩
theorem A5{l:List Nat}(h:W.ownsRow B 23 1 v l.length (AG l))(J: ∀b,F b->b<B): ∃A c,v= .slice A l.length c/\AJ W F A (AG l):=by
 rcases h.2 with ⟨h1,d⟩|⟨g,cap,cur,h1,d,O,Z⟩
 . have:l= []:=List.eq_nil_of_length_eq_zero d
   subst this;exact⟨none,0,h1, .inl rfl⟩
 . refine⟨_,_,h1, ?_⟩
   by_cases U:l= []
   . subst U;exact .inl rfl
   . refine .inr ⟨g,0,rfl,(Array.getElem?_eq_some_iff.1 O).1,λV=>by have:=J g V;omega,λj u hu=> ?_⟩
     have I:=h.cells (g:=g) (by rw [h1];simp [Value.ownBlock]) j u hu;rw [show(⟨g,0,none⟩:Addr).add j=⟨g,j,none⟩ by unfold Addr.add;split<;>simp_all] at I
     rw [Nat.zero_add];exact I
theorem AQ.Mz(h:AQ W B v1 l1 v2 l2 v3 l3)(d: ∀b,F b->b<B)(sz:Nat)(h1:l1.length<=4398046511104)(I:l2.length<=4398046511104)(J:l3.length<=4398046511104):CX W F (.agg #[v1,v2,v3, .int .u64 sz]) ⟨l1,l2,l3,sz⟩:=by
 obtain⟨O,c1,rfl,k1⟩:=A5 h.r1 d;obtain⟨U,c2,rfl,k2⟩:=A5 h.r2 d;obtain⟨V,c3,rfl,Z⟩:=A5 h.r3 d;exact⟨⟨O,c1,U,c2,V,c3,rfl,k1,k2,Z⟩,h1,I,J⟩
end
end Go.Proofs.YtiopopoohglepaaGreatDoor
namespace Go.Proofs.YtiopopoohglepaaGreatDoor
open Go Go.RowKit
variable {K:Act->World->Prop}{i:Nat}{v:Value}{w:World}
section
variable {F:Fence} {n:Nat} {P:Program} {ops:Array Oper} {md:Region.Mode} {Q:Exit->Act->World->Prop} {C:World->Prop}
def Dq(P:Program)(ops:Array Oper)(C:World->Prop)(o:Oper)(v:Value)(a:Act):Prop:=
 Region.wanted o (yielded ops a.tmps)=true/\(∀w,C w->(execOp a.eval o).run P w= .ok (.value v) w)/\ ∀w,o.about P w a.eval=none
theorem Dq.of_same{o:Oper}{a a' :Act}(d:Dq P ops C o v a)(he:execOp a'.eval o=execOp a.eval o)
 (hw:Region.wanted o (yielded ops a'.tmps)=Region.wanted o (yielded ops a.tmps)) (I: ∀w,o.about P w a'.eval=o.about P w a.eval):Dq P ops C o v a' :=
 ⟨hw.trans d.1,λw J=>by rw [he];exact d.2.1 w J,λw=>by rw [I w];exact d.2.2 w⟩
theorem Dq.op{o:Oper}{a:Act}(J:Ed ops=true)(hi:ops[i]? =some o)(d:Dq P ops C o v a)(O:C w)(h:K (a.put o.dst v) w):wpOpIn F n P ops Q i K a w:=by
 unfold wpOpIn;simp only [hi];rw [if_pos d.1];refine⟨(λf I=>by rw [d.2.2 w] at I;cases I), ?_⟩;rw [Oper.semAt_plain F _ _ (Hb J hi),d.2.1 w O];exact h
theorem P4{j:Nat}{V Z:Oper}(af:Ed ops=true)(ab:ops[j]? =some Z)(ag:V.apart ops Z=true)
 (ah: ∀cs b,V.op≠ .select cs b) (ai: ∀cs b,Z.op≠ .select cs b) (O: ∀c a w,Q (.panic c) (a.put V.dst v) w->Q (.panic c) a w) {a:Act} (I:Dq P ops C V v a) (h:wpOpIn F n P ops Q j K (a.put V.dst v) w):
 wpOpIn F n P ops Q j (λa' w' =>Dq P ops C V v a' /\K (a'.put V.dst v) w') a w:=by
 obtain⟨h1,J,aa⟩:=Oper.apart_spec ag
 have keep: ∀(a:Act),Dq P ops C V v a-> ∀u,Dq P ops C V v (a.put Z.dst u):=λa I u=>
  I.of_same (execOp_put V ah a Z.dst u aa) (wanted_put V a Z.dst u aa) (λw=>about_put V w a Z.dst u aa)
 have U: ∀d,Dq P ops C V v { a with defers:=d::a.defers }:=λd=>I.of_same rfl rfl (λ_=>rfl)
 have ac: ∀ρ,Z.semAt F.round ρ=execOp ρ Z:=λρ=>Oper.semAt_plain F _ _ (Hb af ab)
 unfold wpOpIn at*;simp only [ab] at*;rw [wanted_put Z a V.dst v h1,about_put Z w a V.dst v h1] at h
 split
 . rename_i hw
   simp only [hw,if_true] at h;unfold Oper.wpIn at*;rw [about_put Z w a V.dst v h1] at h;refine⟨h.1, ?_⟩;have h:=h.2;rw [ac,execOp_put Z ai a V.dst v h1] at h;rw [ac];generalize (execOp a.eval Z).run P w=r at*
   cases r with
   |ok x w' =>
    cases x<;>simp only [Oper.uponIn] at h ⊢
    case value u=>exact⟨keep a I u,by rw [<-Act.put_comm a v u J];exact h⟩
    case skip=>exact⟨keep a I _,by rw [<-Act.put_comm a v undef J];exact h⟩
    case defer d=>
     exact Yfe
    case enter f args=>
     refine⟨h.1,CallsIn.mono h.2 λe ae he=> ?_⟩;exact Ybt
    case row row args=>exact⟨h.1,RowsIn.mono h.2 λu ae he=>⟨keep a I u,by rw [<-Act.put_comm a v u J];exact he⟩⟩
    case round l f tmps assign body=>
     refine⟨h.1,RoundIn.mono h.2 λe ae he=> ?_⟩;exact Ybt
   |halt x w' =>
    cases x<;>simp only [Oper.uponIn] at h ⊢
    case panic u=>exact O _ _ _ h
 . rename_i hw
   simp only [hw] at h;exact⟨h.1,keep a I _,by rw [<-Act.put_comm a v undef J];exact h.2⟩
def Fo(F:Fence)(n:Nat)(P:Program)(md:Region.Mode)(ops:Array Oper)(Q:Exit->Act->World->Prop)(C:World->Prop)(m:Nat):Nat->Array Bool->Act->World->Prop
 |0,listed,a,w=>Region.ready md ops listed= []/\Q .normal a w
 |f+1,listed,a,w=>
  (Region.ready md ops listed= []->Q .normal a w)/\
  ∀i∈Region.ready md ops listed,wpOpIn F n P ops Q i (λa' w' =>(i<m->C w')/\Fo F n P md ops Q C m f (listed.setIfInBounds i true) a' w') a w
variable {m:Nat}
theorem Fo.any: ∀(f:Nat) (listed:Array Bool) (a:Act) (w:World),Fo F n P md ops Q C m f listed a w->wpAnyIn F n P md ops Q f listed a w
 |0,_,_,_,h=>h
 |f+1,listed,a,w,h=>⟨h.1,λi hi=>wpOpIn_mono (λa' w' d =>Fo.any f _ a' w' d.2) (h.2 i hi)⟩
theorem Ow{I:Oper}(ah:Ed ops=true)(hi:ops[i]? =some I)(aj: ∀(j:Nat) (o:Oper) cs b,ops[j]? =some o->o.op≠ .select cs b)
 (hs:Region.sinkB md ops m=true) (an:Region.chainB md ops m=true) (hm:m<ops.size) (ao:i<m) (aq: ∀c a w,Q (.panic c) (a.put I.dst v) w->Q (.panic c) a w):
 ∀(f:Nat) (listed:Array Bool) (a:Act) (w:World),HeadInv md ops m listed->
  (∀j d,ops[j]? =some d->j≠i->listed.getD j true=false->(∀e∈d.after,Region.binds md e=true->e.on≠i)->I.apart ops d=true)->
  i∈Region.ready md ops listed->Dq P ops C I v a->C w->
  Fo F n P md ops Q C m f (listed.setIfInBounds i true) (a.put I.dst v) w->Fo F n P md ops Q C m (f+1) listed a w:=by
 intro f
 induction f with
 |zero=>
  intro listed a w inv _ ae ag af H;refine⟨λh=>(by rw [h] at ae;cases ae),λj O=> ?_⟩;by_cases J:j=i
  . subst J;exact ag.op ah hi af ⟨λ_=>af,H⟩
  . exact Y9
 |succ f ih=>
  intro listed a w inv aa ae ag af H;have U:=(mem_ready.1 ae).1;refine⟨λh=>(by rw [h] at ae;cases ae),λj O=> ?_⟩;have al:j<m:=by
   rcases Nat.lt_or_ge j m with h|h
   . exact h
   . exact absurd O (tail_waits hs an hm inv _ i rfl ao U j h)
  by_cases J:j=i
  . subst J;exact ag.op ah hi af ⟨λ_=>af,H⟩
  . have h1:=H.2 j (ready_mono O J)
    obtain⟨Z,d,ai,ab⟩:=mem_ready.1 O;have ar:=Xd;have au:=P4 ah ai (aa j d ai J Z ar) (λcs b=>aj i I cs b hi) (λcs b=>aj j d cs b ai) aq ag h1;have aw:=Yj;refine wpOpIn_mono (λa' w' V=> ?_) au;have am :=V.2.1 al;refine⟨λ_=>am,ih (listed.setIfInBounds j true) a' w' (inv.set O al) aw (ready_mono ae (Ne.symm J)) V.1 am ?_⟩;exact Y6
def Qn(K:Act->World->Prop)(Q:Exit->Act->World->Prop):Exit->Act->World->Prop
 | .normal,a,w=>K a w
 |e,a,w=>Q e a w
theorem T3{o:Oper}{a:Act}{Q' :Exit->Act->World->Prop}(d: ∀c a w,Q' (.panic c) a w->Q (.panic c) a w)(I:LetsOut Q' ->LetsOut Q)(hh:o.wpIn F n P a w K Q'):o.wpIn F n P a w K Q:=by
 unfold Oper.wpIn at*;refine⟨hh.1, ?_⟩;have hh:=hh.2;generalize (o.semAt F.round a.eval).run P w=r at*
 cases r with
 |ok x w' =>
  cases x<;>simp only [Oper.uponIn] at hh ⊢ <;>
   first
    |exact hh
    |exact⟨hh.1,CallsIn.mono hh.2 (λe J he=>by cases e<;>first|exact he|exact d _ _ _ he|exact I he)⟩
    |exact⟨hh.1,RoundIn.mono hh.2 (λe J he=>by cases e<;>first|exact he|exact d _ _ _ he|exact I he)⟩
 |halt x w' =>cases x<;>simp only [Oper.uponIn] at hh ⊢ <;>first|exact d _ _ _ hh|exact hh
theorem QP{o:Oper}{a:Act}(hi:ops[i]? =some o)(h:wpListIn F n P ops (Qn K Q) [o] a w):wpOpIn F n P ops Q i K a w:=by
 unfold wpOpIn;simp only [hi];unfold wpListIn at h
 split
 . rename_i hw
   rw [if_pos hw] at h;exact T3 (λ_ _ _ h=>h) (λh=>h) h
 . rename_i hw
   rw [if_neg hw] at h;exact h
def Hm(P:Program)(ops:Array Oper)(C:World->Prop)(L:Act->Prop):List Oper->Act->Prop
 | [],a=>L a
 |o::l,a=> ∃v,Dq P ops C o v a/\Hm P ops C L l (a.put o.dst v)
def Ey(F:Fence)(n:Nat)(P:Program)(ops:Array Oper)(Q:Exit->Act->World->Prop)(C:World->Prop):Nat->List Oper->Act->World->Prop
 |0,l,a,w=>wpListIn F n P ops Q l a w
 |_+1,[],a,w=>Q .normal a w
 |c+1,o::l,a,w=>wpListIn F n P ops (Qn (λa' w' =>C w' /\Ey F n P ops Q C c l a' w') Q) [o] a w
theorem Cv{c:Nat}{o:Oper}{l:List Oper}{a:Act}(h: ∀K:Act->World->Prop,(∀a' w',C w' ->Ey F n P ops Q C c l a' w' ->K a' w')->wpListIn F n P ops (Qn K Q) [o] a w):Ey F n P ops Q C (c+1) (o::l) a w:=
 h _ (λ_ _ h1 d=>⟨h1,d⟩)
theorem AS{L:Act->Prop}{o:Oper}{l:List Oper}{a:Act}(v:Value)(h1:Region.wanted o (yielded ops a.tmps)=true)(d: ∀w,C w->(execOp a.eval o).run P w= .ok (.value v) w)(I: ∀w,o.about P w a.eval=none)(h:Hm P ops C L l (a.put o.dst v)):Hm P ops C L (o::l) a:=
 ⟨v,⟨h1,d,I⟩,h⟩
theorem EF{l:List Oper}{a:Act}(h:wpListIn F n P ops Q l a w):Ey F n P ops Q C 0 l a w:=h
theorem FP{L:Act->Prop}{a:Act}(h:L a):Hm P ops C L [] a:=h
theorem E0: ∀(l:List Oper) (c k:Nat) (listed:Array Bool) (a:Act) (w:World),(∀j,l[j]? =ops[k+j]?)->m<=k+c->
 Region.seqB md ops l.length k listed=true->Ey F n P ops Q C c l a w->Fo F n P md ops Q C m l.length listed a w
 | [],c,k,listed,a,w,_,_,hB,h=>⟨by simpa [Region.seqB] using hB,by cases c<;>exact h⟩
 |o::l,c,k,listed,a,w,hl,hm,hB,h=>by
  have h0:ops[k]? =some o:=by simpa using (hl 0).symm
  simp only [List.length_cons,Region.seqB,Bool.and_eq_true,decide_eq_true_eq] at hB;refine⟨λh1=>(by rw [hB.1] at h1;cases h1),λi hi=> ?_⟩;rw [hB.1] at hi;have J:i=k:=by simpa using hi
  subst J;have I : ∀j,l[j]? =ops[i+1+j]? :=λj=>by have:=hl (j+1);simpa [Nat.add_assoc,Nat.add_comm 1 j] using this
  cases c with
  |zero=>
   have hw:wpOpIn F n P ops Q i (wpListIn F n P ops Q l) a w:=(by unfold wpOpIn;simp only [h0];exact h);exact wpOpIn_mono (λa' w' d =>⟨λO=>by omega,E0 l 0 (i+1) _ a' w' I (by omega) hB.2 d⟩) hw
  |succ c=>
   exact wpOpIn_mono (λa' w' d =>⟨λ_=>d.1,E0 l c (i+1) _ a' w' I (by omega) hB.2 d.2⟩) (QP h0 h)
theorem Mg{g:Nat}{w:World}(d:Ed ops=true)(I:Region.noSelect ops=true)(hs:Region.sinkB md ops m=true)(J:Region.chainB md ops m=true)(hm:m<ops.size)(O:C w){L:Array Bool->Act->Prop}
 (U: ∀listed a,L listed a->Fo F n P md ops Q C m g listed a w) {Lq:Act->Prop} {k1:Nat} (V: ∀c a a' w,Q (.panic c) a w->Q (.panic c) a' w) (Z: ∀listed a,Region.seqB md ops g k1 listed=true->Lq a->L listed a):
 ∀(l:List Oper) (k:Nat) (listed:Array Bool) (a:Act),(∀j,j<l.length->l[j]? =ops[k+j]?)->k+l.length=k1->k1<=m->HeadInv md ops m listed->
 Region.lexHead md ops g l.length k listed=true->Hm P ops C Lq l a->Fo F n P md ops Q C m (l.length+g) listed a w
 | [],k,listed,a,_,hk,_,_,hB,h=>by
   have:k=k1:=(by simpa using hk);subst this;rw [List.length_nil,Nat.zero_add];exact U _ _ (Z _ _ (by simpa [Region.lexHead] using hB) h)
 |o::l,k,listed,a,hl,hk,hkm,inv,hB,h=>by
  have h0:ops[k]? =some o:=by simpa using (hl 0 (by simp)).symm
  simp only [List.length_cons,Region.lexHead,Bool.and_eq_true] at hB;obtain⟨⟨ac,ae⟩,af⟩:=hB;have aa:k<m:=by simp only [List.length_cons] at hk;omega
  have ab :k∈Region.ready md ops listed:=by simpa using ac
  obtain⟨v,ag,ah⟩:=h;rw [List.length_cons,show l.length+1+g=(l.length+g)+1 by omega]
  exact Ow d h0 (Region.noSelect_spec I) hs J hm aa (λc a w h=>V c _ _ w h) (l.length+g) listed a w inv (Region.free_spec h0 ae) ab ag O
   (Mg d I hs J hm O U V Z l (k+1) _ _ (λj ai=>by have:=hl (j+1) (by simp;omega);simpa [Nat.add_assoc,Nat.add_comm 1 j] using this) (by simp only [List.length_cons] at hk;omega) hkm (inv.set ab aa) af ah)
theorem Dh{id:Nat}{Q:Exit->Act->World->Prop}{a:Act}{l:List Oper}(C:World->Prop)(k c m:Nat)(hm:P.follows .mixedOrders=true)(V:Ed l.toArray=true)(Z:Region.noSelect l.toArray=true)
 (hs:Region.sinkB .any l.toArray m=true) (aa:Region.chainB .any l.toArray m=true) (ab:m<l.length) (aj:k+c=m) (ac:Region.lexHead .any l.toArray (l.length-k) k 0 (Array.replicate l.toArray.size false)=true)
 (ae:C w.drew) (af: ∀c a a' w,Q (.panic c) a w->Q (.panic c) a' w) (h:Hm P l.toArray C (λa' =>Ey F n P l.toArray Q C c (l.drop k) a' w.drew) (l.take k) a):(Code.region id l.toArray true).wpIn F n P Q a w:=by
 have ag:HeadInv .any l.toArray m (Array.replicate l.toArray.size false):=
  ⟨by simp,λj al _ I=>(by rw [getD_replicate_false] at I;cases I),λt _ ah=>getD_in (by simpa using ah) (getD_replicate_false _ _)⟩
 have d:(l.take k).length=k:=by simp;omega
 refine wpIn_region_any hm (Fo.any (C:=C) (m:=m) _ _ _ _ ?_)
 have key:=Mg (F:=F) (n:=n) (P:=P) (md:= .any) (ops:=l.toArray) (Q:=Q) (C:=C) (m:=m) (g:=l.length-k) (w:=w.drew) V Z hs aa (by simpa using ab) ae
  (L:=λlisted a=>Region.seqB .any l.toArray (l.length-k) k listed=true/\Ey F n P l.toArray Q C c (l.drop k) a w.drew)
  (λlisted a J=>by
   have O:(l.drop k).length=l.length-k:=(by simp);have:=E0 (F:=F) (n:=n) (P:=P) (md:= .any) (ops:=l.toArray) (Q:=Q) (C:=C) (m:=m) (l.drop k) c k listed a w.drew (λj=>by simp [List.getElem?_drop]) (by omega) (by rw [O];exact J.1) J.2
   rwa [O] at this)
  (Lq:=λa' =>Ey F n P l.toArray Q C c (l.drop k) a' w.drew) (k1:=k) af (λlisted a h1 ai=>⟨h1,ai⟩) (l.take k) 0 (Array.replicate l.toArray.size false) a
  (λj U=>by rw [d] at U;simp [U]) (by rw [d];omega) (by omega) ag (by rw [d];exact ac) h
 rw [d,show k+(l.length-k)=l.toArray.size by simp;omega] at key;exact key
end
