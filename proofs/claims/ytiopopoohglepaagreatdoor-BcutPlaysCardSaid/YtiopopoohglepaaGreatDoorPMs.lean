/- A part. -/
import Derived.Test.YtiopopoohglepaaGreatDoorPMr
import Derived.Deep.AppendLies
import Derived.Laws.OwnMore
set_option linter.all false
namespace Go.Proofs.YtiopopoohglepaaGreatDoor
open Go.RowKit Go.Shelf
variable {F:Nat->Prop}{b n x z:Nat}{e:TypeId}{v v':Value}{w w1:World}{xs:List Value}
theorem Ae{base:Nat}(h:w.ownsRow base e z v n xs): ∃A c,v= .slice A n c:=by
 exact Yfa
def Fk(v u:Value):Prop:= ∀b,v.ownBlock=some b->u.ownBlock≠some b
theorem Fk.symm{u:Value}(h:Fk v u):Fk u v:=λb I J=>h b J I
structure AS(W:World)(B:Nat)(v1:Value)(l1:List Nat)(v2:Value)(l2:List Nat)(v3:Value)(l3:List Nat):Prop where
 r1:W.ownsRow B 23 1 v1 l1.length (AF l1)
 r2:W.ownsRow B 23 1 v2 l2.length (AF l2)
 r3:W.ownsRow B 23 1 v3 l3.length (AF l3)
 a12:Fk v1 v2
 Ow:Fk v1 v3
 a23:Fk v2 v3
section
variable {W W':World} {B:Nat} {v1 v2 v3:Value} {l1 l2 l3:List Nat}
theorem AS.Ei(h:AS W B v1 l1 v2 l2 v3 l3):AS W B v2 l2 v1 l1 v3 l3:=⟨h.r2,h.r1,h.r3,h.a12.symm,h.a23,h.Ow⟩
theorem AS.Fl(h:AS W B v1 l1 v2 l2 v3 l3):AS W B v3 l3 v2 l2 v1 l1:=⟨h.r3,h.r2,h.r1,h.a23.symm,h.Ow.symm,h.a12.symm⟩
theorem AS.nil(W:World)(B:Nat):AS W B (.slice none 0 0) [] (.slice none 0 0) [] (.slice none 0 0) []:=
 ⟨World.ownsRow_nil _ _ _ _,World.ownsRow_nil _ _ _ _,World.ownsRow_nil _ _ _ _,λb I=>by simp [Value.ownBlock] at I,λb I=>by simp [Value.ownBlock] at I,λb I=>by simp [Value.ownBlock] at I⟩
theorem CL(h:W.ownsRow B e z v n xs)(I: ∀b,v.ownBlock=some b->W'.heap[b]? =W.heap[b]?):W'.ownsRow B e z v n xs:=by
 refine⟨h.1, ?_⟩;rcases h.2 with h1|⟨g,cap,cur,h1,J,O,U⟩
 . exact .inl h1
 . exact .inr ⟨g,cap,cur,h1,J,(I g (by rw [h1];simp [Value.ownBlock])).trans O,U⟩
theorem BM(h:W.ownsRow B e z v n xs)(I:v.ownBlock=some b):B<=b/\b<W.heap.size:=by
 rcases h.2 with ⟨h1,_⟩|⟨g,cap,cur,h1,J,O,U⟩
 . rw [h1] at I;simp [Value.ownBlock] at I
 . rw [h1] at I
   have:g=b:=(by simpa [Value.ownBlock] using I);subst this;exact⟨J,(Array.getElem?_eq_some_iff.1 O).1⟩
theorem AS.keep(h:AS W B v1 l1 v2 l2 v3 l3)(J: ∀b,B<=b->b<W.heap.size->W'.heap[b]? =W.heap[b]?):AS W' B v1 l1 v2 l2 v3 l3:=
 ⟨CL h.r1 (λb I=>J b (BM h.r1 I).1 (BM h.r1 I).2),CL h.r2 (λb I=>J b (BM h.r2 I).1 (BM h.r2 I).2),CL h.r3 (λb I=>J b (BM h.r3 I).1 (BM h.r3 I).2),h.a12,h.Ow,h.a23⟩
theorem AS.below(h:AS W B v1 l1 v2 l2 v3 l3)(I:Below W.heap.size W W'):AS W' B v1 l1 v2 l2 v3 l3:=h.keep λb _ J=>I.block b J
theorem AS.set(h:AS W B v1 l1 v2 l2 v3 l3){j:Nat}(I:b<B)(v:Value):AS (W.setCell ⟨b,j,none⟩ v) B v1 l1 v2 l2 v3 l3:=h.keep λk J _=>Below.heap_setCell W ⟨b,j,none⟩ v k (by simp only;omega)
def Yek{P}(h:P:=by
 obtain⟨k2,a2⟩:=I v2 l2 h.r2 h.a12;obtain⟨O,a3⟩:=I v3 l3 h.r3 h.Ow;exact⟨J,k2,O,a2,a3,h.a23⟩):=h
theorem AS.YJ{tmp:Obj}(h:AS W B v1 l1 v2 l2 v3 l3)(J:w1.ownsRow B 23 1 v' (l1++ [x]).length (AF (l1++ [x])))(hg:(W.alloc tmp).grownBy w1 v1.ownBlock)(V:v'.ownBlock=v1.ownBlock\/v'.ownBlock=some (W.alloc tmp).heap.size):
 AS w1 B v' (l1++ [x]) v2 l2 v3 l3:=by
 have I: ∀(u:Value) (l:List Nat),W.ownsRow B 23 1 u l.length (AF l)->Fk v1 u->w1.ownsRow B 23 1 u l.length (AF l)/\Fk v' u:=λu l hu ha=>by
  refine⟨CL hu λb O=> ?_,λb O he=> ?_⟩
  . have U:=(BM hu O).2
    exact(hg.block b (by simp;omega) (λe=>ha b e.symm O)).trans (Below.heap_alloc W tmp b U)
  . rcases V with h1|h1
    . rw [h1] at O;exact ha b O he
    . rw [h1] at O
      have U:=(BM hu he).2;have:(W.alloc tmp).heap.size=b:=(by simpa using O);simp at this;omega
 exact Yek
theorem AS.Ad5{tmp:Obj}(h:AS W B v1 l1 v2 l2 v3 l3)(I:w1.ownsRow B 23 1 v' (l2++ [x]).length (AF (l2++ [x])))(hg:(W.alloc tmp).grownBy w1 v2.ownBlock)(J:v'.ownBlock=v2.ownBlock\/v'.ownBlock=some (W.alloc tmp).heap.size):
 AS w1 B v1 l1 v' (l2++ [x]) v3 l3:=(h.Ei.YJ I hg J).Ei
theorem AS.AcK{tmp:Obj}(h:AS W B v1 l1 v2 l2 v3 l3)(I:w1.ownsRow B 23 1 v' (l3++ [x]).length (AF (l3++ [x])))(hg:(W.alloc tmp).grownBy w1 v3.ownBlock)(J:v'.ownBlock=v3.ownBlock\/v'.ownBlock=some (W.alloc tmp).heap.size):
 AS w1 B v1 l1 v2 l2 v' (l3++ [x]):=(h.Fl.YJ I hg J).Fl
theorem HW{tmp:Obj}(I:W.ownsRow B 23 1 v n xs)(hg:(W.alloc tmp).grownBy w1 v.ownBlock)(O:b<B)(J:b<W.heap.size):w1.heap[b]? =W.heap[b]? :=
 (hg.block b (by simp;omega) (λe=>by have:=(BM I e.symm).1;omega)).trans (Below.heap_alloc W tmp b J)
theorem HH{tmp:Obj}{m:Nat}(h:Below m w W)(hm:m<=B)(I:m<=W.heap.size)(J:W.ownsRow B 23 1 v n xs)(hg:(W.alloc tmp).grownBy w1 v.ownBlock):Below m w w1:=
 (h.alloc I tmp).trans ⟨hg.os,hg.tape,hg.output,hg.size,λk O=>hg.block k (by simp;omega) (λe=>by have:=(BM J e.symm).1;omega)⟩
theorem A5{l:List Nat}(h:W.ownsRow B 23 1 v l.length (AF l))(O: ∀b,F b->b<B): ∃A c,v= .slice A l.length c/\AK W F A (AF l):=by
 rcases h.2 with ⟨h1,I⟩|⟨g,cap,cur,h1,I,U,aa⟩
 . have:l= []:=List.eq_nil_of_length_eq_zero I
   subst this;exact⟨none,0,h1, .inl rfl⟩
 . refine⟨_,_,h1, ?_⟩
   by_cases V:l= []
   . subst V;exact .inl rfl
   . refine .inr ⟨g,0,rfl,(Array.getElem?_eq_some_iff.1 U).1,λZ=>by have:=O g Z;omega,λj u hu=> ?_⟩
     have J:=h.cells (g:=g) (by rw [h1];simp [Value.ownBlock]) j u hu;rw [show(⟨g,0,none⟩:Addr).add j=⟨g,j,none⟩ by unfold Addr.add;split<;>simp_all] at J
     rw [Nat.zero_add];exact J
theorem AS.MD(h:AS W B v1 l1 v2 l2 v3 l3)(I: ∀b,F b->b<B)(sz:Nat)(h1:l1.length<=4398046511104)(J:l2.length<=4398046511104)(O:l3.length<=4398046511104):C3 W F (.agg #[v1,v2,v3, .int .u64 sz]) ⟨l1,l2,l3,sz⟩:=by
 obtain⟨U,c1,rfl,k1⟩:=A5 h.r1 I;obtain⟨V,c2,rfl,k2⟩:=A5 h.r2 I;obtain⟨Z,c3,rfl,aa⟩:=A5 h.r3 I;exact⟨⟨U,c1,V,c2,Z,c3,rfl,k1,k2,aa⟩,h1,J,O⟩
end
end Go.Proofs.YtiopopoohglepaaGreatDoor
namespace Go.Proofs.YtiopopoohglepaaGreatDoor
open Go Go.RowKit
variable {K:Act->World->Prop}{i:Nat}{v:Value}{w:World}
section
variable {F:Fence} {n:Nat} {P:Program} {ops:Array Oper} {md:Region.Mode} {Q:Exit->Act->World->Prop} {C:World->Prop}
def Dv(P:Program)(ops:Array Oper)(C:World->Prop)(o:Oper)(v:Value)(a:Act):Prop:=
 Region.wanted o (yielded ops a.tmps)=true/\(∀w,C w->(execOp a.eval o).run P w= .ok (.value v) w)/\ ∀w,o.about P w a.eval=none
theorem Dv.of_same{o:Oper}{a a' :Act}(I:Dv P ops C o v a)(he:execOp a'.eval o=execOp a.eval o)
 (hw:Region.wanted o (yielded ops a'.tmps)=Region.wanted o (yielded ops a.tmps)) (J: ∀w,o.about P w a'.eval=o.about P w a.eval):Dv P ops C o v a' :=
 ⟨hw.trans I.1,λw O=>by rw [he];exact I.2.1 w O,λw=>by rw [J w];exact I.2.2 w⟩
theorem Dv.op{o:Oper}{a:Act}(O:Ef ops=true)(hi:ops[i]? =some o)(I:Dv P ops C o v a)(U:C w)(h:K (a.put o.dst v) w):wpOpIn F n P ops Q i K a w:=by
 unfold wpOpIn;simp only [hi];rw [if_pos I.1];refine⟨(λf J=>by rw [I.2.2 w] at J;cases J), ?_⟩;rw [Oper.semAt_plain F _ _ (G9 O hi),I.2.1 w U];exact h
theorem Qc{j:Nat}{V Z:Oper}(af:Ef ops=true)(ab:ops[j]? =some Z)(ag:V.apart ops Z=true)
 (ah: ∀cs b,V.op≠ .select cs b) (ai: ∀cs b,Z.op≠ .select cs b) (O: ∀c a w,Q (.panic c) (a.put V.dst v) w->Q (.panic c) a w) {a:Act} (I:Dv P ops C V v a) (h:wpOpIn F n P ops Q j K (a.put V.dst v) w):
 wpOpIn F n P ops Q j (λa' w' =>Dv P ops C V v a' /\K (a'.put V.dst v) w') a w:=by
 obtain⟨h1,J,aa⟩:=Oper.apart_spec ag
 have keep: ∀(a:Act),Dv P ops C V v a-> ∀u,Dv P ops C V v (a.put Z.dst u):=λa I u=>
  I.of_same (execOp_put V ah a Z.dst u aa) (wanted_put V a Z.dst u aa) (λw=>about_put V w a Z.dst u aa)
 have U: ∀d,Dv P ops C V v { a with defers:=d::a.defers }:=λd=>I.of_same rfl rfl (λ_=>rfl)
 have ac: ∀ρ,Z.semAt F.round ρ=execOp ρ Z:=λρ=>Oper.semAt_plain F _ _ (G9 af ab)
 unfold wpOpIn at*;simp only [ab] at*;rw [wanted_put Z a V.dst v h1,about_put Z w a V.dst v h1] at h
 split
 . rename_i hw
   simp only [hw,if_true] at h;unfold Oper.wpIn at*;rw [about_put Z w a V.dst v h1] at h;refine⟨h.1, ?_⟩;have h:=h.2;rw [ac,execOp_put Z ai a V.dst v h1] at h;rw [ac];generalize (execOp a.eval Z).run P w=r at*
   cases r with
   |ok x w' =>
    cases x<;>simp only [Oper.uponIn] at h ⊢
    case value u=>exact⟨keep a I u,by rw [<-Act.put_comm a v u J];exact h⟩
    case skip=>exact⟨keep a I _,by rw [<-Act.put_comm a v undef J];exact h⟩
    case defer d=>
     exact Yfj
    case enter f args=>
     refine⟨h.1,CallsIn.mono h.2 λe ae he=> ?_⟩;exact Ybr
    case row row args=>exact⟨h.1,RowsIn.mono h.2 λu ae he=>⟨keep a I u,by rw [<-Act.put_comm a v u J];exact he⟩⟩
    case round l f tmps assign body=>
     refine⟨h.1,RoundIn.mono h.2 λe ae he=> ?_⟩;exact Ybr
   |halt x w' =>
    cases x<;>simp only [Oper.uponIn] at h ⊢
    case panic u=>exact O _ _ _ h
 . rename_i hw
   simp only [hw] at h;exact⟨h.1,keep a I _,by rw [<-Act.put_comm a v undef J];exact h.2⟩
def Fq(F:Fence)(n:Nat)(P:Program)(md:Region.Mode)(ops:Array Oper)(Q:Exit->Act->World->Prop)(C:World->Prop)(m:Nat):Nat->Array Bool->Act->World->Prop
 |0,listed,a,w=>Region.ready md ops listed= []/\Q .normal a w
 |f+1,listed,a,w=>
  (Region.ready md ops listed= []->Q .normal a w)/\
  ∀i∈Region.ready md ops listed,wpOpIn F n P ops Q i (λa' w' =>(i<m->C w')/\Fq F n P md ops Q C m f (listed.setIfInBounds i true) a' w') a w
variable {m:Nat}
theorem Fq.any: ∀(f:Nat) (listed:Array Bool) (a:Act) (w:World),Fq F n P md ops Q C m f listed a w->wpAnyIn F n P md ops Q f listed a w
 |0,_,_,_,h=>h
 |f+1,listed,a,w,h=>⟨h.1,λi hi=>wpOpIn_mono (λa' w' I =>Fq.any f _ a' w' I.2) (h.2 i hi)⟩
theorem OA{J:Oper}(ai:Ef ops=true)(hi:ops[i]? =some J)(al: ∀(j:Nat) (o:Oper) cs b,ops[j]? =some o->o.op≠ .select cs b)
 (hs:Region.sinkB md ops m=true) (ao:Region.chainB md ops m=true) (hm:m<ops.size) (aq:i<m) (ar: ∀c a w,Q (.panic c) (a.put J.dst v) w->Q (.panic c) a w):
 ∀(f:Nat) (listed:Array Bool) (a:Act) (w:World),HeadInv md ops m listed->
  (∀j I,ops[j]? =some I->j≠i->listed.getD j true=false->(∀e∈I.after,Region.binds md e=true->e.on≠i)->J.apart ops I=true)->
  i∈Region.ready md ops listed->Dv P ops C J v a->C w->
  Fq F n P md ops Q C m f (listed.setIfInBounds i true) (a.put J.dst v) w->Fq F n P md ops Q C m (f+1) listed a w:=by
 intro f
 induction f with
 |zero=>
  intro listed a w inv _ ae ah ag H;refine⟨λh=>(by rw [h] at ae;cases ae),λj U=> ?_⟩;by_cases O:j=i
  . subst O;exact ah.op ai hi ag ⟨λ_=>ag,H⟩
  . exact YE
 |succ f ih=>
  intro listed a w inv ab ae ah ag H;have V:=(mem_ready.1 ae).1;refine⟨λh=>(by rw [h] at ae;cases ae),λj U=> ?_⟩;have am:j<m:=by
   rcases Nat.lt_or_ge j m with h|h
   . exact h
   . exact absurd U (tail_waits hs ao hm inv _ i rfl aq V j h)
  by_cases O:j=i
  . subst O;exact ah.op ai hi ag ⟨λ_=>ag,H⟩
  . have h1:=H.2 j (ready_mono U O)
    obtain⟨Z,I,aj,ac⟩:=mem_ready.1 U;have au:=Wa;have aw:=Qc ai aj (ab j I aj O Z au) (λcs b=>al i J cs b hi) (λcs b=>al j I cs b aj) ar ah h1;have ax:=Xi;refine wpOpIn_mono (λa' w' aa=> ?_) aw;have an :=aa.2.1 am;refine⟨λ_=>an,ih (listed.setIfInBounds j true) a' w' (inv.set U am) ax (ready_mono ae (Ne.symm O)) aa.1 an ?_⟩;exact Z6
def Qn(K:Act->World->Prop)(Q:Exit->Act->World->Prop):Exit->Act->World->Prop
 | .normal,a,w=>K a w
 |e,a,w=>Q e a w
theorem Um{o:Oper}{a:Act}{Q' :Exit->Act->World->Prop}(I: ∀c a w,Q' (.panic c) a w->Q (.panic c) a w)(J:LetsOut Q' ->LetsOut Q)(hh:o.wpIn F n P a w K Q'):o.wpIn F n P a w K Q:=by
 unfold Oper.wpIn at*;refine⟨hh.1, ?_⟩;have hh:=hh.2;generalize (o.semAt F.round a.eval).run P w=r at*
 cases r with
 |ok x w' =>
  cases x<;>simp only [Oper.uponIn] at hh ⊢ <;>
   first
    |exact hh
    |exact⟨hh.1,CallsIn.mono hh.2 (λe O he=>by cases e<;>first|exact he|exact I _ _ _ he|exact J he)⟩
    |exact⟨hh.1,RoundIn.mono hh.2 (λe O he=>by cases e<;>first|exact he|exact I _ _ _ he|exact J he)⟩
 |halt x w' =>cases x<;>simp only [Oper.uponIn] at hh ⊢ <;>first|exact I _ _ _ hh|exact hh
theorem QW{o:Oper}{a:Act}(hi:ops[i]? =some o)(h:wpListIn F n P ops (Qn K Q) [o] a w):wpOpIn F n P ops Q i K a w:=by
 unfold wpOpIn;simp only [hi];unfold wpListIn at h
 split
 . rename_i hw
   rw [if_pos hw] at h;exact Um (λ_ _ _ h=>h) (λh=>h) h
 . rename_i hw
   rw [if_neg hw] at h;exact h
def Hj(P:Program)(ops:Array Oper)(C:World->Prop)(L:Act->Prop):List Oper->Act->Prop
 | [],a=>L a
 |o::l,a=> ∃v,Dv P ops C o v a/\Hj P ops C L l (a.put o.dst v)
def Ez(F:Fence)(n:Nat)(P:Program)(ops:Array Oper)(Q:Exit->Act->World->Prop)(C:World->Prop):Nat->List Oper->Act->World->Prop
 |0,l,a,w=>wpListIn F n P ops Q l a w
 |_+1,[],a,w=>Q .normal a w
 |c+1,o::l,a,w=>wpListIn F n P ops (Qn (λa' w' =>C w' /\Ez F n P ops Q C c l a' w') Q) [o] a w
theorem Cw{c:Nat}{o:Oper}{l:List Oper}{a:Act}(h: ∀K:Act->World->Prop,(∀a' w',C w' ->Ez F n P ops Q C c l a' w' ->K a' w')->wpListIn F n P ops (Qn K Q) [o] a w):Ez F n P ops Q C (c+1) (o::l) a w:=
 h _ (λ_ _ h1 I=>⟨h1,I⟩)
theorem AU{L:Act->Prop}{o:Oper}{l:List Oper}{a:Act}(v:Value)(h1:Region.wanted o (yielded ops a.tmps)=true)(I: ∀w,C w->(execOp a.eval o).run P w= .ok (.value v) w)(J: ∀w,o.about P w a.eval=none)(h:Hj P ops C L l (a.put o.dst v)):Hj P ops C L (o::l) a:=
 ⟨v,⟨h1,I,J⟩,h⟩
theorem EH{l:List Oper}{a:Act}(h:wpListIn F n P ops Q l a w):Ez F n P ops Q C 0 l a w:=h
theorem FR{L:Act->Prop}{a:Act}(h:L a):Hj P ops C L [] a:=h
theorem E3: ∀(l:List Oper) (c k:Nat) (listed:Array Bool) (a:Act) (w:World),(∀j,l[j]? =ops[k+j]?)->m<=k+c->
 Region.seqB md ops l.length k listed=true->Ez F n P ops Q C c l a w->Fq F n P md ops Q C m l.length listed a w
 | [],c,k,listed,a,w,_,_,hB,h=>⟨by simpa [Region.seqB] using hB,by cases c<;>exact h⟩
 |o::l,c,k,listed,a,w,hl,hm,hB,h=>by
  have h0:ops[k]? =some o:=by simpa using (hl 0).symm
  simp only [List.length_cons,Region.seqB,Bool.and_eq_true,decide_eq_true_eq] at hB;refine⟨λh1=>(by rw [hB.1] at h1;cases h1),λi hi=> ?_⟩;rw [hB.1] at hi;have O:i=k:=by simpa using hi
  subst O;have J : ∀j,l[j]? =ops[i+1+j]? :=λj=>by have:=hl (j+1);simpa [Nat.add_assoc,Nat.add_comm 1 j] using this
  cases c with
  |zero=>
   have hw:wpOpIn F n P ops Q i (wpListIn F n P ops Q l) a w:=(by unfold wpOpIn;simp only [h0];exact h);exact wpOpIn_mono (λa' w' I =>⟨λU=>by omega,E3 l 0 (i+1) _ a' w' J (by omega) hB.2 I⟩) hw
  |succ c=>
   exact wpOpIn_mono (λa' w' I =>⟨λ_=>I.1,E3 l c (i+1) _ a' w' J (by omega) hB.2 I.2⟩) (QW h0 h)
theorem Ml{g:Nat}{w:World}(I:Ef ops=true)(J:Region.noSelect ops=true)(hs:Region.sinkB md ops m=true)(O:Region.chainB md ops m=true)(hm:m<ops.size)(U:C w){L:Array Bool->Act->Prop}
 (V: ∀listed a,L listed a->Fq F n P md ops Q C m g listed a w) {Lq:Act->Prop} {k1:Nat} (Z: ∀c a a' w,Q (.panic c) a w->Q (.panic c) a' w) (aa: ∀listed a,Region.seqB md ops g k1 listed=true->Lq a->L listed a):
 ∀(l:List Oper) (k:Nat) (listed:Array Bool) (a:Act),(∀j,j<l.length->l[j]? =ops[k+j]?)->k+l.length=k1->k1<=m->HeadInv md ops m listed->
 Region.lexHead md ops g l.length k listed=true->Hj P ops C Lq l a->Fq F n P md ops Q C m (l.length+g) listed a w
 | [],k,listed,a,_,hk,_,_,hB,h=>by
   have:k=k1:=(by simpa using hk);subst this;rw [List.length_nil,Nat.zero_add];exact V _ _ (aa _ _ (by simpa [Region.lexHead] using hB) h)
 |o::l,k,listed,a,hl,hk,hkm,inv,hB,h=>by
  have h0:ops[k]? =some o:=by simpa using (hl 0 (by simp)).symm
  simp only [List.length_cons,Region.lexHead,Bool.and_eq_true] at hB;obtain⟨⟨ae,af⟩,ag⟩:=hB;have ab:k<m:=by simp only [List.length_cons] at hk;omega
  have ac :k∈Region.ready md ops listed:=by simpa using ae
  obtain⟨v,ah,ai⟩:=h;rw [List.length_cons,show l.length+1+g=(l.length+g)+1 by omega]
  exact OA I h0 (Region.noSelect_spec J) hs O hm ab (λc a w h=>Z c _ _ w h) (l.length+g) listed a w inv (Region.free_spec h0 af) ac ah U
   (Ml I J hs O hm U V Z aa l (k+1) _ _ (λj aj=>by have:=hl (j+1) (by simp;omega);simpa [Nat.add_assoc,Nat.add_comm 1 j] using this) (by simp only [List.length_cons] at hk;omega) hkm (inv.set ac ab) ag ai)
theorem Dn{id:Nat}{Q:Exit->Act->World->Prop}{a:Act}{l:List Oper}(C:World->Prop)(k c m:Nat)(hm:P.follows .mixedOrders=true)(Z:Ef l.toArray=true)(aa:Region.noSelect l.toArray=true)
 (hs:Region.sinkB .any l.toArray m=true) (ab:Region.chainB .any l.toArray m=true) (ac:m<l.length) (al:k+c=m) (ae:Region.lexHead .any l.toArray (l.length-k) k 0 (Array.replicate l.toArray.size false)=true)
 (af:C w.drew) (ag: ∀c a a' w,Q (.panic c) a w->Q (.panic c) a' w) (h:Hj P l.toArray C (λa' =>Ez F n P l.toArray Q C c (l.drop k) a' w.drew) (l.take k) a):(Code.region id l.toArray true).wpIn F n P Q a w:=by
 have ah:HeadInv .any l.toArray m (Array.replicate l.toArray.size false):=
  ⟨by simp,λj am _ J=>(by rw [getD_replicate_false] at J;cases J),λt _ ai=>getD_in (by simpa using ai) (getD_replicate_false _ _)⟩
 have I:(l.take k).length=k:=by simp;omega
 refine wpIn_region_any hm (Fq.any (C:=C) (m:=m) _ _ _ _ ?_)
 have key:=Ml (F:=F) (n:=n) (P:=P) (md:= .any) (ops:=l.toArray) (Q:=Q) (C:=C) (m:=m) (g:=l.length-k) (w:=w.drew) Z aa hs ab (by simpa using ac) af
  (L:=λlisted a=>Region.seqB .any l.toArray (l.length-k) k listed=true/\Ez F n P l.toArray Q C c (l.drop k) a w.drew)
  (λlisted a O=>by
   have U:(l.drop k).length=l.length-k:=(by simp);have:=E3 (F:=F) (n:=n) (P:=P) (md:= .any) (ops:=l.toArray) (Q:=Q) (C:=C) (m:=m) (l.drop k) c k listed a w.drew (λj=>by simp [List.getElem?_drop]) (by omega) (by rw [U];exact O.1) O.2
   rwa [U] at this)
  (Lq:=λa' =>Ez F n P l.toArray Q C c (l.drop k) a' w.drew) (k1:=k) ag (λlisted a h1 aj=>⟨h1,aj⟩) (l.take k) 0 (Array.replicate l.toArray.size false) a
  (λj V=>by rw [I] at V;simp [V]) (by rw [I];omega) (by omega) ah (by rw [I];exact ae) h
 rw [I,show k+(l.length-k)=l.toArray.size by simp;omega] at key;exact key
end
