/- A part. -/
import Derived.Test.YtiopopoohglepaaGreatDoorVMw
set_option linter.all false
namespace Go.Proofs.YtiopopoohglepaaGreatDoor
open Go.Proofs.Tryz
open Go Go.RowKit
variable {i id j k:Nat}{v:Value}{w:World}
inductive Tr where
 |nil
 |r (i:Nat) (t:Tr)
 |m (i:Nat) (t:Tr)
 |a (k:Nat) (t:Tr)
 |two (i:Nat) (s:Tr) (j:Nat) (t:Tr)
 |three (i:Nat) (s:Tr) (j:Nat) (t:Tr) (k:Nat) (u:Tr)
section
variable {lt mv:List Nat} {P:Program} {ops:Array Oper} {md:Region.Mode} {Q:Exit->Act->World->Prop} {C:World->Prop}
def M5(md:Region.Mode)(ops:Array Oper):Nat->Nat->Nat->Bool
 |0,_,_=>false
 |f+1,k,i=>match ops[k]? with
  |none=>false
  |some o=>o.after.any λe=>Region.binds md e&&(e.on==i||M5 md ops f e.on i)
def Jx(md:Region.Mode)(ops:Array Oper)(listed:Array Bool):Prop:=
 ∀m o,ops[m]? =some o->listed.getD m false=true-> ∀e∈o.after,Region.binds md e=true->listed.getD e.on false=true
theorem E1{listed:Array Bool}(J:Jx md ops listed): ∀(f k i:Nat),(∀o,ops[k]? =some o-> ∀e∈o.after,Region.binds md e=true->listed.getD e.on false=true)->M5 md ops f k i=true->listed.getD i false=true
 |0,_,_,_,h=>by simp [M5] at h
 |f+1,k,i,hk,h=>by
  unfold M5 at h
  cases I:ops[k]? with
  |none=>rw [I] at h;cases h
  |some o=>
   rw [I] at h;simp only [Array.any_eq_true',Bool.and_eq_true,Bool.or_eq_true,beq_iff_eq] at h;obtain⟨e,h1,U,d⟩:=h;have O:=hk o I e h1 U;rcases d with d|d
   . rw [<-d];exact O
   . exact E1 J f e.on i (λV Z =>J e.on V Z O) d
theorem Jx.list{listed:Array Bool}(U:Jx md ops listed)(V:j∈Region.ready md ops listed):Jx md ops (listed.setIfInBounds j true):=by
 obtain⟨Z,ac,aa,ab⟩:=mem_ready.1 V;have up: ∀x,listed.getD x false=true->(listed.setIfInBounds j true).getD x false=true:=λx hx=>by
  by_cases I:j=x
  . subst I;rw [getD_both Z] at hx;cases hx
  . rw [getD_set_ne false I];exact hx
 intro m o d hm e he J;by_cases O:j=m
 . subst O
   rw [aa] at d
   cases d
   exact up _ (ab e he J)
 . rw [getD_set_ne false O] at hm
   exact up _ (U m o d hm e he J)
def JY(md:Region.Mode)(ops:Array Oper)(lt mv:List Nat):Bool:=lt.all λk=>mv.contains k||((lt.any λj=>decide (j<k)&&(!mv.contains j&&M5 md ops 3 k j))||(List.range ops.size).all λi=>lt.contains i||M5 md ops 7 k i)
theorem Mr{listed:Array Bool}(h:JY md ops lt mv=true)(I:Jx md ops listed){i:Nat}(hi:i<ops.size)(O:i∉lt): ∀n k,k<n->k∈lt->k∉mv->(∀o,ops[k]? =some o-> ∀e∈o.after,Region.binds md e=true->listed.getD e.on false=true)->listed.getD i false=true
 |0,k,hk,_,_,_=>absurd hk (Nat.not_lt_zero _)
 |n+1,k,hk,hm,hmv,hall=>by
  have d:=h;unfold JY at d;have d:=List.all_eq_true.1 d k hm;simp only [Bool.or_eq_true,List.contains_iff_mem] at d;rcases d.resolve_left hmv with d|d
  . obtain⟨j,U,J⟩:=List.any_eq_true.1 d
    simp only [Bool.and_eq_true,decide_eq_true_eq,Bool.not_eq_true'] at J;have V:=E1 I 3 k j hall J.2.2;exact Mr h I hi O n j (by omega) U (λhm=>by have:=J.2.1;rw [List.contains_iff_mem.2 hm] at this;cases this) (λo Z=>I j o Z V)
  . simp only [List.all_eq_true,List.mem_range,Bool.or_eq_true,List.contains_iff_mem] at d
    exact E1 I 7 k i hall ((d i hi).resolve_left O)
def CE(P:Program)(md:Region.Mode)(ops:Array Oper)(Q:Exit->Act->World->Prop)(C:World->Prop)(lt:List Nat):Nat->Array Bool->Act->World->Prop
 |0,listed,a,w=>Region.ready md ops listed= []/\Q .normal a w
 |f+1,listed,a,w=>
  (Region.ready md ops listed= []->Q .normal a w)/\
  ∀i∈Region.ready md ops listed,wpOp P ops Q i (λa' w' =>(i∉lt->C w')/\CE P md ops Q C lt f (listed.setIfInBounds i true) a' w') a w
theorem CE.any: ∀(f:Nat) (listed:Array Bool) (a:Act) (w:World),CE P md ops Q C lt f listed a w->wpAny P md ops Q f listed a w
 |0,_,_,_,h=>h
 |f+1,listed,a,w,h=>⟨h.1,λi hi=>wpOp_mono (λa' w' d =>CE.any f _ a' w' d.2) (h.2 i hi)⟩
theorem VU{listed:Array Bool}{x:Nat}(h:listed.getD x false=true)(j:Nat):(listed.setIfInBounds j true).getD x false=true:=by
 by_cases e:j=x
 . subst e
   have I:j<listed.size:=by
    rcases Nat.lt_or_ge j listed.size with d|d
    . exact d
    . rw [Array.getD,dif_neg (by omega)] at h;cases h
   simp [Array.getD,I]
 . rw [getD_set_ne false e];exact h
theorem D8{I:Oper}(ar:JY md ops lt mv=true)(au:i∉lt)(hi:ops[i]? =some I)(am: ∀(j:Nat) (o:Oper) cs b,ops[j]? =some o->o.op≠ .select cs b)
 (aw: ∀c a w,Q (.panic c) (a.put I.dst v) w->Q (.panic c) a w):
 ∀(f:Nat) (listed:Array Bool) (a:Act) (w:World),
  (∀j d,ops[j]? =some d->j≠i->listed.getD j true=false->(∀e∈d.after,Region.binds md e=true->e.on≠i)->I.apart ops d=true)->
  i∈Region.ready md ops listed->Jx md ops listed->(∀x∈mv,listed.getD x false=true\/M5 md ops 7 x i=true)->BY P ops C I v a->C w->
  CE P md ops Q C lt f (listed.setIfInBounds i true) (a.put I.dst v) w->CE P md ops Q C lt (f+1) listed a w:=by
 intro f
 induction f with
 |zero=>
  intro listed a w _ ae hN al aj ag H;refine⟨λh=>(by rw [h] at ae;cases ae),λj O=> ?_⟩;by_cases J:j=i
  . subst J;exact aj.op hi ag ⟨λ_=>ag,H⟩
  . exact Y9
 |succ f ih=>
  intro listed a w aa ae hN al aj ag H;refine⟨λh=>(by rw [h] at ae;cases ae),λj O=> ?_⟩;by_cases J:j=i
  . subst J;exact aj.op hi ag ⟨λ_=>ag,H⟩
  . have h1:=H.2 j (ready_mono O J)
    obtain⟨Z,d,ah,ab⟩:=mem_ready.1 O;have U:=(mem_ready.1 ae).1;have ax:=Xd;have ay:=H7 (C:=C) ah (aa j d ah J Z ax) (λcs b=>am i I cs b hi) (λcs b=>am j d cs b ah) aw aj h1;have az:=Yj;refine wpOp_mono (λa' w' V=> ?_) ay;have aA:j∉lt:=λhm=>by
     have an:=Mr ar hN (Array.getElem?_eq_some_iff.1 hi).1 au (j+1) j (Nat.lt_succ_self j) hm (λhx=>by
      rcases al j hx with af|af
      . rw [getD_both Z] at af;cases af
      . have ao:=E1 hN 7 j i (λo ai=>by rw [ah] at ai;cases ai;exact ab) af
        rw [getD_both U] at ao;cases ao) (λo ai=>by rw [ah] at ai;cases ai;exact ab)
     rw [getD_both U] at an
     cases an
    have aq :C w' :=V.2.1 aA;refine⟨λ_=>aq,ih (listed.setIfInBounds j true) a' w' az (ready_mono ae (Ne.symm J)) (hN.list O) (λx hx=>(al x hx).imp (λaf=>VU af j) id) V.1 aq ?_⟩;exact Y6
def BD(md:Region.Mode)(ops:Array Oper)(lt mv:List Nat):Tr->Nat->Bool->Array Bool->Bool
 | .nil,n,z,listed=>decide (n=0)&&(Region.ready md ops listed).isEmpty
 | .r i t,n,z,listed=>match n with
   |0=>false
   |n+1=> !z&&(!lt.contains i&&(mv.all λk=>listed.getD k false||M5 md ops 7 k i))&&(Region.ready md ops listed).contains i&&Region.free md ops listed i&&BD md ops lt mv t n z (listed.setIfInBounds i true)
 | .m i t,n,z,listed=>match n with
   |0=>false
   |n+1=>lt.contains i&&(Region.ready md ops listed).contains i&&Region.free md ops listed i&&BD md ops lt mv t n z (listed.setIfInBounds i true)
 | .a k t,n,z,listed=>match n with
   |0=>false
   |n+1=>(!z||lt.contains k)&&decide (Region.ready md ops listed= [k])&&BD md ops lt mv t n (lt.contains k) (listed.setIfInBounds k true)
 | .two i s j t,n,z,listed=>match n with
   |0=>false
   |n+1=> !z&& !lt.contains i&& !lt.contains j&&decide (Region.ready md ops listed= [i,j])&&BD md ops lt mv s n z (listed.setIfInBounds i true)&&BD md ops lt mv t n z (listed.setIfInBounds j true)
 | .three i s j t k u,n,z,listed=>match n with
   |0=>false
   |n+1=> !z&& !lt.contains i&& !lt.contains j&& !lt.contains k&&decide (Region.ready md ops listed= [i,j,k])&&BD md ops lt mv s n z (listed.setIfInBounds i true)&&BD md ops lt mv t n z (listed.setIfInBounds j true)&&BD md ops lt mv u n z (listed.setIfInBounds k true)
def A0(P:Program)(ops:Array Oper)(Q:Exit->Act->World->Prop)(lt:List Nat):Tr->(World->Prop)->Act->World->Prop
 | .nil,_,a,w=>Q .normal a w
 | .r i t,C,a,w=> ∃o v,ops[i]? =some o/\BY P ops C o v a/\A0 P ops Q lt t C (a.put o.dst v) w
 | .m i t,C,a,w=> ∃o v,ops[i]? =some o/\BY P ops (λ_=>True) o v a/\A0 P ops Q lt t C (a.put o.dst v) w
 | .a k t,C,a,w=> ∃o,ops[k]? =some o/\wpList P ops (Qr (λa' w' =>(k∉lt->C w')/\A0 P ops Q lt t C a' w') Q) [o] a w
 | .two i s j t,C,a,w=>(∃o,ops[i]? =some o/\wpList P ops (Qr (λa' w' =>C w' /\A0 P ops Q lt s C a' w') Q) [o] a w)/\
   ∃o,ops[j]? =some o/\wpList P ops (Qr (λa' w' =>C w' /\A0 P ops Q lt t C a' w') Q) [o] a w
 | .three i s j t k u,C,a,w=>(∃o,ops[i]? =some o/\wpList P ops (Qr (λa' w' =>C w' /\A0 P ops Q lt s C a' w') Q) [o] a w)/\
   (∃o,ops[j]? =some o/\wpList P ops (Qr (λa' w' =>C w' /\A0 P ops Q lt t C a' w') Q) [o] a w)/\
   ∃o,ops[k]? =some o/\wpList P ops (Qr (λa' w' =>C w' /\A0 P ops Q lt u C a' w') Q) [o] a w
theorem AF{a:Act}(h:Q .normal a w):A0 P ops Q lt .nil C a w:=h
theorem Et{s:Tr}{a:Act}(o:Oper)(v:Value)(hi:ops[i]? =some o)(h1:Region.wanted o (yielded ops a.tmps)=true)(d: ∀w,C w->(execOp a.eval o).run P w= .ok (.value v) w)(h:A0 P ops Q lt s C (a.put o.dst v) w):A0 P ops Q lt (.r i s) C a w:=
 ⟨o,v,hi, .inl ⟨h1,d⟩,h⟩
theorem AB{s:Tr}{a:Act}{o:Oper}(h:A0 P ops Q lt s C (a.put o.dst v) w)(hi:ops[i]? =some o:=by exact rfl)(h1:Region.wanted o (yielded ops a.tmps)=true:=by exact rfl)(d: ∀w,C w->(execOp a.eval o).run P w= .ok (.value v) w:=by rintro _ ⟨X,rfl⟩;go_simp;exact rfl):A0 P ops Q lt (.r i s) C a w:=
 Et o v hi h1 d h
theorem EY{s:Tr}{a:Act}(o:Oper)(v:Value)(hi:ops[i]? =some o)(h1:Region.wanted o (yielded ops a.tmps)=true)(d: ∀w,(execOp a.eval o).run P w= .ok (.value v) w)(h:A0 P ops Q lt s C (a.put o.dst v) w):A0 P ops Q lt (.m i s) C a w:=⟨o,v,hi, .inl ⟨h1,λw _=>d w⟩,h⟩
theorem Ao{s:Tr}{a:Act}(o:Oper)(d:ops[k]? =some o)(h: ∀K:Act->World->Prop,(∀a' w',C w' ->A0 P ops Q lt s C a' w' ->K a' w')->wpList P ops (Qr K Q) [o] a w):A0 P ops Q lt (.a k s) C a w:=
 ⟨o,d,h _ (λ_ _ h1 I=>⟨λ_=>h1,I⟩)⟩
theorem AA{s:Tr}{a:Act}(o:Oper)(d:ops[k]? =some o)(I:k∈lt)(h: ∀K:Act->World->Prop,(∀a' w',A0 P ops Q lt s C a' w' ->K a' w')->wpList P ops (Qr K Q) [o] a w):A0 P ops Q lt (.a k s) C a w:=
 ⟨o,d,h _ (λ_ _ J=>⟨λO=>absurd I O,J⟩)⟩
theorem Be{s t:Tr}{a:Act}(o I :Oper)(hi:ops[i]? =some o)(J:ops[j]? =some I)
 (h1: ∀K:Act->World->Prop,(∀a' w',C w' ->A0 P ops Q lt s C a' w' ->K a' w')->wpList P ops (Qr K Q) [o] a w)
 (d: ∀K:Act->World->Prop,(∀a' w',C w' ->A0 P ops Q lt t C a' w' ->K a' w')->wpList P ops (Qr K Q) [I] a w):A0 P ops Q lt (.two i s j t) C a w:=
 ⟨⟨o,hi,h1 _ (λ_ _ h1 d=>⟨h1,d⟩)⟩,⟨I,J,d _ (λ_ _ h1 d=>⟨h1,d⟩)⟩⟩
theorem G6{s t u:Tr}{a:Act}(o I J :Oper)(hi:ops[i]? =some o)(O:ops[j]? =some I)(U:ops[k]? =some J)
 (h1: ∀K:Act->World->Prop,(∀a' w',C w' ->A0 P ops Q lt s C a' w' ->K a' w')->wpList P ops (Qr K Q) [o] a w)
 (d: ∀K:Act->World->Prop,(∀a' w',C w' ->A0 P ops Q lt t C a' w' ->K a' w')->wpList P ops (Qr K Q) [I] a w)
 (V: ∀K:Act->World->Prop,(∀a' w',C w' ->A0 P ops Q lt u C a' w' ->K a' w')->wpList P ops (Qr K Q) [J] a w):A0 P ops Q lt (.three i s j t k u) C a w:=
 ⟨⟨o,hi,h1 _ (λ_ _ h1 d=>⟨h1,d⟩)⟩,⟨I,O,d _ (λ_ _ h1 d=>⟨h1,d⟩)⟩,⟨J,U,V _ (λ_ _ h1 d=>⟨h1,d⟩)⟩⟩
theorem Ra{I:Oper}(ah:i∈lt)(hi:ops[i]? =some I)(ai: ∀(j:Nat) (o:Oper) cs b,ops[j]? =some o->o.op≠ .select cs b)
 (aj: ∀c a w,Q (.panic c) (a.put I.dst v) w->Q (.panic c) a w):
 ∀(f:Nat) (listed:Array Bool) (a:Act) (w:World),
  (∀j d,ops[j]? =some d->j≠i->listed.getD j true=false->(∀e∈d.after,Region.binds md e=true->e.on≠i)->I.apart ops d=true)->
  i∈Region.ready md ops listed->BY P ops (λ_=>True) I v a->
  CE P md ops Q C lt f (listed.setIfInBounds i true) (a.put I.dst v) w->CE P md ops Q C lt (f+1) listed a w:=by
 intro f
 induction f with
 |zero=>
  intro listed a w _ ae af H;refine⟨λh=>(by rw [h] at ae;cases ae),λj O=> ?_⟩;by_cases J:j=i
  . subst J;exact af.op hi trivial ⟨λh=>absurd ah h,H⟩
  . exact Y9
 |succ f ih=>
  intro listed a w aa ae af H;refine⟨λh=>(by rw [h] at ae;cases ae),λj O=> ?_⟩;by_cases J:j=i
  . subst J;exact af.op hi trivial ⟨λh=>absurd ah h,H⟩
  . have h1:=H.2 j (ready_mono O J)
    obtain⟨Z,d,ag,ab⟩:=mem_ready.1 O;have U:=(mem_ready.1 ae).1;have al:=Xd;have am:=H7 (C:=λ_=>True) ag (aa j d ag J Z al) (λcs b=>ai i I cs b hi) (λcs b=>ai j d cs b ag) aj af h1;have an:=Yj;refine wpOp_mono (λa' w' V=> ?_) am;refine⟨V.2.1,ih (listed.setIfInBounds j true) a' w' an (ready_mono ae (Ne.symm J)) V.1 ?_⟩;exact Y6
theorem Bd(Z:JY md ops lt mv=true)(U:Region.noSelect ops=true)(V: ∀c a d v w,Q (.panic c) (Act.put a d v) w->Q (.panic c) a w):
 ∀(s:Tr) (n:Nat) (z:Bool) (listed:Array Bool) (a:Act) (w:World),(z=false->C w)->Jx md ops listed->BD md ops lt mv s n z listed=true->A0 P ops Q lt s C a w->CE P md ops Q C lt n listed a w
 | .nil,n,z,listed,a,w,hC,hN,I,h=>by
   simp only [BD,Bool.and_eq_true,decide_eq_true_eq] at I;obtain⟨rfl,I⟩:=I;exact⟨by simpa using I,h⟩
 | .r i s,0,z,listed,a,w,hC,hN,I,h=>by simp [BD] at I
 | .r i s,n+1,z,listed,a,w,hC,hN,I,h=>by
   obtain⟨o,v,h0,ae,af⟩:=h;simp only [BD,Bool.and_eq_true,Bool.not_eq_true'] at I;obtain⟨⟨⟨⟨aa,ab,ao⟩,J⟩,ag⟩,ah⟩:=I;exact D8 Z (by simpa using ab) h0 (Region.noSelect_spec U) (λc a w h=>V c a _ _ w h) n listed a w (Region.free_spec h0 ag) (by simpa using J) hN (λx hx=>by
    have an:=List.all_eq_true.1 ao x hx;rw [Bool.or_eq_true] at an;exact an) ae (hC aa)
    (Bd Z U V s n z _ _ w hC (hN.list (by simpa using J)) ah af)
 | .m i s,0,z,listed,a,w,hC,hN,I,h=>by simp [BD] at I
 | .m i s,n+1,z,listed,a,w,hC,hN,I,h=>by
   obtain⟨o,v,h0,ae,af⟩:=h;simp only [BD,Bool.and_eq_true] at I;obtain⟨⟨⟨ab,J⟩,ag⟩,ah⟩:=I
   exact Ra (by simpa using ab) h0 (Region.noSelect_spec U) (λc a w h=>V c a _ _ w h) n listed a w (Region.free_spec h0 ag) (by simpa using J) ae
    (Bd Z U V s n z _ _ w hC (hN.list (by simpa using J)) ah af)
 | .a k s,0,z,listed,a,w,hC,hN,I,h=>by simp [BD] at I
 | .a k s,n+1,z,listed,a,w,hC,hN,I,h=>by
   obtain⟨o,h0,h⟩:=h;simp only [BD,Bool.and_eq_true,Bool.or_eq_true,decide_eq_true_eq] at I;refine⟨λh1=>(by rw [I.1.2] at h1;cases h1),λi hi=> ?_⟩;rw [I.1.2] at hi;obtain rfl:i=k:=by simpa using hi
   exact wpOp_mono (λa' w' ⟨h1,O⟩=>⟨h1,Bd Z U V s n _ _ a' w' (λaa=>h1 (by simpa using aa)) (hN.list (by rw [I.1.2];simp)) I.2 O⟩) (De h0 h)
 | .two i s j t,0,z,listed,a,w,hC,hN,I,h=>by simp [BD] at I
 | .two i s j t,n+1,z,listed,a,w,hC,hN,I,h=>by
   obtain⟨⟨o,h0,h⟩,⟨aq,ai,aj⟩⟩:=h;simp only [BD,Bool.and_eq_true,decide_eq_true_eq,Bool.not_eq_true'] at I;obtain⟨⟨⟨⟨⟨aa,ab⟩,ar⟩,J⟩,hs⟩,al⟩:=I;refine⟨λh1=>(by rw [J] at h1;cases h1),λq ac=> ?_⟩;rw [J] at ac;have am:q=i\/q=j:=(by simpa using ac);rcases am with rfl|rfl
   . exact wpOp_mono (λa' w' ⟨h1,O⟩=>⟨λ_=>h1,Bd Z U V s n z _ a' w' (λ_=>h1) (hN.list (by rw [J];simp)) hs O⟩) (De h0 h)
   . exact wpOp_mono (λa' w' ⟨h1,O⟩=>⟨λ_=>h1,Bd Z U V t n z _ a' w' (λ_=>h1) (hN.list (by rw [J];simp)) al O⟩) (De ai aj)
 | .three i s j t k u,0,z,listed,a,w,hC,hN,I,h=>by simp [BD] at I
 | .three i s j t k u,n+1,z,listed,a,w,hC,hN,I,h=>by
   obtain⟨⟨o,h0,h⟩,⟨aq,ai,aj⟩,⟨ax,au,aw⟩⟩:=h;simp only [BD,Bool.and_eq_true,decide_eq_true_eq,Bool.not_eq_true'] at I;obtain⟨⟨⟨⟨⟨⟨⟨aa,ab⟩,ar⟩,ay⟩,J⟩,hs⟩,al⟩,hu⟩:=I;refine⟨λh1=>(by rw [J] at h1;cases h1),λq ac=> ?_⟩;rw [J] at ac;have am:q=i\/q=j\/q=k:=(by simpa using ac);rcases am with rfl|rfl|rfl
   . exact wpOp_mono (λa' w' ⟨h1,O⟩=>⟨λ_=>h1,Bd Z U V s n z _ a' w' (λ_=>h1) (hN.list (by rw [J];simp)) hs O⟩) (De h0 h)
   . exact wpOp_mono (λa' w' ⟨h1,O⟩=>⟨λ_=>h1,Bd Z U V t n z _ a' w' (λ_=>h1) (hN.list (by rw [J];simp)) al O⟩) (De ai aj)
   . exact wpOp_mono (λa' w' ⟨h1,O⟩=>⟨λ_=>h1,Bd Z U V u n z _ a' w' (λ_=>h1) (hN.list (by rw [J];simp)) hu O⟩) (De au aw)
theorem Cn{a:Act}{l:List Oper}(C:World->Prop)(lt mv:List Nat)(s:Tr)(hm:P.follows .mixedOrders=true)(I:Region.noSelect l.toArray=true)(J:JY .any l.toArray lt mv=true)
 (O:BD .any l.toArray lt mv s l.length false (Array.replicate l.toArray.size false)=true) (U:C { w with drawn:=w.drawn+1 }) (V: ∀c a d v w,Q (.panic c) (Act.put a d v) w->Q (.panic c) a w)
 (h:A0 P l.toArray Q lt s C a { w with drawn:=w.drawn+1 }):(Code.region id l.toArray true).wp P Q a w:=by
 refine wp_region_any hm (CE.any (C:=C) (lt:=lt) _ _ _ _ ?_);have:=Bd (md:= .any) J I V s l.length false (Array.replicate l.toArray.size false) a _ (λ_=>U) (λm o Z hm=>by have aa:=(Array.getElem?_eq_some_iff.1 Z).1;simp [Array.getD] at hm) O h
 simpa using this
theorem CO{a:Act}{l:List Oper}(C:World->Prop)(lt:List Nat)(s:Tr)(hm:P.follows .mixedOrders=true)(I:Region.noSelect l.toArray=true)(J:JY .any l.toArray lt []=true)
 (O:BD .any l.toArray lt [] s l.length false (Array.replicate l.toArray.size false)=true) (U:C { w with drawn:=w.drawn+1 }) (V: ∀c a d v w,Q (.panic c) (Act.put a d v) w->Q (.panic c) a w)
 (h:A0 P l.toArray Q lt s C a { w with drawn:=w.drawn+1 }):(Code.region id l.toArray true).wp P Q a w:=
 Cn C lt [] s hm I J O U V h
theorem AD{a:Act}{l:List Oper}(C:World->Prop)(lt:List Nat)(s:Tr)(I:C { w with drawn:=w.drawn+1 })(h:A0 P l.toArray Q lt s C a { w with drawn:=w.drawn+1 })(hm:P.follows .mixedOrders=true:=by kernel_rfl)(J:Region.noSelect l.toArray=true:=by kernel_rfl)(O:JY .any l.toArray lt []=true:=by kernel_rfl)(U:BD .any l.toArray lt [] s l.length false (Array.replicate l.toArray.size false)=true:=by kernel_rfl)(V: ∀c a d v w,Q (.panic c) (Act.put a d v) w->Q (.panic c) a w:=by intro _ _ d _ _ h;cases d<;>exact h):(Code.region id l.toArray true).wp P Q a w:=
 CO C lt s hm J O U I V h
end
end Go.Proofs.YtiopopoohglepaaGreatDoor
namespace Go.Proofs.YtiopopoohglepaaGreatDoor
open Go.Proofs.Tryz
open Go.RowKit Go.Shelf
variable {B G M N P ak av b b13 b2 bl f h k last most q s t x:Nat}{F bn:Nat->Prop}{H l l1 l2 l3 st:List Nat}{R:Zr}{W W' w:World}{n:BN}{v' v1 v2 v3 vi vk vv:Value}
structure Lo(M:Nat)(w:World)(s:Nat)(F:Nat->Prop):Prop where
 h: ∃ha,w.cell? ⟨s,3,none⟩=some (.pointer (some ⟨ha,0,none⟩))/\ha<M
 s:s<M
 t:1<M
 F: ∀b,F b->b<M
section
variable {w':World}     
theorem Am.lo(h:Am w s F R H P q most last G):Lo w.heap.size w s F:=by
 refine⟨?_,h.FN, ?_,λb d=>h.lt d⟩
 . obtain⟨a,ha,t,v,L,mem,sl,Fh,h⟩:=h
   refine⟨ha,h.ch, ?_⟩;exact Z7
 . obtain⟨a,ha,t,v,L,mem,sl,Fh,h⟩:=h
   exact Ycl
theorem Lo.keep(h:Lo M w s F)(d:w'.heap[s]? =w.heap[s]?):Lo M w' s F:=by
 obtain⟨⟨ha,h1,I⟩,J,O,U⟩:=h;exact⟨⟨ha,(World.cell?_of_block (a:=⟨s,3,none⟩) d).trans h1,I⟩,J,O,U⟩
theorem Lo.low(h:Lo M w s F)(d:Below M w w'):Lo M w' s F:=h.keep (d.block s h.s)
theorem Am.low(h:Am w s F R H P q most last G)(aa:Lo M w s F)(U:Below M w w'):Am w' s F R H P q most last G:=by
 obtain⟨a,ha,t,v,L,mem,sl,Fh,h⟩:=h;obtain⟨⟨ab,h1,ac⟩,J,ae,V⟩:=aa;rw [h.ch] at h1;have hh:ha=ab :=by simpa using h1
 subst hh;have Z:=h.Gu;have I:=KB.GQ U (Nat.le_refl M);have d: ∀b,b<M-> ¬(M<=b):=λb U=>by omega
 exact⟨a,ha,t,v,L,mem,sl,Fh,{ h with
  ca:=I.cell h.ca (d _ J)
  ch:=I.cell h.ch (d _ J)
  ct:=I.cell h.ct (d _ J)
  heap:=h.heap.kb I (λk O=>d k (V k (by rw [Z];exact .inl O))) (d _ ac) (d _ ae)
  tab:=h.tab.kb I (λb O=>d b (V b (by rw [Z];exact .inr O))) }⟩
end
structure Ha(N M:Nat)(W:World)(s t:Nat)(F:Nat->Prop)(bl b2:Nat)(vb:Option Nat)(H:List Nat)(P q most last G:Nat)(R:Zr)(st:List Nat):Prop where
 str:Am W s F R H P q most last G
 lo:Lo M W s F
 tk: ∃v,v.ownBlock=vb/\Tk N W s t F bl b2 v st
 l1:bl<M
 l2:b2<M
 l3: ∀k,vb=some k->k<M
 sh:Ba R
 QS: ∀x∈st,x<18446744073709551616
 len:st.length<=100000
 hN:s<N/\1<N
 J5:N<=bl
section
variable  {w':World}    {vb:Option Nat}   {R':Zr} {st':List Nat}
theorem HI{T:TypeId}{vs:List Value}(h:An W b T vs)(d:Below M W W')(I:b<M):An W' b T vs:=h.block (d.block b I)
theorem Ha.low(h:Ha N M W s t F bl b2 vb H P q most last G R st)(d:Below M W W'):Ha N M W' s t F bl b2 vb H P q most last G R st:=by
 obtain⟨v,e,k⟩:=h.tk
 exact { h with
  str:=h.str.low h.lo d
  lo:=h.lo.low d
  tk:=⟨v,e,HI k.bx d h.l1,HI k.Jv d h.l2,Em k.row λz I=>d.block z (h.l3 z (e▸I)),k.fl,k.f2,k.fr,k.ne⟩ }
theorem Ha.fb(h:Ha N M W s t F bl b2 vb H P q most last G R st): ∀b,FB F bl b->b<M:=λb d=>by
 rcases d with d|d
 . exact h.lo.F b d
 . rw [d];exact h.l1
theorem Ha.Ar(h:Ha N M W s t F bl b2 vb H P q most last G R st)(hs:Am W' s F R' H P q most last G)(d:Ad W F W' F)(I:Ba R'):Ha N M W' s t F bl b2 vb H P q most last G R' st:=by
 obtain⟨v,e,k⟩:=h.tk
 exact { h with
  str:=hs
  lo:=h.lo.keep (d.keep s h.str.FN h.str.X6)
  tk:=⟨v,e,k.Ar d⟩
  sh:=I }
theorem Ad.low(d:Ad w F W F)(I:Below w.heap.size W W'):Ad w F W' F:=
 ⟨I.os.trans d.os,I.tape.trans d.tape,I.output.trans d.output,Nat.le_trans d.size I.size,λk J O=>(I.block k J).trans (d.keep k J O),λ_ h=> .inl h⟩
theorem AQ.Ar(h:AQ W B v1 l1 v2 l2 v3 l3)(d:Ad W F W' F)(I: ∀b,F b->b<B):AQ W' B v1 l1 v2 l2 v3 l3:=
 h.keep λb U J=>d.keep b J λO=>by have:=I b O;omega
theorem Cr(d:BN.A1 t)(h:Ba R):Ba (Bq R t x n):=by
 unfold Bq
 split
 . refine h.B5 x _ λws hw=> ?_
   cases hw
   rw [BN.B6];have:=d.2;omega
 . exact h
theorem AQ.KZ(h:AQ W B v1 l1 v2 l2 v3 l3)(I:W'.ownsRow B 23 1 v' l.length (AG l))(hw:Rw W W' v1.ownBlock v'.ownBlock):AQ W' B v' l v2 l2 v3 l3:=by
 have d: ∀(u:Value) (m:List Nat),W.ownsRow B 23 1 u m.length (AG m)->Fi v1 u->W'.ownsRow B 23 1 u m.length (AG m)/\Fi v' u:=λu m hu ha=>by
  refine⟨CK hu λb J=>hw.1.block b (BM hu J).2 (λe=>ha b e.symm J),λb J he=> ?_⟩;rcases hw.2 with h1|h1
  . rw [h1] at J;exact ha b J he
  . have:=h1 b J
    have:=(BM hu he).2;omega
 exact Yef
theorem AQ.ZK(h:AQ W B v1 l1 v2 l2 v3 l3)(d:W'.ownsRow B 23 1 v' l.length (AG l))(hw:Rw W W' v2.ownBlock v'.ownBlock):AQ W' B v1 l1 v' l v3 l3:=(h.Eg.KZ d hw).Eg
theorem AQ.ZO(h:AQ W B v1 l1 v2 l2 v3 l3)(d:W'.ownsRow B 23 1 v' l.length (AG l))(hw:Rw W W' v3.ownBlock v'.ownBlock):AQ W' B v1 l1 v2 l2 v' l:=(h.Fj.KZ d hw).Fj
structure Rows(A:World)(B:Nat)(bn:Nat->Prop)(W:World)(v1:Value)(l1:List Nat)(v2:Value)(l2:List Nat)(v3:Value)(l3:List Nat):Prop where
 own:AQ W B v1 l1 v2 l2 v3 l3
 size:A.heap.size<=W.heap.size
 blt: ∀b,bn b->b<A.heap.size
 low:Below B A W
 off: ∀b,v1.ownBlock=some b\/v2.ownBlock=some b\/v3.ownBlock=some b-> ¬bn b
 box: ∀b,bn b->W.heap[b]? =A.heap[b]?
section
variable {A:World}    
theorem Rows.start(h:AQ A B v1 l1 v2 l2 v3 l3)(d: ∀b,bn b->b<A.heap.size)(I: ∀b,v1.ownBlock=some b\/v2.ownBlock=some b\/v3.ownBlock=some b-> ¬bn b)(J:B<=A.heap.size):Rows A B bn A v1 l1 v2 l2 v3 l3:=
 ⟨h,Nat.le_refl _,d,(Below.refl _ _).mono J,I,λ_ _=>rfl⟩
theorem Rows.below(h:Rows A B bn W v1 l1 v2 l2 v3 l3)(J:B<=A.heap.size)(d:Below W.heap.size W W'):Rows A B bn W' v1 l1 v2 l2 v3 l3:=
 ⟨h.own.below d,Nat.le_trans h.size d.size,h.blt,h.low.trans (d.mono (Nat.le_trans J h.size)),h.off,λb I=>(d.block b (Nat.lt_of_lt_of_le (h.blt b I) h.size)).trans (h.box b I)⟩
theorem Rows.Eg(h:Rows A B bn W v1 l1 v2 l2 v3 l3):Rows A B bn W v2 l2 v1 l1 v3 l3:=⟨h.own.Eg,h.size,h.blt,h.low,λb d=>h.off b (by rcases d with d|d|d<;>simp [d]),h.box⟩
theorem Rows.Fj(h:Rows A B bn W v1 l1 v2 l2 v3 l3):Rows A B bn W v3 l3 v2 l2 v1 l1:=⟨h.own.Fj,h.size,h.blt,h.low,λb d=>h.off b (by rcases d with d|d|d<;>simp [d]),h.box⟩
theorem Rows.KZ(h:Rows A B bn W v1 l1 v2 l2 v3 l3)(J:W'.ownsRow B 23 1 v' l.length (AG l))(hw:Rw W W' v1.ownBlock v'.ownBlock)(O:B<=A.heap.size):Rows A B bn W' v' l v2 l2 v3 l3:=by
 have U:Below B W W' :=hw.low (Nat.le_trans O h.size) λk V=>(BM h.own.r1 V).1
 refine⟨h.own.KZ J hw,Nat.le_trans h.size hw.1.size,h.blt,h.low.trans U,λb d=> ?_,λb I=>(hw.1.block b (Nat.lt_of_lt_of_le (h.blt b I) h.size) (λe=>h.off b (.inl e.symm) I)).trans (h.box b I)⟩;rcases d with d|d|d
 . rcases hw.2 with h1|h1
   . exact h.off b (.inl (h1▸d))
   . intro I;have:=h1 b d;have:=h.blt b I;have:=h.size;omega
 . exact h.off b (.inr (.inl d))
 . exact h.off b (.inr (.inr d))
end
end
structure Hv(W:World)(vb x:Nat)(v1 v2 v3:Value):Prop where
 h:W.heap[vb]? =some (.cells #[.int .u64 x] 23 (0,0))
 n1:v1.ownBlock≠some vb
 n2:v2.ownBlock≠some vb
 n3:v3.ownBlock≠some vb
section
variable {A:World} {vb:Nat}   
theorem Hv.lt(h:Hv W vb x v1 v2 v3):vb<W.heap.size:=(Array.getElem?_eq_some_iff.1 h.h).1
theorem Hv.below(h:Hv W vb x v1 v2 v3)(d:Below W.heap.size W W'):Hv W' vb x v1 v2 v3:=⟨(d.block vb h.lt).trans h.h,h.n1,h.n2,h.n3⟩
theorem Hv.Eg(h:Hv W vb x v1 v2 v3):Hv W vb x v2 v1 v3:=⟨h.h,h.n2,h.n1,h.n3⟩
theorem Hv.Fj(h:Hv W vb x v1 v2 v3):Hv W vb x v3 v2 v1:=⟨h.h,h.n3,h.n2,h.n1⟩
theorem Hv.KZ(h:Hv W vb x v1 v2 v3)(hw:Rw W W' v1.ownBlock v'.ownBlock):Hv W' vb x v' v2 v3:=
 ⟨(hw.1.block vb h.lt (λe=>h.n1 e.symm)).trans h.h,λe=>by
   rcases hw.2 with h1|h1
   . exact h.n1 (h1.symm.trans e)
   . have:=h1 vb e;have:=h.lt;omega,h.n2,h.n3⟩
theorem Rows.Mm(h:Rows A B bn W v1 l1 v2 l2 v3 l3)(I:B<=A.heap.size)(x:Nat):Rows A B bn (W.alloc (.cells #[.int .u64 x] 23)) v1 l1 v2 l2 v3 l3/\Hv (W.alloc (.cells #[.int .u64 x] 23)) W.heap.size x v1 v2 v3:=by
 have d: ∀(v:Value) (l:List Nat),W.ownsRow B 23 1 v l.length (AG l)->v.ownBlock≠some W.heap.size:=λv l J he=>by have:=Bs J _ he;omega
 exact⟨h.below I ((Below.refl _ W).alloc (Nat.le_refl _) _),⟨heap_alloc_new W _,d _ _ h.own.r1,d _ _ h.own.r2,d _ _ h.own.r3⟩⟩
theorem Rows.QJ(h:Rows A B bn W v1 l1 v2 l2 v3 l3)(d:B<=A.heap.size)(x:Nat):Rows A B bn (W.alloc (.cells #[.int .u64 x] 23)).drew v1 l1 v2 l2 v3 l3/\Hv (W.alloc (.cells #[.int .u64 x] 23)).drew W.heap.size x v1 v2 v3:=by
 obtain⟨h1,I⟩:=h.Mm d x;exact⟨h1.below d (Ac _),I.below (Ac _)⟩
theorem Rows.Gh(h:Rows A B bn W v1 l1 v2 l2 v3 l3): ∃X:Au (λb=>B<=b/\ ¬bn b) A,W=X.W:=
 ⟨⟨W,h.size,λk O I=>by
   by_cases d:bn k
   . exact h.box k d
   . exact h.low.block k (by
      by_cases J:B<=k
      . exact absurd ⟨J,d⟩ I
      . omega)⟩,rfl⟩
def ZJ(A:World)(B:Nat)(bn:Nat->Prop)(W:World)(v1 v2 v3:Value)(l1:List Nat)(l2:List Nat)(l3:List Nat)(e:Ending)(w' :World):Prop:=
 ∃A' c',e= .returned (.slice A' l1.length c')/\Rows A B bn w' (.slice A' l1.length c') l1 v2 l2 v3 l3/\ ∀vb x,Hv W vb x v1 v2 v3->Hv w' vb x (.slice A' l1.length c') v2 v3
theorem Rows.call(h:Rows A B bn W v1 l1 v2 l2 v3 l3)(d:B<=A.heap.size)(I:Hv W vb x v1 v2 v3)(k:Nat)(O:k<=l1.length)(U:l1.length<=100000):
 Calls prog 88 #[v1, .int .i64 k, .slice (some ⟨vb,0,none⟩) 1 1] W (ZJ A B bn W v1 v2 v3 (l1.take k++x::l1.drop k) l2 l3):=by
 refine(O7 (Nat.le_trans d h.size) h.own.r1 k O U I.h I.n1).mono ?_;rintro e w' ⟨v',rfl,J,hw⟩;obtain⟨V,Z,rfl⟩:=Ae J;exact⟨V,Z,rfl,h.KZ J hw d,λvb x hx=>hx.KZ hw⟩
end
def Rg:Option (Nat × Nat × Nat)->Value
 |none=> .agg #[.bool false, .int .u64 0, .int .u64 0, .int .u64 0]
 |some (a,b,r)=> .agg #[.bool true, .int .u64 a, .int .u64 b, .int .u64 r]
def Xk(N M:Nat)(w:World)(s t:Nat)(F:Nat->Prop)(bl b2:Nat)(vb:Option Nat)(H:List Nat)(P q most last G:Nat)(p:(Zr) × List Nat × Option (Nat × Nat × Nat))(e:Ending)(w' :World):Prop:=
 e= .returned (Rg p.2.2)/\Ha N M w' s t F bl b2 vb H P q most last G p.1 p.2.1.reverse/\Ad w (FB F bl) w' (FB F bl)/\ ∀a b r,p.2.2=some (a,b,r)->a<18446744073709551616/\b<18446744073709551616/\r<18446744073709551616
def NS(R:Zr)(t h:Nat)(st:List Nat)(n:BN)(k ak av:Nat)(rec:(Zr) × List Nat × Option (Nat × Nat × Nat)):(Zr) × List Nat × Option (Nat × Nat × Nat):=
 if n.kids= [] then B7 R t h st (n.Dy k ak av).more
 else match rec.2.2 with
  |none=>B7 rec.1 t h rec.2.1 n.more
  |some (a,b,r)=>B7 rec.1 t h rec.2.1 ((n.Dy k a b).FX (k+1) r).more
theorem S9{key:ByteArray}(d:Ag R t h=n)(I:Bm R t h=0)(J:DJ R n.keys key=k):
 D4 t key ak av (f+1) R st h=NS R t h st n k ak av (D4 t key ak av f R st (n.kids.getD k 0)):=by
 subst d J
 conv=>lhs;unfold D4
 rw [if_neg (by rw [I];simp)];unfold NS
 split
 . rfl
 . rfl
theorem Vv{key:ByteArray}(d:Bm R t h≠0):D4 t key ak av f R st h=(R,st,none):=by
 cases f with
 |zero=>rfl
 |succ f=>unfold D4;rw [if_pos d]
structure Mid(N M:Nat)(w:World)(s t:Nat)(F:Nat->Prop)(bl b2:Nat)(vb:Option Nat)(H:List Nat)(P q most last G:Nat)(D:(Zr) × List Nat × Option (Nat × Nat × Nat))(x b6 b12 b13 B:Nat)(wc:World)(R:Zr)(st:List Nat)(n:BN)(vk vv vi:Value):Prop where
 D:D=B7 R t x st.reverse n.more
 e:Ha N M wc s t F bl b2 vb H P q most last G R st
 Ar:Ad w (FB F bl) wc (FB F bl)
 own:AQ wc B vk n.keys vv n.Ab vi n.kids
 EH:An wc b13 100 [vk,vv,vi, .int .u64 n.size]
 x6:An wc b6 96 [.pointer (some ⟨s,0,none⟩), .int .i64 t]
 Eo:An wc b12 109 [.bool false, .int .u64 0, .int .u64 0, .int .u64 0]
 off: ∀b,vk.ownBlock=some b\/vv.ownBlock=some b\/vi.ownBlock=some b->b≠b13
 ok:n.Ok
 l1:n.keys.length<=32
 l2:n.Ab.length=n.keys.length
 l3:n.kids= []\/n.kids.length=n.keys.length+1
theorem AQ.off(h:AQ W B v1 l1 v2 l2 v3 l3)(I: ∀b,v1.ownBlock=some b\/v2.ownBlock=some b\/v3.ownBlock=some b->W'.heap[b]? =W.heap[b]?):AQ W' B v1 l1 v2 l2 v3 l3:=
 ⟨CK h.r1 λb d=>I b (.inl d),CK h.r2 λb d=>I b (.inr (.inl d)),CK h.r3 λb d=>I b (.inr (.inr d)),h.a12,h.Oq,h.a23⟩
theorem KH(h: ∀z∈l,z<18446744073709551616)(k:Nat)(hx:x<18446744073709551616): ∀z∈l.take k++x::l.drop k,z<18446744073709551616:=λz I=>by
 rcases List.mem_append.1 I with h1|h1
 . exact h z (List.mem_of_mem_take h1)
 . rcases List.mem_cons.1 h1 with d|d
   . rw [d];exact hx
   . exact h z (List.mem_of_mem_drop d)
theorem FE(d:k<=l.length)(x:Nat):(l.take k++x::l.drop k).length=l.length+1:=by simp;omega
def Ylz{P}(h:P:=by
 have I:Below B W W' :=⟨hg.os,hg.tape,hg.output,hg.size,λk J=>hg.block k (by have:=d.size;omega) (λe=>by have:k=b13:=Option.some.inj e;omega)⟩;exact I):=h
theorem Qd{w4:World}{vb:Option Nat}{D:(Zr) × List Nat × Option (Nat × Nat × Nat)}{b6 O:Nat}(U:bn b13)
 (V:D=B7 R t x st.reverse n.more) (Z:Ha N M w4 s t F bl b2 vb H P q most last G R st) (aa:M<=B) (ab:w.heap.size<=B) (ac:Ad w (FB F bl) w4 (FB F bl))
 (d:Rows w4 B bn W vk n.keys vv n.Ab vi n.kids) (hg:W.grownBy W' (some b13)) (ai:B<=b13) (aj:B<=w4.heap.size) (x6:An w4 b6 96 [.pointer (some ⟨s,0,none⟩), .int .i64 t]) (ae:b6<B)
 (Eo:An w4 O 109 [.bool false, .int .u64 0, .int .u64 0, .int .u64 0]) (af:O<B) (EH:An W' b13 100 [vk,vv,vi, .int .u64 n.size]) (ag:n.Ok) (l1:n.keys.length<=32) (l2:n.Ab.length=n.keys.length) (l3:n.kids= []\/n.kids.length=n.keys.length+1):
 Mid N M w s t F bl b2 vb H P q most last G D x b6 O b13 B W' R st n vk vv vi:=by
 have ah:=Ylz;have I:Below B w4 W' :=d.low.trans ah;refine⟨V,Z.low (I.mono aa),ac.low (I.mono ab),d.own.off λb J=>hg.block b ?_ λe=>d.off b J (by rw [show b=b13 from Option.some.inj e];exact U),EH,HI x6 I ae,HI Eo I af,λb J e=>d.off b J (by rw [e];exact U),ag,l1,l2,l3⟩;rcases J with h1|h1|h1
 . exact Bs d.own.r1 b h1
 . exact Bs d.own.r2 b h1
 . exact Bs d.own.r3 b h1
def spC:Option (Nat × Nat × Nat)->List Value
 |none=> [.bool false, .int .u64 0, .int .u64 0, .int .u64 0]
 |some (a,b,r)=> [.bool true, .int .u64 a, .int .u64 b, .int .u64 r]
structure Up(N M:Nat)(w4:World)(s t:Nat)(F:Nat->Prop)(bl b2:Nat)(vb:Option Nat)(H:List Nat)(P q most last G:Nat)(rec:(Zr) × List Nat × Option (Nat × Nat × Nat))(b17:Nat)(o:Option (Nat × Nat × Nat))(wc:World)(R' :Zr)(st' :List Nat):Prop where
 req:rec=(R',st'.reverse,o)
 e:Ha N M wc s t F bl b2 vb H P q most last G R' st'
 Ar:Ad w4 (FB F bl) wc (FB F bl)
 R9:An wc b17 109 (spC o)
 ge:w4.heap.size<=b17
 QS: ∀a b r,o=some (a,b,r)->a<18446744073709551616/\b<18446744073709551616/\r<18446744073709551616
section
variable {A:World} {vb:Nat}   
theorem Rows.Ls(h:Rows A B bn W v1 l1 v2 l2 v3 l3)(d:B<=A.heap.size)(I:Hv W vb x v1 v2 v3)(k:Nat)(J:k<=l1.length)(O:l1.length<=100000)(e:l=l1.take k++x::l1.drop k):
 Calls prog 88 #[v1, .int .i64 k, .slice (some ⟨vb,0,none⟩) 1 1] W (ZJ A B bn W v1 v2 v3 l l2 l3):=by
 subst e;exact h.call d I k J O
def Aa2(A:World)(B:Nat)(bn:Nat->Prop)(v1 v3:Value)(l1:List Nat)(l2:List Nat)(l3:List Nat)(e:Ending)(w' :World):Prop:=
 ∃A' c',e= .returned (.slice A' l2.length c')/\Rows A B bn w' v1 l1 (.slice A' l2.length c') l2 v3 l3
theorem Rows.call2(h:Rows A B bn W v1 l1 v2 l2 v3 l3)(d:B<=A.heap.size)(I:Hv W vb x v1 v2 v3)(k:Nat)(J:k<=l2.length)(O:l2.length<=100000)(e:l=l2.take k++x::l2.drop k):
 Calls prog 88 #[v2, .int .i64 k, .slice (some ⟨vb,0,none⟩) 1 1] W (Aa2 A B bn v1 v3 l1 l l3):=by
 subst e;refine(h.Eg.call d I.Eg k J O).mono ?_;rintro e w' ⟨U,V,Z,h1,_⟩;exact⟨U,V,Z,h1.Eg⟩
end
structure Xe(A:World)(B b13 b17:Nat)(vk:Value)(lk:List Nat)(vv:Value)(lv:List Nat)(vi:Value)(li:List Nat)(sz a b r:Nat)(W:World):Prop where
 own:AQ W B vk lk vv lv vi li
 low:Below B A W
 EH:An W b13 100 [vk,vv,vi, .int .u64 sz]
 R9:An W b17 109 (spC (some (a,b,r)))
 off: ∀z,vk.ownBlock=some z\/vv.ownBlock=some z\/vi.ownBlock=some z->z≠b13
 ge:A.heap.size<=W.heap.size
theorem XA{A:World}{I:Nat}{O:List Nat}{U:List Nat}{li:List Nat}{sz a r:Nat}(V:bn b13)(Z:bn I)(aa:I≠b13)
 (d:Rows A B bn W vk O vv U vi li) (hg:W.grownBy W' (some b13)) (ac:B<=b13) (ae:B<=A.heap.size) (EH:An W' b13 100 [vk,vv,vi, .int .u64 sz]) (R9:An A I 109 (spC (some (a,b,r)))):
 Xe A B b13 I vk O vv U vi li sz a b r W' :=by
 have ab:=Ylz;refine⟨d.own.off λz J=>hg.block z ?_ λe=>d.off z J (by rw [show z=b13 from Option.some.inj e];exact V),d.low.trans ab,EH,R9.block ((hg.block I (Nat.lt_of_lt_of_le (d.blt I Z) d.size) (λe=>aa (Option.some.inj e))).trans (d.box I Z)),λz J e=>d.off z J (by rw [e];exact V),Nat.le_trans d.size hg.size⟩;rcases J with h1|h1|h1
 . exact Bs d.own.r1 z h1
 . exact Bs d.own.r2 z h1
 . exact Bs d.own.r3 z h1
theorem F3(h:Ad w F W F): ∃X:Au F w,W=X.W:=⟨⟨W,h.size,λk d I=>h.keep k d I⟩,rfl⟩
theorem Ad.grown(h:Ad w F W F)(J:w.heap.size<=b)(hg:W.grownBy W' (some b)):Ad w F W' F:=
 ⟨hg.os.trans h.os,hg.tape.trans h.tape,hg.output.trans h.output,Nat.le_trans h.size hg.size,λk d I=>(hg.block k (Nat.lt_of_lt_of_le d h.size) (λe=>by have:k=b:=Option.some.inj e;omega)).trans (h.keep k d I),λ_ h=> .inl h⟩
theorem Ha.grow{vb:Option Nat}(h:Ha N M W s t F bl b2 vb H P q most last G R st)(d:M<=b)(I:M<=W.heap.size)(hg:W.grownBy W' (some b)):Ha N M W' s t F bl b2 vb H P q most last G R st:=
 h.low ⟨hg.os,hg.tape,hg.output,hg.size,λk J=>hg.block k (by omega) (λe=>by have:k=b:=Option.some.inj e;omega)⟩
theorem O0{vb:Option Nat}{D:(Zr) × List Nat × Option (Nat × Nat × Nat)}(I:Ha N M w s t F bl b2 vb H P q most last G R st)(J:M<=w.heap.size)(O:D=(R,st.reverse,none))(d:Below w.heap.size w W):
 Xk N M w s t F bl b2 vb H P q most last G D (.returned (.agg #[.bool false, .int .u64 0, .int .u64 0, .int .u64 0])) W:=by
 subst O;refine⟨rfl, ?_,Ad.below d,λa b r h=>by cases h⟩;simp only [List.reverse_reverse];exact I.low (d.mono J)
theorem GR{m:Nat}(h:Below m w W)(d:m<=b)(v0 v1 v2 v3:Value):Below m w ((((W.setCell ⟨b,0,none⟩ v0).setCell ⟨b,1,none⟩ v1).setCell ⟨b,2,none⟩ v2).setCell ⟨b,3,none⟩ v3):=
 (((h.setCell (p:=⟨b,0,none⟩) d v0).setCell (p:=⟨b,1,none⟩) d v1).setCell (p:=⟨b,2,none⟩) d v2).setCell (p:=⟨b,3,none⟩) d v3
def Ycm{P}(h:P:=by
 have:l= []:=by cases l with|nil=>rfl|cons a l=>simp [AG] at h
 subst this;exact .inl (by simp [AG])):=h
theorem AJ.takeN{A:Option Addr}(h:AJ w F A (AG l))(k:Nat):AJ w F A (AG (l.take k)):=by
 rcases h with h|⟨b,o,h1,d,I,J⟩
 . exact Ycm
 . refine .inr ⟨b,o,h1,d,I,λj u hu=>J j u ?_⟩
   have O:j<(AG (l.take k)).length:=(List.getElem?_eq_some_iff.1 hu).1;rw [Da,List.length_take] at O;rw [<-hu];unfold AG;rw [List.map_take,List.getElem?_take,if_pos (by omega)]
theorem AJ.drop{g o:Nat}(h:AJ w F (some ⟨g,o,none⟩) (AG l))(k:Nat):AJ w F (some ⟨g,o+k,none⟩) (AG (l.drop k)):=by
 rcases h with h|⟨b,O,h1,d,I,J⟩
 . exact Ycm
 . cases h1
   refine .inr ⟨g,o+k,rfl,d,I,λj u hu=> ?_⟩;have:=J (k+j) u (by rw [<-hu];unfold AG;rw [List.map_drop,List.getElem?_drop])
   rwa [<-Nat.add_assoc] at this
theorem DP{A:Option Addr}{c:Nat}(h:W.ownsRow B 23 1 (.slice A l.length c) l.length (AG l)):l.length<=c/\c<=maxLen\/(l= []/\c=0):=by
 rcases h.2 with ⟨h1,d⟩|⟨g,cap,cur,h1,d,J,O,I,U⟩
 . simp only [Value.slice.injEq] at h1;exact .inr ⟨List.eq_nil_of_length_eq_zero d,h1.2.2⟩
 . cases h1;exact .inl ⟨by omega,I⟩
theorem Ud(h:n.size<18446744073709551616):IntKind.u64.wrap ((n.size:Int)+1)=(n.more.size:Int):=by
 rw [IL];unfold NW
 show((((n.size:Int)+1)%18446744073709551616).toNat:Int)=(((n.size+1)%18446744073709551616:Nat):Int)
 omega
theorem TR(a b:Nat)(ha:a<18446744073709551616)(d:b<18446744073709551616): ∃z:Nat,IntKind.u64.wrap ((a:Int)-(b:Int))=(z:Int)/\z<18446744073709551616/\IntKind.u64.wrap ((z:Int)-1)=(((a+36893488147419103232-b-1)%18446744073709551616:Nat):Int):=by
 refine⟨NW ((a:Int)-b),IL _,Va _, ?_⟩;rw [IL];unfold NW;omega
theorem Wy(R:Zr)(t x b:Nat)(hx:(Ag R t x).size<18446744073709551616):IntKind.u64.wrap ((b:Int)+IntKind.u64.wrap (Cq R t x))=(((b+(Ag R t x).size)%18446744073709551616:Nat):Int):=by
 unfold Cq;rw [IL,IL];unfold NW wrap64;omega
theorem SM(R:Zr)(t:Nat): ∀(l:List Nat) (b:Nat),b<18446744073709551616->DM R t l b<18446744073709551616
 | [],b,h=>h
 |x::l,b,h=>SM R t l _ (Nat.mod_lt _ (by decide))
theorem NZ(R:Zr)(t:Nat)(l:List Nat)(b j:Nat)(d:j<l.length):DM R t (l.take (j+1)) b=(DM R t (l.take j) b+(Ag R t l[j]).size)%18446744073709551616:=by
 unfold DM;rw [List.take_succ_eq_append_getElem d,List.foldl_append];rfl
theorem CX.sized{k v i:List Nat}{d:Nat}(h:CX w F (.agg #[v1,v2,v3, .int .u64 s]) ⟨k,v,i,s⟩):CX w F (.agg #[v1,v2,v3, .int .u64 (d :Nat)]) ⟨k,v,i,d⟩:=by
 obtain⟨⟨I,J,O,U,V,ci,e,k1,k2,Z⟩,aa⟩:=h;refine⟨⟨I,J,O,U,V,ci, ?_,k1,k2,Z⟩,aa⟩;simp only [Value.agg.injEq] at e ⊢
 simpa using e
def B7.proj(R:Zr)(t x:Nat)(st:List Nat)(n:BN)(ls rs:Nat):(Zr) × List Nat × Option (Nat × Nat × Nat):=
 let p:=DG (Bq R t x ⟨n.keys.take t,n.Ab.take t,n.kids.take (t+1),ls⟩) t st.reverse ⟨n.keys.drop (t+1),n.Ab.drop (t+1),n.kids.drop (t+1),rs⟩
 (p.1,p.2.1,some (n.keys.getD t 0,n.Ab.getD t 0,p.2.2))
structure Kr(A W:World)(FF:Nat->Prop)(b18 b19 t:Nat)(n:BN)(l1 l2 l3 r1 r2 r3:Value):Prop where
 low:Below A.heap.size A W
 QT:An W b18 100 [l1,l2,l3, .int .u64 0]
 KA:An W b19 100 [r1,r2,r3, .int .u64 0]
 g18:A.heap.size<=b18
 g19:A.heap.size<=b19
 ne:b18≠b19
 vl:CX A FF (.agg #[l1,l2,l3, .int .u64 (0:Nat)]) ⟨n.keys.take t,n.Ab.take t,n.kids.take (t+1),0⟩
 vr:CX A FF (.agg #[r1,r2,r3, .int .u64 (0:Nat)]) ⟨n.keys.drop (t+1),n.Ab.drop (t+1),n.kids.drop (t+1),0⟩
theorem Pk(w:World)(g c len k:Nat)(d:k<=c):(Instr.slice 46 (.slice (some ⟨g,0,none⟩) len c) none (some (.int .i64 k)) none).run prog w= .ok (.slice (some ⟨g,0,none⟩) k c) w:=by
 rw [run_slice_h (P:=prog) w 46 (some ⟨g,0,none⟩) len c (by kernel_rfl) .i64 k (by omega) (by omega)];simp [go_sem]
theorem U1(w:World)(g c len k l2:Nat)(J:k+1<=len)(O:len<=c)(U:k+1<len)(d:l2=len-(k+1)):(Instr.slice 46 (.slice (some ⟨g,0,none⟩) len c) (some (.int .i64 ((k:Nat)+1))) none none).run prog w= .ok (.slice (some ⟨g,k+1,none⟩) l2 (c-(k+1))) w:=by
 rw [run_slice_l (P:=prog) w 46 (some ⟨g,0,none⟩) len c (by kernel_rfl) .i64 ((k:Nat)+1) (by omega) (by omega)];have e:((k:Int)+1).toNat=k+1:=by omega
 have I:c≠k+1:=by omega
 subst d;simp [go_sem,e,I]
theorem Ha.take{vb:Option Nat}{st' :List Nat}{p:(Zr) × List Nat × Nat}(h:Ha N M W s t F bl b2 vb H P q most last G R st)(J:BN.A1 t)(hp:p=DG R t st.reverse n)
 (h1:v'.ownBlock=vb) (O:st'.reverse=p.2.1) (U:Am W' s F p.1 H P q most last G) (V:Ad W (FB F bl) W' (FB F bl)) (Z:Tk N W' s t F bl b2 v' st'):Ha N M W' s t F bl b2 vb H P q most last G p.1 p.2.1.reverse/\p.2.2<18446744073709551616:=by
 have I:p.2.1.reverse=st' :=by rw [<-O,List.reverse_reverse]
 have aa:(Ba p.1/\(∀x∈st',x∈st)/\st'.length<=st.length)/\p.2.2<18446744073709551616:=by
  rcases List.eq_nil_or_concat st with e|⟨l,x,e⟩
  . subst e
    subst hp;have:st' = []:=(by rw [<-I];rfl);subst this;exact⟨⟨h.sh,λx hx=>hx,Nat.le_refl _⟩,by show 0<_;decide⟩
  . rw [List.concat_eq_append] at e
    subst e;have ab:DG R t (l++ [x]).reverse n=(Bq R t x n,l.reverse,x):=(by simp [DG]);rw [ab] at hp;subst hp;have:st' =l:=(by rw [<-I];simp);subst this;exact⟨⟨Cr J h.sh,λx hx=>by simp [hx],by simp⟩,h.QS x (by simp)⟩
 obtain⟨⟨q1,ac,ae⟩,af⟩:=aa;refine⟨?_,af⟩;rw [I]
 exact { h with
  str:=U
  lo:=h.lo.keep (V.keep s h.str.FN (λd=>by rcases d with d|d;exact h.str.X6 d;have:=h.hN.1;have:=h.J5;omega))
  tk:=⟨v',h1,Z⟩
  sh:=q1
  QS:=λx hx=>h.QS x (ac x hx)
  len:=Nat.le_trans ae h.len }
structure Lp(A W:World)(b18 b19:Nat)(l1 l2 l3 r1 r2 r3:Value)(z:Nat):Prop where
 low:Below A.heap.size A W
 QT:An W b18 100 [l1,l2,l3, .int .u64 0]
 KA:An W b19 100 [r1,r2,r3, .int .u64 z]
def Ym{P}(h:P:=by
 have aT:=Zh (al.trans (ah.mono al.size));exact aT):=h
def QI{P}(h:P:=by
 have d:=Zh aE;have I:=Zh (And.intro az aF);exact And.intro d I):=h
