/- A part. -/
import Derived.Test.YtiopopoohglepaaGreatDoorPMw
set_option linter.all false
namespace Go.Proofs.YtiopopoohglepaaGreatDoor
open Go.Proofs.Tryz
open Go Go.RowKit
variable {i id j k:Nat}{v:Value}{w:World}
inductive Tr where
 |nil
 |r (i:Nat) (t:Tr)
 |m (i:Nat) (t:Tr)
 |a (k:Nat) (t:Tr)
 |two (i:Nat) (s:Tr) (j:Nat) (t:Tr)
 |three (i:Nat) (s:Tr) (j:Nat) (t:Tr) (k:Nat) (u:Tr)
section
variable {lt mv:List Nat} {P:Program} {ops:Array Oper} {md:Region.Mode} {Q:Exit->Act->World->Prop} {C:World->Prop}
def M7(md:Region.Mode)(ops:Array Oper):Nat->Nat->Nat->Bool
 |0,_,_=>false
 |f+1,k,i=>match ops[k]? with
  |none=>false
  |some o=>o.after.any λe=>Region.binds md e&&(e.on==i||M7 md ops f e.on i)
def Jw(md:Region.Mode)(ops:Array Oper)(listed:Array Bool):Prop:=
 ∀m o,ops[m]? =some o->listed.getD m false=true-> ∀e∈o.after,Region.binds md e=true->listed.getD e.on false=true
theorem E4{listed:Array Bool}(O:Jw md ops listed): ∀(f k i:Nat),(∀o,ops[k]? =some o-> ∀e∈o.after,Region.binds md e=true->listed.getD e.on false=true)->M7 md ops f k i=true->listed.getD i false=true
 |0,_,_,_,h=>by simp [M7] at h
 |f+1,k,i,hk,h=>by
  unfold M7 at h
  cases J:ops[k]? with
  |none=>rw [J] at h;cases h
  |some o=>
   rw [J] at h;simp only [Array.any_eq_true',Bool.and_eq_true,Bool.or_eq_true,beq_iff_eq] at h;obtain⟨e,h1,V,I⟩:=h;have U:=hk o J e h1 V;rcases I with I|I
   . rw [<-I];exact U
   . exact E4 O f e.on i (λZ aa =>O e.on Z aa U) I
theorem Jw.list{listed:Array Bool}(V:Jw md ops listed)(Z:j∈Region.ready md ops listed):Jw md ops (listed.setIfInBounds j true):=by
 obtain⟨aa,ae,ab,ac⟩:=mem_ready.1 Z;have up: ∀x,listed.getD x false=true->(listed.setIfInBounds j true).getD x false=true:=λx hx=>by
  by_cases J:j=x
  . subst J;rw [getD_both aa] at hx;cases hx
  . rw [getD_set_ne false J];exact hx
 intro m o I hm e he O;by_cases U:j=m
 . subst U
   rw [ab] at I
   cases I
   exact up _ (ac e he O)
 . rw [getD_set_ne false U] at hm
   exact up _ (V m o I hm e he O)
def JZ(md:Region.Mode)(ops:Array Oper)(lt mv:List Nat):Bool:=lt.all λk=>mv.contains k||((lt.any λj=>decide (j<k)&&(!mv.contains j&&M7 md ops 3 k j))||(List.range ops.size).all λi=>lt.contains i||M7 md ops 7 k i)
theorem Mv{listed:Array Bool}(h:JZ md ops lt mv=true)(J:Jw md ops listed){i:Nat}(hi:i<ops.size)(U:i∉lt): ∀n k,k<n->k∈lt->k∉mv->(∀o,ops[k]? =some o-> ∀e∈o.after,Region.binds md e=true->listed.getD e.on false=true)->listed.getD i false=true
 |0,k,hk,_,_,_=>absurd hk (Nat.not_lt_zero _)
 |n+1,k,hk,hm,hmv,hall=>by
  have I:=h;unfold JZ at I;have I:=List.all_eq_true.1 I k hm;simp only [Bool.or_eq_true,List.contains_iff_mem] at I;rcases I.resolve_left hmv with I|I
  . obtain⟨j,V,O⟩:=List.any_eq_true.1 I
    simp only [Bool.and_eq_true,decide_eq_true_eq,Bool.not_eq_true'] at O;have Z:=E4 J 3 k j hall O.2.2;exact Mv h J hi U n j (by omega) V (λhm=>by have:=O.2.1;rw [List.contains_iff_mem.2 hm] at this;cases this) (λo aa=>J j o aa Z)
  . simp only [List.all_eq_true,List.mem_range,Bool.or_eq_true,List.contains_iff_mem] at I
    exact E4 J 7 k i hall ((I i hi).resolve_left U)
def CF(P:Program)(md:Region.Mode)(ops:Array Oper)(Q:Exit->Act->World->Prop)(C:World->Prop)(lt:List Nat):Nat->Array Bool->Act->World->Prop
 |0,listed,a,w=>Region.ready md ops listed= []/\Q .normal a w
 |f+1,listed,a,w=>
  (Region.ready md ops listed= []->Q .normal a w)/\
  ∀i∈Region.ready md ops listed,wpOp P ops Q i (λa' w' =>(i∉lt->C w')/\CF P md ops Q C lt f (listed.setIfInBounds i true) a' w') a w
theorem CF.any: ∀(f:Nat) (listed:Array Bool) (a:Act) (w:World),CF P md ops Q C lt f listed a w->wpAny P md ops Q f listed a w
 |0,_,_,_,h=>h
 |f+1,listed,a,w,h=>⟨h.1,λi hi=>wpOp_mono (λa' w' I =>CF.any f _ a' w' I.2) (h.2 i hi)⟩
theorem Wj{listed:Array Bool}{x:Nat}(h:listed.getD x false=true)(j:Nat):(listed.setIfInBounds j true).getD x false=true:=by
 by_cases e:j=x
 . subst e
   have J:j<listed.size:=by
    rcases Nat.lt_or_ge j listed.size with I|I
    . exact I
    . rw [Array.getD,dif_neg (by omega)] at h;cases h
   simp [Array.getD,J]
 . rw [getD_set_ne false e];exact h
theorem Ea{J:Oper}(au:JZ md ops lt mv=true)(aw:i∉lt)(hi:ops[i]? =some J)(an: ∀(j:Nat) (o:Oper) cs b,ops[j]? =some o->o.op≠ .select cs b)
 (ax: ∀c a w,Q (.panic c) (a.put J.dst v) w->Q (.panic c) a w):
 ∀(f:Nat) (listed:Array Bool) (a:Act) (w:World),
  (∀j I,ops[j]? =some I->j≠i->listed.getD j true=false->(∀e∈I.after,Region.binds md e=true->e.on≠i)->J.apart ops I=true)->
  i∈Region.ready md ops listed->Jw md ops listed->(∀x∈mv,listed.getD x false=true\/M7 md ops 7 x i=true)->BX P ops C J v a->C w->
  CF P md ops Q C lt f (listed.setIfInBounds i true) (a.put J.dst v) w->CF P md ops Q C lt (f+1) listed a w:=by
 intro f
 induction f with
 |zero=>
  intro listed a w _ ae hN am al ah H;refine⟨λh=>(by rw [h] at ae;cases ae),λj U=> ?_⟩;by_cases O:j=i
  . subst O;exact al.op hi ah ⟨λ_=>ah,H⟩
  . exact YE
 |succ f ih=>
  intro listed a w ab ae hN am al ah H;refine⟨λh=>(by rw [h] at ae;cases ae),λj U=> ?_⟩;by_cases O:j=i
  . subst O;exact al.op hi ah ⟨λ_=>ah,H⟩
  . have h1:=H.2 j (ready_mono U O)
    obtain⟨Z,I,ai,ac⟩:=mem_ready.1 U;have V:=(mem_ready.1 ae).1;have ay:=Wa;have az:=H5 (C:=C) ai (ab j I ai O Z ay) (λcs b=>an i J cs b hi) (λcs b=>an j I cs b ai) ax al h1;have aA:=Xi;refine wpOp_mono (λa' w' aa=> ?_) az;have aB:j∉lt:=λhm=>by
     have ao:=Mv au hN (Array.getElem?_eq_some_iff.1 hi).1 aw (j+1) j (Nat.lt_succ_self j) hm (λhx=>by
      rcases am j hx with ag|ag
      . rw [getD_both Z] at ag;cases ag
      . have aq:=E4 hN 7 j i (λo aj=>by rw [ai] at aj;cases aj;exact ac) ag
        rw [getD_both V] at aq;cases aq) (λo aj=>by rw [ai] at aj;cases aj;exact ac)
     rw [getD_both V] at ao
     cases ao
    have ar :C w' :=aa.2.1 aB;refine⟨λ_=>ar,ih (listed.setIfInBounds j true) a' w' aA (ready_mono ae (Ne.symm O)) (hN.list U) (λx hx=>(am x hx).imp (λag=>Wj ag j) id) aa.1 ar ?_⟩;exact Z6
def BC(md:Region.Mode)(ops:Array Oper)(lt mv:List Nat):Tr->Nat->Bool->Array Bool->Bool
 | .nil,n,z,listed=>decide (n=0)&&(Region.ready md ops listed).isEmpty
 | .r i t,n,z,listed=>match n with
   |0=>false
   |n+1=> !z&&(!lt.contains i&&(mv.all λk=>listed.getD k false||M7 md ops 7 k i))&&(Region.ready md ops listed).contains i&&Region.free md ops listed i&&BC md ops lt mv t n z (listed.setIfInBounds i true)
 | .m i t,n,z,listed=>match n with
   |0=>false
   |n+1=>lt.contains i&&(Region.ready md ops listed).contains i&&Region.free md ops listed i&&BC md ops lt mv t n z (listed.setIfInBounds i true)
 | .a k t,n,z,listed=>match n with
   |0=>false
   |n+1=>(!z||lt.contains k)&&decide (Region.ready md ops listed= [k])&&BC md ops lt mv t n (lt.contains k) (listed.setIfInBounds k true)
 | .two i s j t,n,z,listed=>match n with
   |0=>false
   |n+1=> !z&& !lt.contains i&& !lt.contains j&&decide (Region.ready md ops listed= [i,j])&&BC md ops lt mv s n z (listed.setIfInBounds i true)&&BC md ops lt mv t n z (listed.setIfInBounds j true)
 | .three i s j t k u,n,z,listed=>match n with
   |0=>false
   |n+1=> !z&& !lt.contains i&& !lt.contains j&& !lt.contains k&&decide (Region.ready md ops listed= [i,j,k])&&BC md ops lt mv s n z (listed.setIfInBounds i true)&&BC md ops lt mv t n z (listed.setIfInBounds j true)&&BC md ops lt mv u n z (listed.setIfInBounds k true)
def A2(P:Program)(ops:Array Oper)(Q:Exit->Act->World->Prop)(lt:List Nat):Tr->(World->Prop)->Act->World->Prop
 | .nil,_,a,w=>Q .normal a w
 | .r i t,C,a,w=> ∃o v,ops[i]? =some o/\BX P ops C o v a/\A2 P ops Q lt t C (a.put o.dst v) w
 | .m i t,C,a,w=> ∃o v,ops[i]? =some o/\BX P ops (λ_=>True) o v a/\A2 P ops Q lt t C (a.put o.dst v) w
 | .a k t,C,a,w=> ∃o,ops[k]? =some o/\wpList P ops (Qr (λa' w' =>(k∉lt->C w')/\A2 P ops Q lt t C a' w') Q) [o] a w
 | .two i s j t,C,a,w=>(∃o,ops[i]? =some o/\wpList P ops (Qr (λa' w' =>C w' /\A2 P ops Q lt s C a' w') Q) [o] a w)/\
   ∃o,ops[j]? =some o/\wpList P ops (Qr (λa' w' =>C w' /\A2 P ops Q lt t C a' w') Q) [o] a w
 | .three i s j t k u,C,a,w=>(∃o,ops[i]? =some o/\wpList P ops (Qr (λa' w' =>C w' /\A2 P ops Q lt s C a' w') Q) [o] a w)/\
   (∃o,ops[j]? =some o/\wpList P ops (Qr (λa' w' =>C w' /\A2 P ops Q lt t C a' w') Q) [o] a w)/\
   ∃o,ops[k]? =some o/\wpList P ops (Qr (λa' w' =>C w' /\A2 P ops Q lt u C a' w') Q) [o] a w
theorem AG{a:Act}(h:Q .normal a w):A2 P ops Q lt .nil C a w:=h
theorem Eu{s:Tr}{a:Act}(o:Oper)(v:Value)(hi:ops[i]? =some o)(h1:Region.wanted o (yielded ops a.tmps)=true)(I: ∀w,C w->(execOp a.eval o).run P w= .ok (.value v) w)(h:A2 P ops Q lt s C (a.put o.dst v) w):A2 P ops Q lt (.r i s) C a w:=
 ⟨o,v,hi, .inl ⟨h1,I⟩,h⟩
theorem AD{s:Tr}{a:Act}{o:Oper}(h:A2 P ops Q lt s C (a.put o.dst v) w)(hi:ops[i]? =some o:=by exact rfl)(h1:Region.wanted o (yielded ops a.tmps)=true:=by exact rfl)(I: ∀w,C w->(execOp a.eval o).run P w= .ok (.value v) w:=by rintro _ ⟨X,rfl⟩;go_simp;exact rfl):A2 P ops Q lt (.r i s) C a w:=
 Eu o v hi h1 I h
theorem E0{s:Tr}{a:Act}(o:Oper)(v:Value)(hi:ops[i]? =some o)(h1:Region.wanted o (yielded ops a.tmps)=true)(I: ∀w,(execOp a.eval o).run P w= .ok (.value v) w)(h:A2 P ops Q lt s C (a.put o.dst v) w):A2 P ops Q lt (.m i s) C a w:=⟨o,v,hi, .inl ⟨h1,λw _=>I w⟩,h⟩
theorem Ao{s:Tr}{a:Act}(o:Oper)(I:ops[k]? =some o)(h: ∀K:Act->World->Prop,(∀a' w',C w' ->A2 P ops Q lt s C a' w' ->K a' w')->wpList P ops (Qr K Q) [o] a w):A2 P ops Q lt (.a k s) C a w:=
 ⟨o,I,h _ (λ_ _ h1 J=>⟨λ_=>h1,J⟩)⟩
theorem AA{s:Tr}{a:Act}(o:Oper)(I:ops[k]? =some o)(J:k∈lt)(h: ∀K:Act->World->Prop,(∀a' w',A2 P ops Q lt s C a' w' ->K a' w')->wpList P ops (Qr K Q) [o] a w):A2 P ops Q lt (.a k s) C a w:=
 ⟨o,I,h _ (λ_ _ O=>⟨λU=>absurd J U,O⟩)⟩
theorem Bf{s t:Tr}{a:Act}(o J :Oper)(hi:ops[i]? =some o)(O:ops[j]? =some J)
 (h1: ∀K:Act->World->Prop,(∀a' w',C w' ->A2 P ops Q lt s C a' w' ->K a' w')->wpList P ops (Qr K Q) [o] a w)
 (I: ∀K:Act->World->Prop,(∀a' w',C w' ->A2 P ops Q lt t C a' w' ->K a' w')->wpList P ops (Qr K Q) [J] a w):A2 P ops Q lt (.two i s j t) C a w:=
 ⟨⟨o,hi,h1 _ (λ_ _ h1 I=>⟨h1,I⟩)⟩,⟨J,O,I _ (λ_ _ h1 I=>⟨h1,I⟩)⟩⟩
theorem G4{s t u:Tr}{a:Act}(o J O :Oper)(hi:ops[i]? =some o)(U:ops[j]? =some J)(V:ops[k]? =some O)
 (h1: ∀K:Act->World->Prop,(∀a' w',C w' ->A2 P ops Q lt s C a' w' ->K a' w')->wpList P ops (Qr K Q) [o] a w)
 (I: ∀K:Act->World->Prop,(∀a' w',C w' ->A2 P ops Q lt t C a' w' ->K a' w')->wpList P ops (Qr K Q) [J] a w)
 (Z: ∀K:Act->World->Prop,(∀a' w',C w' ->A2 P ops Q lt u C a' w' ->K a' w')->wpList P ops (Qr K Q) [O] a w):A2 P ops Q lt (.three i s j t k u) C a w:=
 ⟨⟨o,hi,h1 _ (λ_ _ h1 I=>⟨h1,I⟩)⟩,⟨J,U,I _ (λ_ _ h1 I=>⟨h1,I⟩)⟩,⟨O,V,Z _ (λ_ _ h1 I=>⟨h1,I⟩)⟩⟩
theorem Ro{J:Oper}(ai:i∈lt)(hi:ops[i]? =some J)(aj: ∀(j:Nat) (o:Oper) cs b,ops[j]? =some o->o.op≠ .select cs b)
 (al: ∀c a w,Q (.panic c) (a.put J.dst v) w->Q (.panic c) a w):
 ∀(f:Nat) (listed:Array Bool) (a:Act) (w:World),
  (∀j I,ops[j]? =some I->j≠i->listed.getD j true=false->(∀e∈I.after,Region.binds md e=true->e.on≠i)->J.apart ops I=true)->
  i∈Region.ready md ops listed->BX P ops (λ_=>True) J v a->
  CF P md ops Q C lt f (listed.setIfInBounds i true) (a.put J.dst v) w->CF P md ops Q C lt (f+1) listed a w:=by
 intro f
 induction f with
 |zero=>
  intro listed a w _ ae ag H;refine⟨λh=>(by rw [h] at ae;cases ae),λj U=> ?_⟩;by_cases O:j=i
  . subst O;exact ag.op hi trivial ⟨λh=>absurd ai h,H⟩
  . exact YE
 |succ f ih=>
  intro listed a w ab ae ag H;refine⟨λh=>(by rw [h] at ae;cases ae),λj U=> ?_⟩;by_cases O:j=i
  . subst O;exact ag.op hi trivial ⟨λh=>absurd ai h,H⟩
  . have h1:=H.2 j (ready_mono U O)
    obtain⟨Z,I,ah,ac⟩:=mem_ready.1 U;have V:=(mem_ready.1 ae).1;have am:=Wa;have an:=H5 (C:=λ_=>True) ah (ab j I ah O Z am) (λcs b=>aj i J cs b hi) (λcs b=>aj j I cs b ah) al ag h1;have ao:=Xi;refine wpOp_mono (λa' w' aa=> ?_) an;refine⟨aa.2.1,ih (listed.setIfInBounds j true) a' w' ao (ready_mono ae (Ne.symm O)) aa.1 ?_⟩;exact Z6
theorem Be(Z:JZ md ops lt mv=true)(U:Region.noSelect ops=true)(V: ∀c a d v w,Q (.panic c) (Act.put a d v) w->Q (.panic c) a w):
 ∀(s:Tr) (n:Nat) (z:Bool) (listed:Array Bool) (a:Act) (w:World),(z=false->C w)->Jw md ops listed->BC md ops lt mv s n z listed=true->A2 P ops Q lt s C a w->CF P md ops Q C lt n listed a w
 | .nil,n,z,listed,a,w,hC,hN,I,h=>by
   simp only [BC,Bool.and_eq_true,decide_eq_true_eq] at I;obtain⟨rfl,I⟩:=I;exact⟨by simpa using I,h⟩
 | .r i s,0,z,listed,a,w,hC,hN,I,h=>by simp [BC] at I
 | .r i s,n+1,z,listed,a,w,hC,hN,I,h=>by
   obtain⟨o,v,h0,ae,af⟩:=h;simp only [BC,Bool.and_eq_true,Bool.not_eq_true'] at I;obtain⟨⟨⟨⟨aa,ab,ao⟩,J⟩,ag⟩,ah⟩:=I;exact Ea Z (by simpa using ab) h0 (Region.noSelect_spec U) (λc a w h=>V c a _ _ w h) n listed a w (Region.free_spec h0 ag) (by simpa using J) hN (λx hx=>by
    have an:=List.all_eq_true.1 ao x hx;rw [Bool.or_eq_true] at an;exact an) ae (hC aa)
    (Be Z U V s n z _ _ w hC (hN.list (by simpa using J)) ah af)
 | .m i s,0,z,listed,a,w,hC,hN,I,h=>by simp [BC] at I
 | .m i s,n+1,z,listed,a,w,hC,hN,I,h=>by
   obtain⟨o,v,h0,ae,af⟩:=h;simp only [BC,Bool.and_eq_true] at I;obtain⟨⟨⟨ab,J⟩,ag⟩,ah⟩:=I
   exact Ro (by simpa using ab) h0 (Region.noSelect_spec U) (λc a w h=>V c a _ _ w h) n listed a w (Region.free_spec h0 ag) (by simpa using J) ae
    (Be Z U V s n z _ _ w hC (hN.list (by simpa using J)) ah af)
 | .a k s,0,z,listed,a,w,hC,hN,I,h=>by simp [BC] at I
 | .a k s,n+1,z,listed,a,w,hC,hN,I,h=>by
   obtain⟨o,h0,h⟩:=h;simp only [BC,Bool.and_eq_true,Bool.or_eq_true,decide_eq_true_eq] at I;refine⟨λh1=>(by rw [I.1.2] at h1;cases h1),λi hi=> ?_⟩;rw [I.1.2] at hi;obtain rfl:i=k:=by simpa using hi
   exact wpOp_mono (λa' w' ⟨h1,O⟩=>⟨h1,Be Z U V s n _ _ a' w' (λaa=>h1 (by simpa using aa)) (hN.list (by rw [I.1.2];simp)) I.2 O⟩) (Dl h0 h)
 | .two i s j t,0,z,listed,a,w,hC,hN,I,h=>by simp [BC] at I
 | .two i s j t,n+1,z,listed,a,w,hC,hN,I,h=>by
   obtain⟨⟨o,h0,h⟩,⟨aq,ai,aj⟩⟩:=h;simp only [BC,Bool.and_eq_true,decide_eq_true_eq,Bool.not_eq_true'] at I;obtain⟨⟨⟨⟨⟨aa,ab⟩,ar⟩,J⟩,hs⟩,al⟩:=I;refine⟨λh1=>(by rw [J] at h1;cases h1),λq ac=> ?_⟩;rw [J] at ac;have am:q=i\/q=j:=(by simpa using ac);rcases am with rfl|rfl
   . exact wpOp_mono (λa' w' ⟨h1,O⟩=>⟨λ_=>h1,Be Z U V s n z _ a' w' (λ_=>h1) (hN.list (by rw [J];simp)) hs O⟩) (Dl h0 h)
   . exact wpOp_mono (λa' w' ⟨h1,O⟩=>⟨λ_=>h1,Be Z U V t n z _ a' w' (λ_=>h1) (hN.list (by rw [J];simp)) al O⟩) (Dl ai aj)
 | .three i s j t k u,0,z,listed,a,w,hC,hN,I,h=>by simp [BC] at I
 | .three i s j t k u,n+1,z,listed,a,w,hC,hN,I,h=>by
   obtain⟨⟨o,h0,h⟩,⟨aq,ai,aj⟩,⟨ax,au,aw⟩⟩:=h;simp only [BC,Bool.and_eq_true,decide_eq_true_eq,Bool.not_eq_true'] at I;obtain⟨⟨⟨⟨⟨⟨⟨aa,ab⟩,ar⟩,ay⟩,J⟩,hs⟩,al⟩,hu⟩:=I;refine⟨λh1=>(by rw [J] at h1;cases h1),λq ac=> ?_⟩;rw [J] at ac;have am:q=i\/q=j\/q=k:=(by simpa using ac);rcases am with rfl|rfl|rfl
   . exact wpOp_mono (λa' w' ⟨h1,O⟩=>⟨λ_=>h1,Be Z U V s n z _ a' w' (λ_=>h1) (hN.list (by rw [J];simp)) hs O⟩) (Dl h0 h)
   . exact wpOp_mono (λa' w' ⟨h1,O⟩=>⟨λ_=>h1,Be Z U V t n z _ a' w' (λ_=>h1) (hN.list (by rw [J];simp)) al O⟩) (Dl ai aj)
   . exact wpOp_mono (λa' w' ⟨h1,O⟩=>⟨λ_=>h1,Be Z U V u n z _ a' w' (λ_=>h1) (hN.list (by rw [J];simp)) hu O⟩) (Dl au aw)
theorem Cn{a:Act}{l:List Oper}(C:World->Prop)(lt mv:List Nat)(s:Tr)(hm:P.follows .mixedOrders=true)(I:Region.noSelect l.toArray=true)(J:JZ .any l.toArray lt mv=true)
 (O:BC .any l.toArray lt mv s l.length false (Array.replicate l.toArray.size false)=true) (U:C { w with drawn:=w.drawn+1 }) (V: ∀c a d v w,Q (.panic c) (Act.put a d v) w->Q (.panic c) a w)
 (h:A2 P l.toArray Q lt s C a { w with drawn:=w.drawn+1 }):(Code.region id l.toArray true).wp P Q a w:=by
 refine wp_region_any hm (CF.any (C:=C) (lt:=lt) _ _ _ _ ?_);have:=Be (md:= .any) J I V s l.length false (Array.replicate l.toArray.size false) a _ (λ_=>U) (λm o Z hm=>by have aa:=(Array.getElem?_eq_some_iff.1 Z).1;simp [Array.getD] at hm) O h
 simpa using this
theorem CR{a:Act}{l:List Oper}(C:World->Prop)(lt:List Nat)(s:Tr)(hm:P.follows .mixedOrders=true)(I:Region.noSelect l.toArray=true)(J:JZ .any l.toArray lt []=true)
 (O:BC .any l.toArray lt [] s l.length false (Array.replicate l.toArray.size false)=true) (U:C { w with drawn:=w.drawn+1 }) (V: ∀c a d v w,Q (.panic c) (Act.put a d v) w->Q (.panic c) a w)
 (h:A2 P l.toArray Q lt s C a { w with drawn:=w.drawn+1 }):(Code.region id l.toArray true).wp P Q a w:=
 Cn C lt [] s hm I J O U V h
theorem AB{a:Act}{l:List Oper}(C:World->Prop)(lt:List Nat)(s:Tr)(I:C { w with drawn:=w.drawn+1 })(h:A2 P l.toArray Q lt s C a { w with drawn:=w.drawn+1 })(hm:P.follows .mixedOrders=true:=by kernel_rfl)(J:Region.noSelect l.toArray=true:=by kernel_rfl)(O:JZ .any l.toArray lt []=true:=by kernel_rfl)(U:BC .any l.toArray lt [] s l.length false (Array.replicate l.toArray.size false)=true:=by kernel_rfl)(V: ∀c a d v w,Q (.panic c) (Act.put a d v) w->Q (.panic c) a w:=by intro _ _ d _ _ h;cases d<;>exact h):(Code.region id l.toArray true).wp P Q a w:=
 CR C lt s hm J O U I V h
end
end Go.Proofs.YtiopopoohglepaaGreatDoor
namespace Go.Proofs.YtiopopoohglepaaGreatDoor
open Go.Proofs.Tryz
open Go.RowKit Go.Shelf
variable {B G M N P ak av b b13 b2 bl f h k last most q s t x:Nat}{F bn:Nat->Prop}{H l l1 l2 l3 st:List Nat}{R:Zr}{W W' w:World}{n:BN}{v' v1 v2 v3 vi vk vv:Value}
structure Lo(M:Nat)(w:World)(s:Nat)(F:Nat->Prop):Prop where
 h: ∃ha,w.cell? ⟨s,3,none⟩=some (.pointer (some ⟨ha,0,none⟩))/\ha<M
 s:s<M
 t:1<M
 F: ∀b,F b->b<M
section
variable {w':World}     
theorem Ah.lo(h:Ah w s F R H P q most last G):Lo w.heap.size w s F:=by
 refine⟨?_,h.FP, ?_,λb I=>h.lt I⟩
 . obtain⟨a,ha,t,v,L,mem,sl,Fh,h⟩:=h
   refine⟨ha,h.ch, ?_⟩;exact Yeg
 . obtain⟨a,ha,t,v,L,mem,sl,Fh,h⟩:=h
   exact Ycm
theorem Lo.keep(h:Lo M w s F)(I:w'.heap[s]? =w.heap[s]?):Lo M w' s F:=by
 obtain⟨⟨ha,h1,J⟩,O,U,V⟩:=h;exact⟨⟨ha,(World.cell?_of_block (a:=⟨s,3,none⟩) I).trans h1,J⟩,O,U,V⟩
theorem Lo.low(h:Lo M w s F)(I:Below M w w'):Lo M w' s F:=h.keep (I.block s h.s)
theorem Ah.low(h:Ah w s F R H P q most last G)(ab:Lo M w s F)(V:Below M w w'):Ah w' s F R H P q most last G:=by
 obtain⟨a,ha,t,v,L,mem,sl,Fh,h⟩:=h;obtain⟨⟨ac,h1,ae⟩,O,af,Z⟩:=ab;rw [h.ch] at h1;have hh:ha=ac :=by simpa using h1
 subst hh;have aa:=h.Gu;have J:=KB.GN V (Nat.le_refl M);have I: ∀b,b<M-> ¬(M<=b):=λb V=>by omega
 exact⟨a,ha,t,v,L,mem,sl,Fh,{ h with
  ca:=J.cell h.ca (I _ O)
  ch:=J.cell h.ch (I _ O)
  ct:=J.cell h.ct (I _ O)
  heap:=h.heap.kb J (λk U=>I k (Z k (by rw [aa];exact .inl U))) (I _ ae) (I _ af)
  tab:=h.tab.kb J (λb U=>I b (Z b (by rw [aa];exact .inr U))) }⟩
end
structure G8(N M:Nat)(W:World)(s t:Nat)(F:Nat->Prop)(bl b2:Nat)(vb:Option Nat)(H:List Nat)(P q most last G:Nat)(R:Zr)(st:List Nat):Prop where
 str:Ah W s F R H P q most last G
 lo:Lo M W s F
 tk: ∃v,v.ownBlock=vb/\Tk N W s t F bl b2 v st
 l1:bl<M
 l2:b2<M
 l3: ∀k,vb=some k->k<M
 sh:A6 R
 Q0: ∀x∈st,x<18446744073709551616
 len:st.length<=100000
 hN:s<N/\1<N
 J7:N<=bl
section
variable  {w':World}    {vb:Option Nat}   {R':Zr} {st':List Nat}
theorem HC{T:TypeId}{vs:List Value}(h:An W b T vs)(I:Below M W W')(J:b<M):An W' b T vs:=h.block (I.block b J)
theorem G8.low(h:G8 N M W s t F bl b2 vb H P q most last G R st)(I:Below M W W'):G8 N M W' s t F bl b2 vb H P q most last G R st:=by
 obtain⟨v,e,k⟩:=h.tk
 exact { h with
  str:=h.str.low h.lo I
  lo:=h.lo.low I
  tk:=⟨v,e,HC k.bx I h.l1,HC k.Ju I h.l2,Eo k.row λz J=>I.block z (h.l3 z (e▸J)),k.fl,k.f2,k.fr,k.ne⟩ }
theorem G8.fb(h:G8 N M W s t F bl b2 vb H P q most last G R st): ∀b,FB F bl b->b<M:=λb I=>by
 rcases I with I|I
 . exact h.lo.F b I
 . rw [I];exact h.l1
theorem G8.Aq(h:G8 N M W s t F bl b2 vb H P q most last G R st)(hs:Ah W' s F R' H P q most last G)(I:Ad W F W' F)(J:A6 R'):G8 N M W' s t F bl b2 vb H P q most last G R' st:=by
 obtain⟨v,e,k⟩:=h.tk
 exact { h with
  str:=hs
  lo:=h.lo.keep (I.keep s h.str.FP h.str.Yx)
  tk:=⟨v,e,k.Aq I⟩
  sh:=J }
theorem Ad.low(I:Ad w F W F)(J:Below w.heap.size W W'):Ad w F W' F:=
 ⟨J.os.trans I.os,J.tape.trans I.tape,J.output.trans I.output,Nat.le_trans I.size J.size,λk O U=>(J.block k O).trans (I.keep k O U),λ_ h=> .inl h⟩
theorem AS.Aq(h:AS W B v1 l1 v2 l2 v3 l3)(I:Ad W F W' F)(J: ∀b,F b->b<B):AS W' B v1 l1 v2 l2 v3 l3:=
 h.keep λb V O=>I.keep b O λU=>by have:=J b U;omega
theorem Ct(I:BN.A0 t)(h:A6 R):A6 (Bp R t x n):=by
 unfold Bp
 split
 . refine h.B7 x _ λws hw=> ?_
   cases hw
   rw [BN.B0];have:=I.2;omega
 . exact h
theorem AS.K1(h:AS W B v1 l1 v2 l2 v3 l3)(J:W'.ownsRow B 23 1 v' l.length (AF l))(hw:Rw W W' v1.ownBlock v'.ownBlock):AS W' B v' l v2 l2 v3 l3:=by
 have I: ∀(u:Value) (m:List Nat),W.ownsRow B 23 1 u m.length (AF m)->Fk v1 u->W'.ownsRow B 23 1 u m.length (AF m)/\Fk v' u:=λu m hu ha=>by
  refine⟨CL hu λb O=>hw.1.block b (BM hu O).2 (λe=>ha b e.symm O),λb O he=> ?_⟩;rcases hw.2 with h1|h1
  . rw [h1] at O;exact ha b O he
  . have:=h1 b O
    have:=(BM hu he).2;omega
 exact Yek
theorem AS.Aag(h:AS W B v1 l1 v2 l2 v3 l3)(I:W'.ownsRow B 23 1 v' l.length (AF l))(hw:Rw W W' v2.ownBlock v'.ownBlock):AS W' B v1 l1 v' l v3 l3:=(h.Ei.K1 I hw).Ei
theorem AS.Aak(h:AS W B v1 l1 v2 l2 v3 l3)(I:W'.ownsRow B 23 1 v' l.length (AF l))(hw:Rw W W' v3.ownBlock v'.ownBlock):AS W' B v1 l1 v2 l2 v' l:=(h.Fl.K1 I hw).Fl
structure Rows(A:World)(B:Nat)(bn:Nat->Prop)(W:World)(v1:Value)(l1:List Nat)(v2:Value)(l2:List Nat)(v3:Value)(l3:List Nat):Prop where
 own:AS W B v1 l1 v2 l2 v3 l3
 size:A.heap.size<=W.heap.size
 blt: ∀b,bn b->b<A.heap.size
 low:Below B A W
 off: ∀b,v1.ownBlock=some b\/v2.ownBlock=some b\/v3.ownBlock=some b-> ¬bn b
 box: ∀b,bn b->W.heap[b]? =A.heap[b]?
section
variable {A:World}    
theorem Rows.start(h:AS A B v1 l1 v2 l2 v3 l3)(I: ∀b,bn b->b<A.heap.size)(J: ∀b,v1.ownBlock=some b\/v2.ownBlock=some b\/v3.ownBlock=some b-> ¬bn b)(O:B<=A.heap.size):Rows A B bn A v1 l1 v2 l2 v3 l3:=
 ⟨h,Nat.le_refl _,I,(Below.refl _ _).mono O,J,λ_ _=>rfl⟩
theorem Rows.below(h:Rows A B bn W v1 l1 v2 l2 v3 l3)(O:B<=A.heap.size)(I:Below W.heap.size W W'):Rows A B bn W' v1 l1 v2 l2 v3 l3:=
 ⟨h.own.below I,Nat.le_trans h.size I.size,h.blt,h.low.trans (I.mono (Nat.le_trans O h.size)),h.off,λb J=>(I.block b (Nat.lt_of_lt_of_le (h.blt b J) h.size)).trans (h.box b J)⟩
theorem Rows.Ei(h:Rows A B bn W v1 l1 v2 l2 v3 l3):Rows A B bn W v2 l2 v1 l1 v3 l3:=⟨h.own.Ei,h.size,h.blt,h.low,λb I=>h.off b (by rcases I with I|I|I<;>simp [I]),h.box⟩
theorem Rows.Fl(h:Rows A B bn W v1 l1 v2 l2 v3 l3):Rows A B bn W v3 l3 v2 l2 v1 l1:=⟨h.own.Fl,h.size,h.blt,h.low,λb I=>h.off b (by rcases I with I|I|I<;>simp [I]),h.box⟩
theorem Rows.K1(h:Rows A B bn W v1 l1 v2 l2 v3 l3)(O:W'.ownsRow B 23 1 v' l.length (AF l))(hw:Rw W W' v1.ownBlock v'.ownBlock)(U:B<=A.heap.size):Rows A B bn W' v' l v2 l2 v3 l3:=by
 have V:Below B W W' :=hw.low (Nat.le_trans U h.size) λk Z=>(BM h.own.r1 Z).1
 refine⟨h.own.K1 O hw,Nat.le_trans h.size hw.1.size,h.blt,h.low.trans V,λb I=> ?_,λb J=>(hw.1.block b (Nat.lt_of_lt_of_le (h.blt b J) h.size) (λe=>h.off b (.inl e.symm) J)).trans (h.box b J)⟩;rcases I with I|I|I
 . rcases hw.2 with h1|h1
   . exact h.off b (.inl (h1▸I))
   . intro J;have:=h1 b I;have:=h.blt b J;have:=h.size;omega
 . exact h.off b (.inr (.inl I))
 . exact h.off b (.inr (.inr I))
end
end
structure Hv(W:World)(vb x:Nat)(v1 v2 v3:Value):Prop where
 h:W.heap[vb]? =some (.cells #[.int .u64 x] 23 (0,0))
 n1:v1.ownBlock≠some vb
 n2:v2.ownBlock≠some vb
 n3:v3.ownBlock≠some vb
section
variable {A:World} {vb:Nat}   
theorem Hv.lt(h:Hv W vb x v1 v2 v3):vb<W.heap.size:=(Array.getElem?_eq_some_iff.1 h.h).1
theorem Hv.below(h:Hv W vb x v1 v2 v3)(I:Below W.heap.size W W'):Hv W' vb x v1 v2 v3:=⟨(I.block vb h.lt).trans h.h,h.n1,h.n2,h.n3⟩
theorem Hv.Ei(h:Hv W vb x v1 v2 v3):Hv W vb x v2 v1 v3:=⟨h.h,h.n2,h.n1,h.n3⟩
theorem Hv.Fl(h:Hv W vb x v1 v2 v3):Hv W vb x v3 v2 v1:=⟨h.h,h.n3,h.n2,h.n1⟩
theorem Hv.K1(h:Hv W vb x v1 v2 v3)(hw:Rw W W' v1.ownBlock v'.ownBlock):Hv W' vb x v' v2 v3:=
 ⟨(hw.1.block vb h.lt (λe=>h.n1 e.symm)).trans h.h,λe=>by
   rcases hw.2 with h1|h1
   . exact h.n1 (h1.symm.trans e)
   . have:=h1 vb e;have:=h.lt;omega,h.n2,h.n3⟩
theorem Rows.Mq(h:Rows A B bn W v1 l1 v2 l2 v3 l3)(J:B<=A.heap.size)(x:Nat):Rows A B bn (W.alloc (.cells #[.int .u64 x] 23)) v1 l1 v2 l2 v3 l3/\Hv (W.alloc (.cells #[.int .u64 x] 23)) W.heap.size x v1 v2 v3:=by
 have I: ∀(v:Value) (l:List Nat),W.ownsRow B 23 1 v l.length (AF l)->v.ownBlock≠some W.heap.size:=λv l O he=>by have:=Br O _ he;omega
 exact⟨h.below J ((Below.refl _ W).alloc (Nat.le_refl _) _),⟨heap_alloc_new W _,I _ _ h.own.r1,I _ _ h.own.r2,I _ _ h.own.r3⟩⟩
theorem Rows.QR(h:Rows A B bn W v1 l1 v2 l2 v3 l3)(I:B<=A.heap.size)(x:Nat):Rows A B bn (W.alloc (.cells #[.int .u64 x] 23)).drew v1 l1 v2 l2 v3 l3/\Hv (W.alloc (.cells #[.int .u64 x] 23)).drew W.heap.size x v1 v2 v3:=by
 obtain⟨h1,J⟩:=h.Mq I x;exact⟨h1.below I (Ac _),J.below (Ac _)⟩
theorem Rows.G2(h:Rows A B bn W v1 l1 v2 l2 v3 l3): ∃X:Au (λb=>B<=b/\ ¬bn b) A,W=X.W:=
 ⟨⟨W,h.size,λk U J=>by
   by_cases I:bn k
   . exact h.box k I
   . exact h.low.block k (by
      by_cases O:B<=k
      . exact absurd ⟨O,I⟩ J
      . omega)⟩,rfl⟩
def Aaf(A:World)(B:Nat)(bn:Nat->Prop)(W:World)(v1 v2 v3:Value)(l1:List Nat)(l2:List Nat)(l3:List Nat)(e:Ending)(w' :World):Prop:=
 ∃A' c',e= .returned (.slice A' l1.length c')/\Rows A B bn w' (.slice A' l1.length c') l1 v2 l2 v3 l3/\ ∀vb x,Hv W vb x v1 v2 v3->Hv w' vb x (.slice A' l1.length c') v2 v3
theorem Rows.call(h:Rows A B bn W v1 l1 v2 l2 v3 l3)(I:B<=A.heap.size)(J:Hv W vb x v1 v2 v3)(k:Nat)(U:k<=l1.length)(V:l1.length<=100000):
 Calls prog 88 #[v1, .int .i64 k, .slice (some ⟨vb,0,none⟩) 1 1] W (Aaf A B bn W v1 v2 v3 (l1.take k++x::l1.drop k) l2 l3):=by
 refine(Pb (Nat.le_trans I h.size) h.own.r1 k U V J.h J.n1).mono ?_;rintro e w' ⟨v',rfl,O,hw⟩;obtain⟨Z,aa,rfl⟩:=Ae O;exact⟨Z,aa,rfl,h.K1 O hw I,λvb x hx=>hx.K1 hw⟩
end
def Rt:Option (Nat × Nat × Nat)->Value
 |none=> .agg #[.bool false, .int .u64 0, .int .u64 0, .int .u64 0]
 |some (a,b,r)=> .agg #[.bool true, .int .u64 a, .int .u64 b, .int .u64 r]
def XK(N M:Nat)(w:World)(s t:Nat)(F:Nat->Prop)(bl b2:Nat)(vb:Option Nat)(H:List Nat)(P q most last G:Nat)(p:(Zr) × List Nat × Option (Nat × Nat × Nat))(e:Ending)(w' :World):Prop:=
 e= .returned (Rt p.2.2)/\G8 N M w' s t F bl b2 vb H P q most last G p.1 p.2.1.reverse/\Ad w (FB F bl) w' (FB F bl)/\ ∀a b r,p.2.2=some (a,b,r)->a<18446744073709551616/\b<18446744073709551616/\r<18446744073709551616
def NW(R:Zr)(t h:Nat)(st:List Nat)(n:BN)(k ak av:Nat)(rec:(Zr) × List Nat × Option (Nat × Nat × Nat)):(Zr) × List Nat × Option (Nat × Nat × Nat):=
 if n.kids= [] then B4 R t h st (n.DC k ak av).more
 else match rec.2.2 with
  |none=>B4 rec.1 t h rec.2.1 n.more
  |some (a,b,r)=>B4 rec.1 t h rec.2.1 ((n.DC k a b).FZ (k+1) r).more
theorem Tt{key:ByteArray}(I:Af R t h=n)(J:Bk R t h=0)(O:DL R n.keys key=k):
 D6 t key ak av (f+1) R st h=NW R t h st n k ak av (D6 t key ak av f R st (n.kids.getD k 0)):=by
 subst I O
 conv=>lhs;unfold D6
 rw [if_neg (by rw [J];simp)];unfold NW
 split
 . rfl
 . rfl
theorem VS{key:ByteArray}(I:Bk R t h≠0):D6 t key ak av f R st h=(R,st,none):=by
 cases f with
 |zero=>rfl
 |succ f=>unfold D6;rw [if_pos I]
structure Mid(N M:Nat)(w:World)(s t:Nat)(F:Nat->Prop)(bl b2:Nat)(vb:Option Nat)(H:List Nat)(P q most last G:Nat)(D:(Zr) × List Nat × Option (Nat × Nat × Nat))(x b6 b12 b13 B:Nat)(wc:World)(R:Zr)(st:List Nat)(n:BN)(vk vv vi:Value):Prop where
 D:D=B4 R t x st.reverse n.more
 e:G8 N M wc s t F bl b2 vb H P q most last G R st
 Aq:Ad w (FB F bl) wc (FB F bl)
 own:AS wc B vk n.keys vv n.Ab vi n.kids
 EJ:An wc b13 100 [vk,vv,vi, .int .u64 n.size]
 x6:An wc b6 96 [.pointer (some ⟨s,0,none⟩), .int .i64 t]
 DY:An wc b12 109 [.bool false, .int .u64 0, .int .u64 0, .int .u64 0]
 off: ∀b,vk.ownBlock=some b\/vv.ownBlock=some b\/vi.ownBlock=some b->b≠b13
 ok:n.Ok
 l1:n.keys.length<=32
 l2:n.Ab.length=n.keys.length
 l3:n.kids= []\/n.kids.length=n.keys.length+1
theorem AS.off(h:AS W B v1 l1 v2 l2 v3 l3)(J: ∀b,v1.ownBlock=some b\/v2.ownBlock=some b\/v3.ownBlock=some b->W'.heap[b]? =W.heap[b]?):AS W' B v1 l1 v2 l2 v3 l3:=
 ⟨CL h.r1 λb I=>J b (.inl I),CL h.r2 λb I=>J b (.inr (.inl I)),CL h.r3 λb I=>J b (.inr (.inr I)),h.a12,h.Ow,h.a23⟩
theorem KI(h: ∀z∈l,z<18446744073709551616)(k:Nat)(hx:x<18446744073709551616): ∀z∈l.take k++x::l.drop k,z<18446744073709551616:=λz J=>by
 rcases List.mem_append.1 J with h1|h1
 . exact h z (List.mem_of_mem_take h1)
 . rcases List.mem_cons.1 h1 with I|I
   . rw [I];exact hx
   . exact h z (List.mem_of_mem_drop I)
theorem FI(I:k<=l.length)(x:Nat):(l.take k++x::l.drop k).length=l.length+1:=by simp;omega
def Ymj{P}(h:P:=by
 have J:Below B W W' :=⟨hg.os,hg.tape,hg.output,hg.size,λk O=>hg.block k (by have:=I.size;omega) (λe=>by have:k=b13:=Option.some.inj e;omega)⟩;exact J):=h
theorem Ql{w4:World}{vb:Option Nat}{D:(Zr) × List Nat × Option (Nat × Nat × Nat)}{b6 b12:Nat}(U:bn b13)
 (V:D=B4 R t x st.reverse n.more) (Z:G8 N M w4 s t F bl b2 vb H P q most last G R st) (aa:M<=B) (ab:w.heap.size<=B) (ac:Ad w (FB F bl) w4 (FB F bl))
 (I:Rows w4 B bn W vk n.keys vv n.Ab vi n.kids) (hg:W.grownBy W' (some b13)) (ai:B<=b13) (aj:B<=w4.heap.size) (x6:An w4 b6 96 [.pointer (some ⟨s,0,none⟩), .int .i64 t]) (ae:b6<B)
 (DY:An w4 b12 109 [.bool false, .int .u64 0, .int .u64 0, .int .u64 0]) (af:b12<B) (EJ:An W' b13 100 [vk,vv,vi, .int .u64 n.size]) (ag:n.Ok) (l1:n.keys.length<=32) (l2:n.Ab.length=n.keys.length) (l3:n.kids= []\/n.kids.length=n.keys.length+1):
 Mid N M w s t F bl b2 vb H P q most last G D x b6 b12 b13 B W' R st n vk vv vi:=by
 have ah:=Ymj;have J:Below B w4 W' :=I.low.trans ah;refine⟨V,Z.low (J.mono aa),ac.low (J.mono ab),I.own.off λb O=>hg.block b ?_ λe=>I.off b O (by rw [show b=b13 from Option.some.inj e];exact U),EJ,HC x6 J ae,HC DY J af,λb O e=>I.off b O (by rw [e];exact U),ag,l1,l2,l3⟩;rcases O with h1|h1|h1
 . exact Br I.own.r1 b h1
 . exact Br I.own.r2 b h1
 . exact Br I.own.r3 b h1
def spC:Option (Nat × Nat × Nat)->List Value
 |none=> [.bool false, .int .u64 0, .int .u64 0, .int .u64 0]
 |some (a,b,r)=> [.bool true, .int .u64 a, .int .u64 b, .int .u64 r]
structure Up(N M:Nat)(w4:World)(s t:Nat)(F:Nat->Prop)(bl b2:Nat)(vb:Option Nat)(H:List Nat)(P q most last G:Nat)(rec:(Zr) × List Nat × Option (Nat × Nat × Nat))(b17:Nat)(o:Option (Nat × Nat × Nat))(wc:World)(R' :Zr)(st' :List Nat):Prop where
 req:rec=(R',st'.reverse,o)
 e:G8 N M wc s t F bl b2 vb H P q most last G R' st'
 Aq:Ad w4 (FB F bl) wc (FB F bl)
 Sx:An wc b17 109 (spC o)
 ge:w4.heap.size<=b17
 Q0: ∀a b r,o=some (a,b,r)->a<18446744073709551616/\b<18446744073709551616/\r<18446744073709551616
section
variable {A:World} {vb:Nat}   
theorem Rows.LB(h:Rows A B bn W v1 l1 v2 l2 v3 l3)(I:B<=A.heap.size)(J:Hv W vb x v1 v2 v3)(k:Nat)(O:k<=l1.length)(U:l1.length<=100000)(e:l=l1.take k++x::l1.drop k):
 Calls prog 88 #[v1, .int .i64 k, .slice (some ⟨vb,0,none⟩) 1 1] W (Aaf A B bn W v1 v2 v3 l l2 l3):=by
 subst e;exact h.call I J k O U
def AbC(A:World)(B:Nat)(bn:Nat->Prop)(v1 v3:Value)(l1:List Nat)(l2:List Nat)(l3:List Nat)(e:Ending)(w' :World):Prop:=
 ∃A' c',e= .returned (.slice A' l2.length c')/\Rows A B bn w' v1 l1 (.slice A' l2.length c') l2 v3 l3
theorem Rows.call2(h:Rows A B bn W v1 l1 v2 l2 v3 l3)(I:B<=A.heap.size)(J:Hv W vb x v1 v2 v3)(k:Nat)(O:k<=l2.length)(U:l2.length<=100000)(e:l=l2.take k++x::l2.drop k):
 Calls prog 88 #[v2, .int .i64 k, .slice (some ⟨vb,0,none⟩) 1 1] W (AbC A B bn v1 v3 l1 l l3):=by
 subst e;refine(h.Ei.call I J.Ei k O U).mono ?_;rintro e w' ⟨V,Z,aa,h1,_⟩;exact⟨V,Z,aa,h1.Ei⟩
end
structure XF(A:World)(B b13 b17:Nat)(vk:Value)(lk:List Nat)(vv:Value)(lv:List Nat)(vi:Value)(li:List Nat)(sz a b r:Nat)(W:World):Prop where
 own:AS W B vk lk vv lv vi li
 low:Below B A W
 EJ:An W b13 100 [vk,vv,vi, .int .u64 sz]
 Sx:An W b17 109 (spC (some (a,b,r)))
 off: ∀z,vk.ownBlock=some z\/vv.ownBlock=some z\/vi.ownBlock=some z->z≠b13
 ge:A.heap.size<=W.heap.size
theorem X1{A:World}{J:Nat}{U:List Nat}{V:List Nat}{li:List Nat}{sz a r:Nat}(Z:bn b13)(aa:bn J)(ab:J≠b13)
 (I:Rows A B bn W vk U vv V vi li) (hg:W.grownBy W' (some b13)) (ae:B<=b13) (af:B<=A.heap.size) (EJ:An W' b13 100 [vk,vv,vi, .int .u64 sz]) (Sx:An A J 109 (spC (some (a,b,r)))):
 XF A B b13 J vk U vv V vi li sz a b r W' :=by
 have ac:=Ymj;refine⟨I.own.off λz O=>hg.block z ?_ λe=>I.off z O (by rw [show z=b13 from Option.some.inj e];exact Z),I.low.trans ac,EJ,Sx.block ((hg.block J (Nat.lt_of_lt_of_le (I.blt J aa) I.size) (λe=>ab (Option.some.inj e))).trans (I.box J aa)),λz O e=>I.off z O (by rw [e];exact Z),Nat.le_trans I.size hg.size⟩;rcases O with h1|h1|h1
 . exact Br I.own.r1 z h1
 . exact Br I.own.r2 z h1
 . exact Br I.own.r3 z h1
theorem F7(h:Ad w F W F): ∃X:Au F w,W=X.W:=⟨⟨W,h.size,λk I J=>h.keep k I J⟩,rfl⟩
theorem Ad.grown(h:Ad w F W F)(O:w.heap.size<=b)(hg:W.grownBy W' (some b)):Ad w F W' F:=
 ⟨hg.os.trans h.os,hg.tape.trans h.tape,hg.output.trans h.output,Nat.le_trans h.size hg.size,λk I J=>(hg.block k (Nat.lt_of_lt_of_le I h.size) (λe=>by have:k=b:=Option.some.inj e;omega)).trans (h.keep k I J),λ_ h=> .inl h⟩
theorem G8.grow{vb:Option Nat}(h:G8 N M W s t F bl b2 vb H P q most last G R st)(I:M<=b)(J:M<=W.heap.size)(hg:W.grownBy W' (some b)):G8 N M W' s t F bl b2 vb H P q most last G R st:=
 h.low ⟨hg.os,hg.tape,hg.output,hg.size,λk O=>hg.block k (by omega) (λe=>by have:k=b:=Option.some.inj e;omega)⟩
theorem O3{vb:Option Nat}{D:(Zr) × List Nat × Option (Nat × Nat × Nat)}(J:G8 N M w s t F bl b2 vb H P q most last G R st)(O:M<=w.heap.size)(U:D=(R,st.reverse,none))(I:Below w.heap.size w W):
 XK N M w s t F bl b2 vb H P q most last G D (.returned (.agg #[.bool false, .int .u64 0, .int .u64 0, .int .u64 0])) W:=by
 subst U;refine⟨rfl, ?_,Ad.below I,λa b r h=>by cases h⟩;simp only [List.reverse_reverse];exact J.low (I.mono O)
theorem GO{m:Nat}(h:Below m w W)(I:m<=b)(v0 v1 v2 v3:Value):Below m w ((((W.setCell ⟨b,0,none⟩ v0).setCell ⟨b,1,none⟩ v1).setCell ⟨b,2,none⟩ v2).setCell ⟨b,3,none⟩ v3):=
 (((h.setCell (p:=⟨b,0,none⟩) I v0).setCell (p:=⟨b,1,none⟩) I v1).setCell (p:=⟨b,2,none⟩) I v2).setCell (p:=⟨b,3,none⟩) I v3
def Ycn{P}(h:P:=by
 have:l= []:=by cases l with|nil=>rfl|cons a l=>simp [AF] at h
 subst this;exact .inl (by simp [AF])):=h
theorem AK.takeN{A:Option Addr}(h:AK w F A (AF l))(k:Nat):AK w F A (AF (l.take k)):=by
 rcases h with h|⟨b,o,h1,I,J,O⟩
 . exact Ycn
 . refine .inr ⟨b,o,h1,I,J,λj u hu=>O j u ?_⟩
   have U:j<(AF (l.take k)).length:=(List.getElem?_eq_some_iff.1 hu).1;rw [Dg,List.length_take] at U;rw [<-hu];unfold AF;rw [List.map_take,List.getElem?_take,if_pos (by omega)]
theorem AK.drop{g o:Nat}(h:AK w F (some ⟨g,o,none⟩) (AF l))(k:Nat):AK w F (some ⟨g,o+k,none⟩) (AF (l.drop k)):=by
 rcases h with h|⟨b,U,h1,I,J,O⟩
 . exact Ycn
 . cases h1
   refine .inr ⟨g,o+k,rfl,I,J,λj u hu=> ?_⟩;have:=O (k+j) u (by rw [<-hu];unfold AF;rw [List.map_drop,List.getElem?_drop])
   rwa [<-Nat.add_assoc] at this
theorem DR{A:Option Addr}{c:Nat}(h:W.ownsRow B 23 1 (.slice A l.length c) l.length (AF l)):l.length<=c/\c<=maxLen\/(l= []/\c=0):=by
 rcases h.2 with ⟨h1,I⟩|⟨g,cap,cur,h1,I,O,U,J,V⟩
 . simp only [Value.slice.injEq] at h1;exact .inr ⟨List.eq_nil_of_length_eq_zero I,h1.2.2⟩
 . cases h1;exact .inl ⟨by omega,J⟩
theorem Uy(h:n.size<18446744073709551616):IntKind.u64.wrap ((n.size:Int)+1)=(n.more.size:Int):=by
 rw [IH];unfold N1
 show((((n.size:Int)+1)%18446744073709551616).toNat:Int)=(((n.size+1)%18446744073709551616:Nat):Int)
 omega
theorem T9(a b:Nat)(ha:a<18446744073709551616)(I:b<18446744073709551616): ∃z:Nat,IntKind.u64.wrap ((a:Int)-(b:Int))=(z:Int)/\z<18446744073709551616/\IntKind.u64.wrap ((z:Int)-1)=(((a+36893488147419103232-b-1)%18446744073709551616:Nat):Int):=by
 refine⟨N1 ((a:Int)-b),IH _,Vx _, ?_⟩;rw [IH];unfold N1;omega
theorem WU(R:Zr)(t x b:Nat)(hx:(Af R t x).size<18446744073709551616):IntKind.u64.wrap ((b:Int)+IntKind.u64.wrap (Cq R t x))=(((b+(Af R t x).size)%18446744073709551616:Nat):Int):=by
 unfold Cq;rw [IH,IH];unfold N1 wrap64;omega
theorem S5(R:Zr)(t:Nat): ∀(l:List Nat) (b:Nat),b<18446744073709551616->DO R t l b<18446744073709551616
 | [],b,h=>h
 |x::l,b,h=>S5 R t l _ (Nat.mod_lt _ (by decide))
theorem N2(R:Zr)(t:Nat)(l:List Nat)(b j:Nat)(I:j<l.length):DO R t (l.take (j+1)) b=(DO R t (l.take j) b+(Af R t l[j]).size)%18446744073709551616:=by
 unfold DO;rw [List.take_succ_eq_append_getElem I,List.foldl_append];rfl
theorem C3.sized{k v i:List Nat}{I:Nat}(h:C3 w F (.agg #[v1,v2,v3, .int .u64 s]) ⟨k,v,i,s⟩):C3 w F (.agg #[v1,v2,v3, .int .u64 (I :Nat)]) ⟨k,v,i,I⟩:=by
 obtain⟨⟨J,O,U,V,Z,ci,e,k1,k2,aa⟩,ab⟩:=h;refine⟨⟨J,O,U,V,Z,ci, ?_,k1,k2,aa⟩,ab⟩;simp only [Value.agg.injEq] at e ⊢
 simpa using e
def B4.proj(R:Zr)(t x:Nat)(st:List Nat)(n:BN)(ls rs:Nat):(Zr) × List Nat × Option (Nat × Nat × Nat):=
 let p:=DI (Bp R t x ⟨n.keys.take t,n.Ab.take t,n.kids.take (t+1),ls⟩) t st.reverse ⟨n.keys.drop (t+1),n.Ab.drop (t+1),n.kids.drop (t+1),rs⟩
 (p.1,p.2.1,some (n.keys.getD t 0,n.Ab.getD t 0,p.2.2))
structure Ks(A W:World)(FF:Nat->Prop)(b18 b19 t:Nat)(n:BN)(l1 l2 l3 r1 r2 r3:Value):Prop where
 low:Below A.heap.size A W
 Q1:An W b18 100 [l1,l2,l3, .int .u64 0]
 KC:An W b19 100 [r1,r2,r3, .int .u64 0]
 g18:A.heap.size<=b18
 g19:A.heap.size<=b19
 ne:b18≠b19
 vl:C3 A FF (.agg #[l1,l2,l3, .int .u64 (0:Nat)]) ⟨n.keys.take t,n.Ab.take t,n.kids.take (t+1),0⟩
 vr:C3 A FF (.agg #[r1,r2,r3, .int .u64 (0:Nat)]) ⟨n.keys.drop (t+1),n.Ab.drop (t+1),n.kids.drop (t+1),0⟩
theorem Po(w:World)(g c len k:Nat)(I:k<=c):(Instr.slice 46 (.slice (some ⟨g,0,none⟩) len c) none (some (.int .i64 k)) none).run prog w= .ok (.slice (some ⟨g,0,none⟩) k c) w:=by
 rw [run_slice_h (P:=prog) w 46 (some ⟨g,0,none⟩) len c (by kernel_rfl) .i64 k (by omega) (by omega)];simp [go_sem]
theorem Vo(w:World)(g c len k l2:Nat)(O:k+1<=len)(U:len<=c)(V:k+1<len)(I:l2=len-(k+1)):(Instr.slice 46 (.slice (some ⟨g,0,none⟩) len c) (some (.int .i64 ((k:Nat)+1))) none none).run prog w= .ok (.slice (some ⟨g,k+1,none⟩) l2 (c-(k+1))) w:=by
 rw [run_slice_l (P:=prog) w 46 (some ⟨g,0,none⟩) len c (by kernel_rfl) .i64 ((k:Nat)+1) (by omega) (by omega)];have e:((k:Int)+1).toNat=k+1:=by omega
 have J:c≠k+1:=by omega
 subst I;simp [go_sem,e,J]
theorem G8.take{vb:Option Nat}{st' :List Nat}{p:(Zr) × List Nat × Nat}(h:G8 N M W s t F bl b2 vb H P q most last G R st)(O:BN.A0 t)(hp:p=DI R t st.reverse n)
 (h1:v'.ownBlock=vb) (U:st'.reverse=p.2.1) (V:Ah W' s F p.1 H P q most last G) (Z:Ad W (FB F bl) W' (FB F bl)) (aa:Tk N W' s t F bl b2 v' st'):G8 N M W' s t F bl b2 vb H P q most last G p.1 p.2.1.reverse/\p.2.2<18446744073709551616:=by
 have J:p.2.1.reverse=st' :=by rw [<-U,List.reverse_reverse]
 have ab:(A6 p.1/\(∀x∈st',x∈st)/\st'.length<=st.length)/\p.2.2<18446744073709551616:=by
  rcases List.eq_nil_or_concat st with e|⟨l,x,e⟩
  . subst e
    subst hp;have:st' = []:=(by rw [<-J];rfl);subst this;exact⟨⟨h.sh,λx hx=>hx,Nat.le_refl _⟩,by show 0<_;decide⟩
  . rw [List.concat_eq_append] at e
    subst e;have ac:DI R t (l++ [x]).reverse n=(Bp R t x n,l.reverse,x):=(by simp [DI]);rw [ac] at hp;subst hp;have:st' =l:=(by rw [<-J];simp);subst this;exact⟨⟨Ct O h.sh,λx hx=>by simp [hx],by simp⟩,h.Q0 x (by simp)⟩
 obtain⟨⟨q1,ae,af⟩,ag⟩:=ab;refine⟨?_,ag⟩;rw [J]
 exact { h with
  str:=V
  lo:=h.lo.keep (Z.keep s h.str.FP (λI=>by rcases I with I|I;exact h.str.Yx I;have:=h.hN.1;have:=h.J7;omega))
  tk:=⟨v',h1,aa⟩
  sh:=q1
  Q0:=λx hx=>h.Q0 x (ae x hx)
  len:=Nat.le_trans af h.len }
structure Lp(A W:World)(b18 b19:Nat)(l1 l2 l3 r1 r2 r3:Value)(z:Nat):Prop where
 low:Below A.heap.size A W
 Q1:An W b18 100 [l1,l2,l3, .int .u64 0]
 KC:An W b19 100 [r1,r2,r3, .int .u64 z]
def ZA{P}(h:P:=by
 have aZ:=Zh (aA.trans (aw.mono aA.size));exact aZ):=h
def SA{P}(h:P:=by
 have I:=Zh aJ;have J:=Zh (And.intro ax aH);exact And.intro I J):=h
def Yph{P}(h:P:=by
 have bk:Hid (O.heap.size<=aj.heap.size):=Zh (Nat.le_trans ba a1.size);exact bk):=h
