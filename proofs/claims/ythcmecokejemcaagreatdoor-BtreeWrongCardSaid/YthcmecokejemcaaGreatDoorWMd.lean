/-
  The seat's own texts, part d: ClassB, HeapPlain.
-/
import Derived.Test.YthcmecokejemcaaGreatDoorWMc
import Derived.OwnWalk
import Derived.ProofKit
set_option linter.unusedSimpArgs false
set_option linter.unusedVariables false
namespace Go.Proofs.YthcmecokejemcaaGreatDoor
open Go.RowKit Go.Shelf
theorem class_cases{c:Int}(h:0≤c∧c<8):c=0∨c=1∨c=2∨c=3∨c=4∨c=5∨c=6∨c=7:=by omega
def slotsN(c:Nat):Nat:=62/sz c
def slotsR(c:Int):Value:=if 0≤c∧c<8 then .tuple #[.int .i64 (slotsN c.toNat:Nat), .int .i64 0] else .tuple #[.int .i64 0, .int .i64 2]
theorem sizeR_out{c:Int}(h: ¬(0≤c∧c<8)):sizeR c= .tuple #[.int .i64 0, .int .i64 2]:=if_neg h
theorem slotsR_out{c:Int}(h: ¬(0≤c∧c<8)):slotsR c= .tuple #[.int .i64 0, .int .i64 2]:=if_neg h
theorem slots_any(c:Int)(w:World):Calls Tryz.prog 78 #[.int .i64 c] w fun e w' =>e= .returned (slotsR c)∧Below w.heap.size w w' :=by
 by_cases h:0≤c∧c<8
 · rcases class_cases h with rfl|rfl|rfl|rfl|rfl|rfl|rfl|rfl<;>
   · clear h
     go_enter Tryz.func78,Tryz.ntmps78
     go_wp2_with (go_at_call 108;refine(size_any _ _).mono ?_;rintro e w' ⟨rfl,hb⟩;dsimp [sizeR,sz])
     go_ret2
     exact⟨rfl,hb⟩
 · rw [slotsR_out h]
   have hr:=sizeR_out h
   clear h
   go_enter Tryz.func78,Tryz.ntmps78
   go_wp2_with (go_at_call 108;refine(size_any _ _).mono ?_;rintro e w' ⟨rfl,hb⟩;rw [hr])
   go_ret2
   exact⟨rfl,hb⟩
theorem ofR_out{n:Int}(h: ¬(1≤n∧n≤4000)):ofR n= .tuple #[.int .i64 0, .bool false, .int .i64 2]:=by
 simp only [ofR,ofC,ofB,ofE]
 rw [if_neg (by omega),if_neg h,decide_eq_false (by omega)];rfl
theorem ofR_big{n:Int}(h:1≤n∧n≤4000)(h28:28<n):ofR n= .tuple #[.int .i64 0, .bool false, .int .i64 0]:=by
 simp only [ofR,ofC,ofB,ofE]
 rw [if_neg (by omega),if_pos h,decide_eq_false (by omega)];rfl
theorem ofR_small{n:Int}{k:Nat}(h:1≤n∧n≤4000)(h28:n≤28)(hk:cls n=k):ofR n= .tuple #[.int .i64 (k:Nat), .bool true, .int .i64 0]:=by
 simp only [ofR,ofC,ofB,ofE]
 rw [if_pos (by omega),if_pos h,decide_eq_true (by omega),hk];rfl
def pagesN(n:Int):Int:=if 1≤n∧n≤4000 then (if n≤28 then 1 else (n+65)/64) else 0
def pagesR(n:Int):Value:= .tuple #[.int .i64 (pagesN n), .int .i64 (ofE n:Nat)]
theorem pages_any(n:Int)(w:World):Calls Tryz.prog 112 #[.int .i64 n] w fun e w' =>e= .returned (pagesR n)∧Below w.heap.size w w' :=by
 by_cases hn:1≤n∧n≤4000
 · by_cases h28:n≤28
   · have hr:=ofR_small hn h28 rfl
     have hp:pagesR n= .tuple #[.int .i64 1, .int .i64 0]:=by simp only [pagesR,pagesN,ofE];rw [if_pos hn,if_pos h28,if_pos hn];rfl
     rw [hp]
     generalize cls n=k at hr
     clear hn h28 hp
     go_enter Tryz.func112,Tryz.ntmps112
     go_wp2_with (go_at_call 111;refine(of_any _ _).mono ?_;rintro e w' ⟨rfl,hb⟩;rw [hr])
     go_ret2
     exact⟨rfl,hb⟩
   · have hr:=ofR_big hn (by omega)
     have hp:pagesR n= .tuple #[.int .i64 ((n+2+64-1)/64), .int .i64 0]:=by
      simp only [pagesR,pagesN,ofE];rw [if_pos hn,if_neg h28,if_pos hn,show n+2+64-1=n+65 by omega];rfl
     rw [hp]
     clear hp
     have h1:0<n:=by omega
     have h2:n≤4000:=by omega
     clear h28 hn
     go_enter Tryz.func112,Tryz.ntmps112
     go_wp2_with (go_at_call 111;refine(of_any _ _).mono ?_;rintro e w' ⟨rfl,hb⟩;rw [hr])
     go_ret2
     exact⟨rfl,hb⟩
 · have hr:=ofR_out hn
   have hp:pagesR n= .tuple #[.int .i64 0, .int .i64 2]:=by simp only [pagesR,pagesN,ofE];rw [if_neg hn,if_neg hn];rfl
   rw [hp]
   clear hp hn
   go_enter Tryz.func112,Tryz.ntmps112
   go_wp2_with (go_at_call 111;refine(of_any _ _).mono ?_;rintro e w' ⟨rfl,hb⟩;rw [hr])
   go_ret2
   exact⟨rfl,hb⟩
def placeOk(c k:Int):Prop:=(0≤c∧c<8)∧0≤k∧k<(slotsN c.toNat:Nat)
instance (c k:Int):Decidable (placeOk c k):=by unfold placeOk;infer_instance
def placeR(c k:Int):Value:=if placeOk c k then .tuple #[.int .i64 (2+k*(sz c.toNat:Nat)), .int .i64 0] else .tuple #[.int .i64 0, .int .i64 2]
theorem slots_small(c:Nat):slotsN c≤31:=by
 unfold slotsN sz
 (repeat' split)<;>omega
theorem place_any(c k:Int)(w:World)(hlo: -9223372036854775808≤k)(hhi:k≤9223372036854775807):Calls Tryz.prog 109 #[.int .i64 c, .int .i64 k] w fun e w' =>e= .returned (placeR c k)∧Below w.heap.size w w' :=by
 by_cases h:0≤c∧c<8
 · have hsl:slotsR c= .tuple #[.int .i64 (slotsN c.toNat:Nat), .int .i64 0]:=if_pos h
   have hsz:sizeR c= .tuple #[.int .i64 (sz c.toNat:Nat), .int .i64 0]:=if_pos h
   have h31:=slots_small c.toNat
   have hs31:sz c.toNat≤31:=by
    obtain⟨h1,_⟩:=sz_next c.toNat (by omega)
    omega
   by_cases hk:0≤k∧k<(slotsN c.toNat:Nat)
   · have hp:placeR c k= .tuple #[.int .i64 (2+k*(sz c.toNat:Nat)), .int .i64 0]:=if_pos ⟨h,hk⟩
     rw [hp]
     clear hp
     generalize slotsN c.toNat=m at*
     generalize sz c.toNat=s at*
     obtain⟨hk0,hkm⟩:=hk
     have d1:decide (k<0)=false:=by simp;omega
     have d2:decide ((m:Int)≤k)=false:=by simp;omega
     have hm0:0≤k*(s:Int):=Int.mul_nonneg hk0 (by omega)
     have hm1:k*(s:Int)≤31*31:=Int.mul_le_mul (by omega) (by omega) (by omega) (by omega)
     clear h
     go_enter Tryz.func109,Tryz.ntmps109
     go_wp2_with (first|(go_at_call 78;refine(slots_any _ _).mono ?_;rintro e w1 ⟨rfl,hb⟩;rw [hsl])|(go_at_call 108;refine(size_any _ _).mono ?_;rintro e w2 ⟨rfl,hb2⟩;rw [hsz]))
     go_ret2
     exact⟨rfl,hb.trans (hb2.mono hb.size)⟩
   · have hp:placeR c k= .tuple #[.int .i64 0, .int .i64 2]:=if_neg (fun hh=>hk hh.2)
     rw [hp]
     clear hp
     generalize slotsN c.toNat=m at*
     by_cases hl:k<0
     · have d1:decide (k<0)=true:=by simp;omega
       clear h hk
       go_enter Tryz.func109,Tryz.ntmps109
       go_wp2_with (go_at_call 78;refine(slots_any _ _).mono ?_;rintro e w1 ⟨rfl,hb⟩;rw [hsl])
       go_ret2
       exact⟨rfl,hb⟩
     · have d1:decide (k<0)=false:=by simp;omega
       have d2:decide ((m:Int)≤k)=true:=by simp;omega
       clear h hk
       go_enter Tryz.func109,Tryz.ntmps109
       go_wp2_with (go_at_call 78;refine(slots_any _ _).mono ?_;rintro e w1 ⟨rfl,hb⟩;rw [hsl])
       go_ret2
       exact⟨rfl,hb⟩
 · have hsl:=slotsR_out h
   have hp:placeR c k= .tuple #[.int .i64 0, .int .i64 2]:=if_neg (fun hh=>h hh.1)
   rw [hp]
   clear h hp
   go_enter Tryz.func109,Tryz.ntmps109
   go_wp2_with (go_at_call 78;refine(slots_any _ _).mono ?_;rintro e w1 ⟨rfl,hb⟩;rw [hsl])
   go_ret2
   exact⟨rfl,hb⟩
end Go.Proofs.YthcmecokejemcaaGreatDoor
namespace Go.Proofs.YthcmecokejemcaaGreatDoor
inductive Hd where
 |small (c m:Nat)
 |large (w:Nat)
def Hd.len:Hd→Nat
 | .small _ _=>1
 | .large w=>(w+65)/64
def Hd.Ok:Hd→Prop
 | .small c m=>c<8∧m≠0∧m<2^slotsN c
 | .large w=>28<w∧w≤4000
abbrev HL:=List (Nat × Hd)
def runs(L:HL):List Nat:=L.flatMap fun x=>List.range' x.1 x.2.len
def slotsOf(c m:Nat):List Nat:=(List.range (slotsN c)).filter fun k=>m.testBit k
def blocksOf(x:Nat × Hd):List (Nat × Nat):=
 match x.2 with
 | .small c m=>(slotsOf c m).map fun k=>(64*x.1+2+k*sz c,sz c)
 | .large w=> [(64*x.1+2,w)]
def blocks(L:HL):List (Nat × Nat):=L.flatMap blocksOf
structure Lay(L:HL):Prop where
 rise:L.Pairwise fun a b=>a.1+a.2.len≤b.1
 ok: ∀x∈L,x.2.Ok
theorem Hd.len_pos(h:Hd):1≤h.len:=by
 cases h<;>simp [Hd.len];omega
theorem slot_room(c k:Nat)(hc:c<8)(hk:k<slotsN c):2+k*sz c+sz c≤64:=by
 have:c=0∨c=1∨c=2∨c=3∨c=4∨c=5∨c=6∨c=7:=by omega
 rcases this with rfl|rfl|rfl|rfl|rfl|rfl|rfl|rfl<;>simp [slotsN,sz] at hk ⊢ <;>omega
theorem mem_slotsOf{c m k:Nat}:k∈slotsOf c m↔k<slotsN c∧m.testBit k=true:=by simp [slotsOf]
theorem sz_pos(c:Nat):2≤sz c:=by unfold sz;(repeat' split)<;>omega
theorem block_within{x:Nat × Hd}(hx:x.2.Ok){b:Nat × Nat}(hb:b∈blocksOf x):64*x.1+2≤b.1∧b.1+b.2≤64*(x.1+x.2.len)∧2≤b.2:=by
 obtain⟨p,h⟩:=x
 cases h with
 |small c m=>
  simp only [blocksOf,List.mem_map] at hb
  obtain⟨k,hk,rfl⟩:=hb
  have:=slot_room c k hx.1 (mem_slotsOf.1 hk).1
  have:=sz_pos c
  simp only [Hd.len]
  omega
 |large w=>
  simp only [blocksOf,List.mem_singleton] at hb
  subst hb
  obtain⟨h1,h2⟩:=hx
  simp only [Hd.len]
  omega
theorem slotsOf_rise(c m:Nat):(slotsOf c m).Pairwise (· < ·):=List.Pairwise.filter _ List.pairwise_lt_range
theorem blocksOf_rise(x:Nat × Hd):(blocksOf x).Pairwise fun a b=>a.1+a.2≤b.1:=by
 obtain⟨p,h⟩:=x
 cases h with
 |small c m=>
  simp only [blocksOf]
  rw [List.pairwise_map]
  refine(slotsOf_rise c m).imp ?_
  intro i j hij
  have:(i+1)*sz c≤j*sz c:=Nat.mul_le_mul_right _ hij
  rw [Nat.add_mul] at this
  simp only
  omega
 |large w=>simp [blocksOf]
theorem mem_blocks{L:HL}{b:Nat × Nat}:b∈blocks L↔ ∃x∈L,b∈blocksOf x:=by simp only [blocks,List.mem_flatMap]
theorem mem_runs{L:HL}{p:Nat}:p∈runs L↔ ∃x∈L,x.1≤p∧p<x.1+x.2.len:=by
 simp only [runs,List.mem_flatMap,List.mem_range'_1]
theorem blocks_rise{L:HL}(h:Lay L):(blocks L).Pairwise fun a b=>a.1+a.2≤b.1:=by
 obtain⟨hr,ho⟩:=h
 induction L with
 |nil=>exact List.Pairwise.nil
 |cons x t ih=>
  rw [List.pairwise_cons] at hr
  simp only [blocks,List.flatMap_cons]
  rw [List.pairwise_append]
  refine⟨blocksOf_rise x,ih hr.2 (fun y hy=>ho y (List.mem_cons_of_mem _ hy)), ?_⟩
  intro a ha b hb
  obtain⟨y,hy,hb⟩:=mem_blocks.1 hb
  have h1:=block_within (ho x List.mem_cons_self) ha
  have h2:=block_within (ho y (List.mem_cons_of_mem _ hy)) hb
  have h3:=hr.1 y hy
  omega
theorem runs_rise{L:HL}(h:Lay L):(runs L).Pairwise (· < ·):=by
 obtain⟨hr,ho⟩:=h
 induction L with
 |nil=>exact List.Pairwise.nil
 |cons x t ih=>
  rw [List.pairwise_cons] at hr
  simp only [runs,List.flatMap_cons]
  rw [List.pairwise_append]
  refine⟨List.pairwise_lt_range',ih hr.2 (fun y hy=>ho y (List.mem_cons_of_mem _ hy)), ?_⟩
  intro a ha b hb
  obtain⟨y,hy,hb⟩:=mem_runs.1 hb
  rw [List.mem_range'_1] at ha
  have h3:=hr.1 y hy
  omega
theorem blocks_apart{L:HL}(h:Lay L){a b:Nat × Nat}(ha:a∈blocks L)(hb:b∈blocks L):a=b∨a.1+a.2≤b.1∨b.1+b.2≤a.1:=by
 have hr:=blocks_rise h
 generalize blocks L=l at*
 induction l with
 |nil=>simp at ha
 |cons x t ih=>
  rw [List.pairwise_cons] at hr
  rcases List.mem_cons.1 ha with h1|h1
  · rcases List.mem_cons.1 hb with h2|h2
    · exact .inl (h1.trans h2.symm)
    · exact .inr (.inl (h1▸hr.1 b h2))
  · rcases List.mem_cons.1 hb with h2|h2
    · exact .inr (.inr (h2▸hr.1 a h1))
    · exact ih h1 h2 hr.2
theorem heads_apart{L:HL}(h:Lay L){x y:Nat × Hd}(hx:x∈L)(hy:y∈L):x=y∨x.1+x.2.len≤y.1∨y.1+y.2.len≤x.1:=by
 have hr:=h.rise
 clear h
 induction L with
 |nil=>simp at hx
 |cons z t ih=>
  rw [List.pairwise_cons] at hr
  rcases List.mem_cons.1 hx with h1|h1
  · rcases List.mem_cons.1 hy with h2|h2
    · exact .inl (h1.trans h2.symm)
    · exact .inr (.inl (h1▸hr.1 y h2))
  · rcases List.mem_cons.1 hy with h2|h2
    · exact .inr (.inr (h2▸hr.1 x h1))
    · exact ih h1 h2 hr.2
theorem lay_split{L:HL}(h:Lay L)(p n:Nat)(hn:1≤n)(hfree: ∀k,k<n→p+k∉runs L):
 ∃L1 L2,L=L1++L2∧(∀x∈L1,x.1+x.2.len≤p)∧ ∀x∈L2,p+n≤x.1:=by
 obtain⟨hr,ho⟩:=h
 induction L with
 |nil=>exact⟨[],[],rfl,by simp,by simp⟩
 |cons x t ih=>
  rw [List.pairwise_cons] at hr
  have hxl:=x.2.len_pos
  by_cases hx:x.1<p
  · have h1:x.1+x.2.len≤p:=by
     by_cases hh:x.1+x.2.len≤p
     · exact hh
     · exact absurd (mem_runs.2 ⟨x,List.mem_cons_self,by omega,by omega⟩) (hfree 0 (by omega))
    obtain⟨L1,L2,rfl,h2,h3⟩:=ih (fun k hk hm=>by
     obtain⟨y,hy,hm⟩:=mem_runs.1 hm
     exact hfree k hk (mem_runs.2 ⟨y,List.mem_cons_of_mem _ hy,hm⟩)) hr.2 (fun y hy=>ho y (List.mem_cons_of_mem _ hy))
    exact⟨x::L1,L2,rfl,fun y hy=>by rcases List.mem_cons.1 hy with rfl|hy;exact h1;exact h2 y hy,h3⟩
  · have h1:p+n≤x.1:=by
     by_cases hh:p+n≤x.1
     · exact hh
     · have h4:=hfree (x.1-p) (by omega)
       rw [show p+(x.1-p)=x.1 by omega] at h4
       exact absurd (mem_runs.2 ⟨x,List.mem_cons_self,Nat.le_refl _,by omega⟩) h4
    refine⟨[],x::t,rfl,by simp,fun y hy=> ?_⟩
    rcases List.mem_cons.1 hy with h2|h2
    · exact h2▸h1
    · have:=hr.1 y h2;omega
theorem lay_insert{L1 L2:HL}(h:Lay (L1++L2)){p:Nat}{hd:Hd}(hok:hd.Ok)(h1: ∀x∈L1,x.1+x.2.len≤p)(h2: ∀x∈L2,p+hd.len≤x.1):Lay (L1++(p,hd)::L2):=by
 obtain⟨hr,ho⟩:=h
 rw [List.pairwise_append] at hr
 obtain⟨r1,r2,r3⟩:=hr
 refine⟨List.pairwise_append.2 ⟨r1,List.pairwise_cons.2 ⟨h2,r2⟩, ?_⟩, ?_⟩
 · intro a ha b hb
   rcases List.mem_cons.1 hb with rfl|hb
   · exact h1 a ha
   · exact r3 a ha b hb
 · intro x hx
   rcases List.mem_append.1 hx with hx|hx
   · exact ho x (List.mem_append_left _ hx)
   · rcases List.mem_cons.1 hx with rfl|hx
     · exact hok
     · exact ho x (List.mem_append_right _ hx)
theorem lay_turn{L1 L2:HL}{p:Nat}{hd hd' :Hd}(h:Lay (L1++(p,hd)::L2))(hok:hd'.Ok)(hlen:hd'.len=hd.len):Lay (L1++(p,hd')::L2):=by
 obtain⟨hr,ho⟩:=h
 rw [List.pairwise_append,List.pairwise_cons] at hr
 obtain⟨r1,⟨r2,r2'⟩,r3⟩:=hr
 refine⟨List.pairwise_append.2 ⟨r1,List.pairwise_cons.2 ⟨fun y hy=>by have:=r2 y hy;simp only at this ⊢;omega,r2'⟩, ?_⟩, ?_⟩
 · intro a ha b hb
   rcases List.mem_cons.1 hb with rfl|hb
   · exact r3 a ha (p,hd) List.mem_cons_self
   · exact r3 a ha b (List.mem_cons_of_mem _ hb)
 · intro x hx
   rcases List.mem_append.1 hx with hx|hx
   · exact ho x (List.mem_append_left _ hx)
   · rcases List.mem_cons.1 hx with rfl|hx
     · exact hok
     · exact ho x (List.mem_append_right _ (List.mem_cons_of_mem _ hx))
theorem lay_drop{L1 L2:HL}{x:Nat × Hd}(h:Lay (L1++x::L2)):Lay (L1++L2):=by
 obtain⟨hr,ho⟩:=h
 rw [List.pairwise_append,List.pairwise_cons] at hr
 obtain⟨r1,⟨r2,r2'⟩,r3⟩:=hr
 refine⟨List.pairwise_append.2 ⟨r1,r2',fun a ha b hb=>r3 a ha b (List.mem_cons_of_mem _ hb)⟩, ?_⟩
 intro x hx
 rcases List.mem_append.1 hx with hx|hx
 · exact ho x (List.mem_append_left _ hx)
 · exact ho x (List.mem_append_right _ (List.mem_cons_of_mem _ hx))
theorem runs_turn{L1 L2:HL}{p:Nat}{hd hd' :Hd}(hlen:hd'.len=hd.len):runs (L1++(p,hd')::L2)=runs (L1++(p,hd)::L2):=by
 simp [runs,hlen]
theorem testBit_set{m k j:Nat}:(m ||| 2^k).testBit j=(m.testBit j||decide (k=j)):=by
 rw [Nat.testBit_or,Nat.testBit_two_pow]
theorem filter_perm_cons{l:List Nat}(hn:l.Nodup){f g:Nat→Bool}{k:Nat}(hk:k∈l)(hf:f k=false)(hg: ∀j,g j=(f j||decide (k=j))):(l.filter g).Perm (k::l.filter f):=by
 induction l with
 |nil=>simp at hk
 |cons a t ih=>
  rw [List.nodup_cons] at hn
  by_cases hak:k=a
  · subst hak
    have h1:g k=true:=by rw [hg];simp
    have h2:t.filter g=t.filter f:=List.filter_congr fun x hx=>by
     rw [hg,decide_eq_false (by rintro rfl;exact hn.1 hx),Bool.or_false]
    rw [List.filter_cons_of_pos h1,List.filter_cons_of_neg (by simp [hf]),h2]
  · have hkt:k∈t:=by rcases List.mem_cons.1 hk with rfl|h;exact absurd rfl hak;exact h
    have ih:=ih hn.2 hkt
    have h1:g a=f a:=by rw [hg,decide_eq_false hak,Bool.or_false]
    cases hfa:f a with
    |true=>
     rw [List.filter_cons_of_pos (by rw [h1,hfa]),List.filter_cons_of_pos hfa]
     exact(ih.cons a).trans (List.Perm.swap _ _ _)
    |false=>
     rw [List.filter_cons_of_neg (by simp [h1,hfa]),List.filter_cons_of_neg (by simp [hfa])]
     exact ih
theorem slotsOf_set{c m k:Nat}(hk:k<slotsN c)(hm:m.testBit k=false):(slotsOf c (m ||| 2^k)).Perm (k::slotsOf c m):=
 filter_perm_cons List.nodup_range (by simpa using hk) hm (fun j=>testBit_set)
theorem blocksOf_set{p c m k:Nat}(hk:k<slotsN c)(hm:m.testBit k=false):(blocksOf (p, .small c (m ||| 2^k))).Perm ((64*p+2+k*sz c,sz c)::blocksOf (p, .small c m)):=
 (slotsOf_set hk hm).map _
theorem blocks_mid(L1 L2:HL)(x:Nat × Hd):(blocks (L1++x::L2)).Perm (blocksOf x++blocks (L1++L2)):=by
 simp only [blocks,List.flatMap_append,List.flatMap_cons]
 rw [←List.append_assoc,←List.append_assoc]
 exact List.perm_append_comm.append_right _
theorem blocks_set{L1 L2:HL}{p c m k:Nat}(hk:k<slotsN c)(hm:m.testBit k=false):(blocks (L1++(p, .small c (m ||| 2^k))::L2)).Perm ((64*p+2+k*sz c,sz c)::blocks (L1++(p, .small c m)::L2)):=
 (blocks_mid _ _ _).trans (((blocksOf_set hk hm).append_right _).trans (((blocks_mid L1 L2 (p, .small c m)).symm).cons _))
theorem set_ok{c m k:Nat}(hc:c<8)(hm:m<2^slotsN c)(hk:k<slotsN c):(Hd.small c (m ||| 2^k)).Ok:=by
 refine⟨hc, ?_,Nat.or_lt_two_pow hm (Nat.pow_lt_pow_of_lt (by omega) hk)⟩
 intro h
 have:=congrArg (fun x=>x.testBit k) h
 simp at this
theorem testBit_clear{m k j:Nat}(hm:m.testBit k=true):(m ^^^ 2^k).testBit j=(m.testBit j&& !decide (k=j)):=by
 rw [Nat.testBit_xor,Nat.testBit_two_pow]
 by_cases h:k=j
 · subst h;simp [hm]
 · simp [h]
theorem clear_set{m k:Nat}(hm:m.testBit k=true):(m ^^^ 2^k) ||| 2^k=m:=by
 apply Nat.eq_of_testBit_eq
 intro j
 rw [testBit_set,testBit_clear hm]
 by_cases h:k=j
 · subst h;simp [hm]
 · simp [h]
theorem clear_not{m k:Nat}(hm:m.testBit k=true):(m ^^^ 2^k).testBit k=false:=by rw [testBit_clear hm];simp
theorem blocks_clear{L1 L2:HL}{p c m k:Nat}(hk:k<slotsN c)(hm:m.testBit k=true):(blocks (L1++(p, .small c m)::L2)).Perm ((64*p+2+k*sz c,sz c)::blocks (L1++(p, .small c (m ^^^ 2^k))::L2)):=by
 have:=blocks_set (L1:=L1) (L2:=L2) (p:=p) (c:=c) (m:=m ^^^ 2^k) (k:=k) hk (clear_not hm)
 rwa [clear_set hm] at this
theorem clear_lt{c m k:Nat}(hm:m<2^slotsN c)(hk:k<slotsN c):m ^^^ 2^k<2^slotsN c:=Nat.xor_lt_two_pow hm (Nat.pow_lt_pow_of_lt (by omega) hk)
theorem blocksOf_zero(p c:Nat):blocksOf (p, .small c 0)= []:=by simp [blocksOf,slotsOf]
theorem blocks_drop_zero(L1 L2:HL)(p c:Nat):(blocks (L1++(p, .small c 0)::L2)).Perm (blocks (L1++L2)):=by
 have:=blocks_mid L1 L2 (p, .small c 0)
 rwa [blocksOf_zero,List.nil_append] at this
def Heads(L:HL)(mem:Nat→Nat):Prop:=
 ∀x∈L,match x.2 with
  | .small c m=>mem (64*x.1)=1+256*c∧mem (64*x.1+1)=m
  | .large w=>mem (64*x.1)=2+256*((w+65)/64)∧mem (64*x.1+1)=w
theorem block_no_head{L:HL}(h:Lay L){b:Nat × Nat}(hb:b∈blocks L){x:Nat × Hd}(hx:x∈L){a:Nat}(ha:b.1≤a)(ha2:a<b.1+b.2):a≠64*x.1∧a≠64*x.1+1:=by
 obtain⟨y,hy,hby⟩:=mem_blocks.1 hb
 have h1:=block_within (h.ok y hy) hby
 have hl:=x.2.len_pos
 have hl2:=y.2.len_pos
 rcases heads_apart h hx hy with rfl|h2|h2<;>omega
theorem Heads.write{L:HL}{mem:Nat→Nat}(h:Heads L mem)(hl:Lay L){b:Nat × Nat}(hb:b∈blocks L){a v:Nat}(ha:b.1≤a)(ha2:a<b.1+b.2):Heads L (fun i=>if i=a then v else mem i):=by
 intro x hx
 have h1:=block_no_head hl hb hx ha ha2
 have h2:=h x hx
 obtain⟨p,hd⟩:=x
 cases hd<;>simp only at h1 h2 ⊢ <;>rw [if_neg (Ne.symm h1.1),if_neg (Ne.symm h1.2)]<;>exact h2
theorem block_page{L:HL}(h:Lay L){b:Nat × Nat}(hb:b∈blocks L){a:Nat}(ha:b.1≤a)(ha2:a<b.1+b.2):a/64∈runs L:=by
 obtain⟨y,hy,hby⟩:=mem_blocks.1 hb
 have h1:=block_within (h.ok y hy) hby
 exact mem_runs.2 ⟨y,hy,by omega,by omega⟩
theorem words_of_entry{x:Nat × Hd}(hx:x.2.Ok):((blocksOf x).map (·.2)).sum≤64*x.2.len:=by
 obtain⟨p,h⟩:=x
 cases h with
 |small c m=>
  have h1:(blocksOf (p, .small c m)).map (·.2)=List.replicate (slotsOf c m).length (sz c):=by
   simp only [blocksOf,List.map_map]
   apply List.eq_replicate_iff.2
   constructor
   · simp
   · intro b hb;simp at hb;exact hb.2.symm
  have h2:(slotsOf c m).length≤slotsN c:=by
   have:=List.length_filter_le (fun k=>m.testBit k) (List.range (slotsN c))
   simpa [slotsOf] using this
  rw [h1,List.sum_replicate_nat]
  have h3:slotsN c*sz c≤62:=by
   have:=hx.1
   have:c=0∨c=1∨c=2∨c=3∨c=4∨c=5∨c=6∨c=7:=by omega
   rcases this with rfl|rfl|rfl|rfl|rfl|rfl|rfl|rfl<;>decide
  have h4:=Nat.mul_le_mul_right (sz c) h2
  simp only [Hd.len]
  omega
 |large w=>
  obtain⟨h1,h2⟩:=hx
  simp only [blocksOf,Hd.len,List.map_cons,List.map_nil,List.sum_cons,List.sum_nil]
  omega
theorem words_of_blocks{L:HL}(h: ∀x∈L,x.2.Ok):((blocks L).map (·.2)).sum≤64*(runs L).length:=by
 induction L with
 |nil=>simp [blocks,runs]
 |cons x t ih=>
  have h1:=words_of_entry (h x List.mem_cons_self)
  have h2:=ih (fun y hy=>h y (List.mem_cons_of_mem _ hy))
  simp only [blocks,runs,List.flatMap_cons,List.map_append,List.sum_append_nat,List.length_append,List.length_range'] at*
  omega
end Go.Proofs.YthcmecokejemcaaGreatDoor
