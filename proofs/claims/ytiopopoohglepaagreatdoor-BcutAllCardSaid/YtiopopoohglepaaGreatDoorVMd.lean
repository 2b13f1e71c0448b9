/- A part. -/
import Derived.Test.YtiopopoohglepaaGreatDoorVMc
import Derived.OwnWalk
import Derived.ProofKit
set_option linter.all false
namespace Go.Proofs.YtiopopoohglepaaGreatDoor
open Go.Proofs.Tryz
open Go.RowKit Go.Shelf
variable {a c j k m p:Nat}{n:Int}
theorem PX{c:Int}(h:0<=c/\c<8):c=0\/c=1\/c=2\/c=3\/c=4\/c=5\/c=6\/c=7:=by omega
def AX(c:Nat):Nat:=62/sz c
def Kt(c:Int):Value:=if 0<=c/\c<8 then .tuple #[.int .i64 (AX c.toNat:Nat), .int .i64 0] else .tuple #[.int .i64 0, .int .i64 2]
theorem UQ{c:Int}(h: ¬(0<=c/\c<8)):JL c= .tuple #[.int .i64 0, .int .i64 2]:=if_neg h
theorem Mu{c:Int}(h: ¬(0<=c/\c<8)):Kt c= .tuple #[.int .i64 0, .int .i64 2]:=if_neg h
theorem Ia(c:Int)(w:World):Calls prog 93 #[.int .i64 c] w λe w' =>e= .returned (Kt c)/\Below w.heap.size w w' :=by
 by_cases h:0<=c/\c<8
 . rcases PX h with rfl|rfl|rfl|rfl|rfl|rfl|rfl|rfl<;>
   . clear h
     go_enter func93,ntmps93;go_wp2_with (go_at_call 143;refine(Ji _ _).mono ?_;rintro e w' ⟨rfl,d⟩;dsimp [JL,sz])
     go_ret2
     exact⟨rfl,d⟩
 . rw [Mu h]
   have I:=UQ h;clear h;go_enter func93,ntmps93;go_wp2_with (go_at_call 143;refine(Ji _ _).mono ?_;rintro e w' ⟨rfl,d⟩;rw [I])
   go_ret2
   exact⟨rfl,d⟩
theorem Yr(h: ¬(1<=n/\n<=4000)):GG n= .tuple #[.int .i64 0, .bool false, .int .i64 2]:=by
 simp only [GG,T4,TY,MA];rw [if_neg (by omega),if_neg h,decide_eq_false (by omega)];rfl
theorem Sg(h:1<=n/\n<=4000)(d:28<n):GG n= .tuple #[.int .i64 0, .bool false, .int .i64 0]:=by
 simp only [GG,T4,TY,MA];rw [if_neg (by omega),if_pos h,decide_eq_false (by omega)];rfl
theorem Ni(h:1<=n/\n<=4000)(I:n<=28)(d:cls n=k):GG n= .tuple #[.int .i64 k, .bool true, .int .i64 0]:=by
 simp only [GG,T4,TY,MA];rw [if_pos (by omega),if_pos h,decide_eq_true (by omega),d];rfl
def Ks(n:Int):Int:=if 1<=n/\n<=4000 then (if n<=28 then 1 else (n+65)/64) else 0
def FZ(n:Int):Value:= .tuple #[.int .i64 (Ks n), .int .i64 (MA n:Nat)]
def Ydj{P}(h:P:=by
 go_enter func98,ntmps98;go_wp2_with (go_at_call 97;refine(Jg _ _).mono ?_;rintro e w' ⟨rfl,I⟩;rw [d])
 go_ret2
 exact⟨rfl,I⟩):=h
theorem Nb(n:Int)(w:World):Calls prog 98 #[.int .i64 n] w λe w' =>e= .returned (FZ n)/\Below w.heap.size w w' :=by
 by_cases J:1<=n/\n<=4000
 . by_cases O:n<=28
   focus
    have d:=Ni J O rfl;have hp:FZ n= .tuple #[.int .i64 1, .int .i64 0]:=(by simp only [FZ,Ks,MA];rw [if_pos J,if_pos O,if_pos J];rfl);rw [hp];generalize cls n=k at d;clear J O hp
   rotate_left
   focus
    have d:=Sg J (by omega);have hp:FZ n= .tuple #[.int .i64 ((n+2+64-1)/64), .int .i64 0]:=by
     simp only [FZ,Ks,MA];rw [if_pos J,if_neg O,if_pos J,show n+2+64-1=n+65 by omega];rfl
    rw [hp];clear hp;have h1:0<n:=(by omega);have U:n<=4000:=(by omega);clear O J
   all_goals
    exact Ydj
 . have d:=Yr J
   have hp:FZ n= .tuple #[.int .i64 0, .int .i64 2]:=(by simp only [FZ,Ks,MA];rw [if_neg J,if_neg J];rfl);rw [hp];clear hp J;exact Ydj
def Nj(c k:Int):Prop:=(0<=c/\c<8)/\0<=k/\k<(AX c.toNat:Nat)
instance (c k:Int):Decidable (Nj c k):=by unfold Nj;infer_instance
def Jh(c k:Int):Value:=if Nj c k then .tuple #[.int .i64 (2+k*(sz c.toNat:Nat)), .int .i64 0] else .tuple #[.int .i64 0, .int .i64 2]
theorem CF(c:Nat):AX c<=31:=by
 unfold AX sz
 (repeat' split)<;>omega
def Ydg{P}(h:P:=by
 go_enter func144,ntmps144;go_wp2_with (go_at_call 93;refine(Ia _ _).mono ?_;rintro e w1 ⟨rfl,d⟩;rw [I])
 go_ret2
 exact⟨rfl,d⟩):=h
theorem Uy(c k:Int)(w:World)(Z: -9223372036854775808<=k)(aa:k<=9223372036854775807):Calls prog 144 #[.int .i64 c, .int .i64 k] w λe w' =>e= .returned (Jh c k)/\Below w.heap.size w w' :=by
 by_cases h:0<=c/\c<8
 . have I:Kt c= .tuple #[.int .i64 (AX c.toNat:Nat), .int .i64 0]:=if_pos h
   have O:JL c= .tuple #[.int .i64 (sz c.toNat:Nat), .int .i64 0]:=if_pos h;have ab:=CF c.toNat;have ac:sz c.toNat<=31:=by
    obtain⟨h1,_⟩:=M8 c.toNat (by omega);omega
   by_cases J:0<=k/\k<(AX c.toNat:Nat)
   . have hp:Jh c k= .tuple #[.int .i64 (2+k*(sz c.toNat:Nat)), .int .i64 0]:=if_pos ⟨h,J⟩
     rw [hp];clear hp;generalize AX c.toNat=m at*;generalize sz c.toNat=s at*;obtain⟨U,ae⟩:=J;have d1:decide (k<0)=false:=(by simp;omega);have d2:decide ((m:Int)<=k)=false:=(by simp;omega);have af:0<=k*(s:Int):=Int.mul_nonneg U (by omega);have ag:k*(s:Int)<=31*31:=Int.mul_le_mul (by omega) (by omega) (by omega) (by omega);clear h;go_enter func144,ntmps144;go_wp2_with (first|(go_at_call 93;refine(Ia _ _).mono ?_;rintro e w1 ⟨rfl,d⟩;rw [I])|(go_at_call 143;refine(Ji _ _).mono ?_;rintro e w2 ⟨rfl,V⟩;rw [O]))
     go_ret2
     exact⟨rfl,d.trans (V.mono d.size)⟩
   . have hp:Jh c k= .tuple #[.int .i64 0, .int .i64 2]:=if_neg (λhh=>J hh.2)
     rw [hp];clear hp;generalize AX c.toNat=m at*;by_cases ah:k<0
     focus
      have d1:decide (k<0)=true:=by simp;omega
     rotate_left
     focus
      have d1:decide (k<0)=false:=(by simp;omega);have d2:decide ((m:Int)<=k)=true:=by simp;omega
     all_goals
      clear h J;exact Ydg
 . have I:=Mu h
   have hp:Jh c k= .tuple #[.int .i64 0, .int .i64 2]:=if_neg (λhh=>h hh.1);rw [hp];clear h hp;exact Ydg
inductive Hd where
 |small (c m:Nat)
 |Bz (w:Nat)
def Hd.len:Hd->Nat
 | .small _ _=>1
 | .Bz w=>(w+65)/64
def Hd.Ok:Hd->Prop
 | .small c m=>c<8/\m≠0/\m<2^AX c
 | .Bz w=>28<w/\w<=4000
abbrev HL:=List (Nat × Hd)
def runs(L:HL):List Nat:=L.flatMap λx=>List.range' x.1 x.2.len
def slotsOf(c m:Nat):List Nat:=(List.range (AX c)).filter λk=>m.testBit k
def A7(x:Nat × Hd):List (Nat × Nat):=
 match x.2 with
 | .small c m=>(slotsOf c m).map λk=>(64*x.1+2+k*sz c,sz c)
 | .Bz w=> [(64*x.1+2,w)]
def blocks(L:HL):List (Nat × Nat):=L.flatMap A7
structure Lay(L:HL):Prop where
 Dn:L.Pairwise λa b=>a.1+a.2.len<=b.1
 ok: ∀x∈L,x.2.Ok
theorem Hd.CZ(h:Hd):1<=h.len:=by
 cases h<;>simp [Hd.len];omega
theorem E9(c k:Nat)(I:c<8)(d:k<AX c):2+k*sz c+sz c<=64:=by
 have:c=0\/c=1\/c=2\/c=3\/c=4\/c=5\/c=6\/c=7:=by omega
 rcases this with rfl|rfl|rfl|rfl|rfl|rfl|rfl|rfl<;>simp [AX,sz] at d ⊢ <;>omega
theorem FT:k∈slotsOf c m↔k<AX c/\m.testBit k=true:=by simp [slotsOf]
theorem Qx(c:Nat):2<=sz c:=by unfold sz;(repeat' split)<;>omega
theorem CI{x:Nat × Hd}(hx:x.2.Ok){b:Nat × Nat}(d:b∈A7 x):64*x.1+2<=b.1/\b.1+b.2<=64*(x.1+x.2.len)/\2<=b.2:=by
 obtain⟨p,h⟩:=x
 cases h with
 |small c m=>
  simp only [A7,List.mem_map] at d;obtain⟨k,I,rfl⟩:=d;have:=E9 c k hx.1 (FT.1 I).1;have:=Qx c;simp only [Hd.len];omega
 |Bz w=>
  simp only [A7,List.mem_singleton] at d;subst d;obtain⟨h1,J⟩:=hx;simp only [Hd.len];omega
theorem OI(c m:Nat):(slotsOf c m).Pairwise (· < ·):=List.Pairwise.filter _ List.pairwise_lt_range
theorem On(x:Nat × Hd):(A7 x).Pairwise λa b=>a.1+a.2<=b.1:=by
 obtain⟨p,h⟩:=x
 cases h with
 |small c m=>
  simp only [A7];rw [List.pairwise_map];refine(OI c m).imp ?_;intro i j d;have:(i+1)*sz c<=j*sz c:=Nat.mul_le_mul_right _ d;rw [Nat.add_mul] at this;simp only;omega
 |Bz w=>simp [A7]
theorem Ex{L:HL}{b:Nat × Nat}:b∈blocks L↔ ∃x∈L,b∈A7 x:=by simp only [blocks,List.mem_flatMap]
theorem CP{L:HL}:p∈runs L↔ ∃x∈L,x.1<=p/\p<x.1+x.2.len:=by
 simp only [runs,List.mem_flatMap,List.mem_range'_1]
theorem KC{L:HL}(h:Lay L):(blocks L).Pairwise λa b=>a.1+a.2<=b.1:=by
 obtain⟨I,J⟩:=h
 induction L with
 |nil=>exact List.Pairwise.nil
 |cons x t ih=>
  rw [List.pairwise_cons] at I;simp only [blocks,List.flatMap_cons];rw [List.pairwise_append];refine⟨On x,ih I.2 (λy d=>J y (List.mem_cons_of_mem _ d)), ?_⟩;intro a ha b O;obtain⟨y,d,O⟩:=Ex.1 O;have h1:=CI (J x List.mem_cons_self) ha;have U:=CI (J y (List.mem_cons_of_mem _ d)) O;have V:=I.1 y d;omega
theorem JR{L:HL}(h:Lay L):(runs L).Pairwise (· < ·):=by
 obtain⟨d,O⟩:=h
 induction L with
 |nil=>exact List.Pairwise.nil
 |cons x t ih=>
  rw [List.pairwise_cons] at d;simp only [runs,List.flatMap_cons];rw [List.pairwise_append];refine⟨List.pairwise_lt_range',ih d.2 (λy I=>O y (List.mem_cons_of_mem _ I)), ?_⟩;intro a ha b J;obtain⟨y,I,J⟩:=CP.1 J;rw [List.mem_range'_1] at ha;have U:=d.1 y I;omega
theorem Fb{L:HL}(h:Lay L){a b:Nat × Nat}(ha:a∈blocks L)(J:b∈blocks L):a=b\/a.1+a.2<=b.1\/b.1+b.2<=a.1:=by
 have I:=KC h;generalize blocks L=l at*
 induction l with
 |nil=>simp at ha
 |cons x t ih=>
  rw [List.pairwise_cons] at I;rcases List.mem_cons.1 ha with h1|h1
  . rcases List.mem_cons.1 J with d|d
    . exact .inl (h1.trans d.symm)
    . exact .inr (.inl (h1▸I.1 b d))
  . rcases List.mem_cons.1 J with d|d
    . exact .inr (.inr (d▸I.1 a h1))
    . exact ih h1 d I.2
theorem KD{L:HL}(h:Lay L){x y:Nat × Hd}(hx:x∈L)(J:y∈L):x=y\/x.1+x.2.len<=y.1\/y.1+y.2.len<=x.1:=by
 have I:=h.Dn;clear h
 induction L with
 |nil=>simp at hx
 |cons z t ih=>
  rw [List.pairwise_cons] at I;rcases List.mem_cons.1 hx with h1|h1
  . rcases List.mem_cons.1 J with d|d
    . exact .inl (h1.trans d.symm)
    . exact .inr (.inl (h1▸I.1 y d))
  . rcases List.mem_cons.1 J with d|d
    . exact .inr (.inr (d▸I.1 x h1))
    . exact ih h1 d I.2
theorem Nh{L:HL}(h:Lay L)(p n:Nat)(ab:1<=n)(J: ∀k,k<n->p+k∉runs L):
 ∃L1 L2,L=L1++L2/\(∀x∈L1,x.1+x.2.len<=p)/\ ∀x∈L2,p+n<=x.1:=by
 obtain⟨O,V⟩:=h
 induction L with
 |nil=>exact⟨[],[],rfl,by simp,by simp⟩
 |cons x t ih=>
  rw [List.pairwise_cons] at O;have ac:=x.2.CZ;by_cases hx:x.1<p
  . have h1:x.1+x.2.len<=p:=by
     by_cases hh:x.1+x.2.len<=p
     . exact hh
     . exact absurd (CP.2 ⟨x,List.mem_cons_self,by omega,by omega⟩) (J 0 (by omega))
    obtain⟨L1,L2,rfl,I,Z⟩:=ih (λk aa hm=>by
     obtain⟨y,d,hm⟩:=CP.1 hm;exact J k aa (CP.2 ⟨y,List.mem_cons_of_mem _ d,hm⟩)) O.2 (λy d=>V y (List.mem_cons_of_mem _ d))
    exact⟨x::L1,L2,rfl,λy d=>by rcases List.mem_cons.1 d with rfl|d;exact h1;exact I y d,Z⟩
  . have h1:p+n<=x.1:=by
     by_cases hh:p+n<=x.1
     . exact hh
     . have U:=J (x.1-p) (by omega)
       rw [show p+(x.1-p)=x.1 by omega] at U;exact absurd (CP.2 ⟨x,List.mem_cons_self,Nat.le_refl _,by omega⟩) U
    refine⟨[],x::t,rfl,by simp,λy d=> ?_⟩;rcases List.mem_cons.1 d with I|I
    . exact I▸h1
    . have:=O.1 y I;omega
theorem Mo{L1 L2:HL}(h:Lay (L1++L2)){hd:Hd}(O:hd.Ok)(h1: ∀x∈L1,x.1+x.2.len<=p)(U: ∀x∈L2,p+hd.len<=x.1):Lay (L1++(p,hd)::L2):=by
 obtain⟨I,J⟩:=h;rw [List.pairwise_append] at I;obtain⟨r1,r2,r3⟩:=I;refine⟨List.pairwise_append.2 ⟨r1,List.pairwise_cons.2 ⟨U,r2⟩, ?_⟩, ?_⟩
 . intro a ha b d
   rcases List.mem_cons.1 d with rfl|d
   . exact h1 a ha
   . exact r3 a ha b d
 . intro x hx
   rcases List.mem_append.1 hx with hx|hx
   . exact J x (List.mem_append_left _ hx)
   . rcases List.mem_cons.1 hx with rfl|hx
     . exact O
     . exact J x (List.mem_append_right _ hx)
theorem Pp{L1 L2:HL}{hd hd' :Hd}(h:Lay (L1++(p,hd)::L2))(O:hd'.Ok)(hlen:hd'.len=hd.len):Lay (L1++(p,hd')::L2):=by
 obtain⟨I,J⟩:=h;rw [List.pairwise_append,List.pairwise_cons] at I;obtain⟨r1,⟨r2,U⟩,r3⟩:=I;refine⟨List.pairwise_append.2 ⟨r1,List.pairwise_cons.2 ⟨λy V=>by have:=r2 y V;simp only at this ⊢;omega,U⟩, ?_⟩, ?_⟩
 . intro a ha b d
   rcases List.mem_cons.1 d with rfl|d
   . exact r3 a ha (p,hd) List.mem_cons_self
   . exact r3 a ha b (List.mem_cons_of_mem _ d)
 . intro x hx
   rcases List.mem_append.1 hx with hx|hx
   . exact J x (List.mem_append_left _ hx)
   . rcases List.mem_cons.1 hx with rfl|hx
     . exact O
     . exact J x (List.mem_append_right _ (List.mem_cons_of_mem _ hx))
theorem PM{L1 L2:HL}{x:Nat × Hd}(h:Lay (L1++x::L2)):Lay (L1++L2):=by
 obtain⟨d,I⟩:=h;rw [List.pairwise_append,List.pairwise_cons] at d;obtain⟨r1,⟨r2,J⟩,r3⟩:=d;refine⟨List.pairwise_append.2 ⟨r1,J,λa ha b O=>r3 a ha b (List.mem_cons_of_mem _ O)⟩, ?_⟩;intro x hx;rcases List.mem_append.1 hx with hx|hx
 . exact I x (List.mem_append_left _ hx)
 . exact I x (List.mem_append_right _ (List.mem_cons_of_mem _ hx))
theorem HT{L1 L2:HL}{hd hd' :Hd}(hlen:hd'.len=hd.len):runs (L1++(p,hd')::L2)=runs (L1++(p,hd)::L2):=by
 simp [runs,hlen]
theorem KL:(m ||| 2^k).testBit j=(m.testBit j||decide (k=j)):=by
 rw [Nat.testBit_or,Nat.testBit_two_pow]
theorem Ku{l:List Nat}(J:l.Nodup){f g:Nat->Bool}(U:k∈l)(V:f k=false)(hg: ∀j,g j=(f j||decide (k=j))):(l.filter g).Perm (k::l.filter f):=by
 induction l with
 |nil=>simp at U
 |cons a t d=>
  rw [List.nodup_cons] at J;by_cases O:k=a
  . subst O
    have h1:g k=true:=(by rw [hg];simp);have Z:t.filter g=t.filter f:=List.filter_congr λx hx=>by
     rw [hg,decide_eq_false (by rintro rfl;exact J.1 hx),Bool.or_false]
    rw [List.filter_cons_of_pos h1,List.filter_cons_of_neg (by simp [V]),Z]
  . have aa:k∈t:=by rcases List.mem_cons.1 U with rfl|h;exact absurd rfl O;exact h
    have d:=d J.2 aa;have h1:g a=f a:=by rw [hg,decide_eq_false O,Bool.or_false]
    cases I:f a with
    |true=>
     rw [List.filter_cons_of_pos (by rw [h1,I]),List.filter_cons_of_pos I];exact(d.cons a).trans (List.Perm.swap _ _ _)
    |false=>
     rw [List.filter_cons_of_neg (by simp [h1,I]),List.filter_cons_of_neg (by simp [I])];exact d
theorem Qh(d:k<AX c)(hm:m.testBit k=false):(slotsOf c (m ||| 2^k)).Perm (k::slotsOf c m):=
 Ku List.nodup_range (by simpa using d) hm (λj=>KL)
theorem Oy(d:k<AX c)(hm:m.testBit k=false):(A7 (p, .small c (m ||| 2^k))).Perm ((64*p+2+k*sz c,sz c)::A7 (p, .small c m)):=
 (Qh d hm).map _
def Yfj{P}(h:P:=by
 rw [<-List.append_assoc,<-List.append_assoc];exact List.perm_append_comm.append_right _):=h
theorem FA(L1 L2:HL)(x:Nat × Hd):(blocks (L1++x::L2)).Perm (A7 x++blocks (L1++L2)):=by
 simp only [blocks,List.flatMap_append,List.flatMap_cons];exact Yfj
theorem IM{L1 L2:HL}(d:k<AX c)(hm:m.testBit k=false):(blocks (L1++(p, .small c (m ||| 2^k))::L2)).Perm ((64*p+2+k*sz c,sz c)::blocks (L1++(p, .small c m)::L2)):=
 (FA _ _ _).trans (((Oy d hm).append_right _).trans (((FA L1 L2 (p, .small c m)).symm).cons _))
theorem ZC(d:c<8)(hm:m<2^AX c)(I:k<AX c):(Hd.small c (m ||| 2^k)).Ok:=by
 refine⟨d, ?_,Nat.or_lt_two_pow hm (Nat.pow_lt_pow_of_lt (by omega) I)⟩;intro h;have:=congrArg (λx=>x.testBit k) h;simp at this
theorem GC(hm:m.testBit k=true):(m ^^^ 2^k).testBit j=(m.testBit j&& !decide (k=j)):=by
 rw [Nat.testBit_xor,Nat.testBit_two_pow];by_cases h:k=j
 . subst h;simp [hm]
 . simp [h]
theorem TW(hm:m.testBit k=true):(m ^^^ 2^k) ||| 2^k=m:=by
 apply Nat.eq_of_testBit_eq;intro j;rw [KL,GC hm];by_cases h:k=j
 . subst h;simp [hm]
 . simp [h]
theorem Ug(hm:m.testBit k=true):(m ^^^ 2^k).testBit k=false:=by rw [GC hm];simp
theorem OY{L1 L2:HL}(d:k<AX c)(hm:m.testBit k=true):(blocks (L1++(p, .small c m)::L2)).Perm ((64*p+2+k*sz c,sz c)::blocks (L1++(p, .small c (m ^^^ 2^k))::L2)):=by
 have:=IM (L1:=L1) (L2:=L2) (p:=p) (c:=c) (m:=m ^^^ 2^k) (k:=k) d (Ug hm)
 rwa [TW hm] at this
theorem VF(hm:m<2^AX c)(d:k<AX c):m ^^^ 2^k<2^AX c:=Nat.xor_lt_two_pow hm (Nat.pow_lt_pow_of_lt (by omega) d)
theorem Nc(p c:Nat):A7 (p, .small c 0)= []:=by simp [A7,slotsOf]
theorem GV(L1 L2:HL)(p c:Nat):(blocks (L1++(p, .small c 0)::L2)).Perm (blocks (L1++L2)):=by
 have:=FA L1 L2 (p, .small c 0)
 rwa [Nc,List.nil_append] at this
def Cy(L:HL)(mem:Nat->Nat):Prop:=
 ∀x∈L,match x.2 with
  | .small c m=>mem (64*x.1)=1+256*c/\mem (64*x.1+1)=m
  | .Bz w=>mem (64*x.1)=2+256*((w+65)/64)/\mem (64*x.1+1)=w
theorem Gy{L:HL}(h:Lay L){b:Nat × Nat}(I:b∈blocks L){x:Nat × Hd}(hx:x∈L)(ha:b.1<=a)(U:a<b.1+b.2):a≠64*x.1/\a≠64*x.1+1:=by
 obtain⟨y,d,J⟩:=Ex.1 I;have h1:=CI (h.ok y d) J;have V:=x.2.CZ;have Z:=y.2.CZ;rcases KD h hx d with rfl|O|O<;>omega
theorem Cy.write{L:HL}{mem:Nat->Nat}(h:Cy L mem)(I:Lay L){b:Nat × Nat}(J:b∈blocks L){v:Nat}(ha:b.1<=a)(O:a<b.1+b.2):Cy L (λi=>if i=a then v else mem i):=by
 intro x hx;have h1:=Gy I J hx ha O;have d:=h x hx;obtain⟨p,hd⟩:=x
 cases hd<;>simp only at h1 d ⊢ <;>rw [if_neg (Ne.symm h1.1),if_neg (Ne.symm h1.2)]<;>exact d
theorem G1{L:HL}(h:Lay L){b:Nat × Nat}(I:b∈blocks L)(ha:b.1<=a)(O:a<b.1+b.2):a/64∈runs L:=by
 obtain⟨y,d,J⟩:=Ex.1 I;have h1:=CI (h.ok y d) J;exact CP.2 ⟨y,d,by omega,by omega⟩
theorem MD{x:Nat × Hd}(hx:x.2.Ok):((A7 x).map (·.2)).sum<=64*x.2.len:=by
 obtain⟨p,h⟩:=x
 cases h with
 |small c m=>
  have h1:(A7 (p, .small c m)).map (·.2)=List.replicate (slotsOf c m).length (sz c):=by
   simp only [A7,List.map_map];apply List.eq_replicate_iff.2;constructor
   . simp
   . intro b d;simp at d;exact d.2.symm
  have I:(slotsOf c m).length<=AX c:=by
   have:=List.length_filter_le (λk=>m.testBit k) (List.range (AX c))
   simpa [slotsOf] using this
  rw [h1,List.sum_replicate_nat];have J:AX c*sz c<=62:=by
   have:=hx.1;exact Zz
  have O:=Nat.mul_le_mul_right (sz c) I;simp only [Hd.len];omega
 |Bz w=>
  obtain⟨h1,I⟩:=hx;simp only [A7,Hd.len,List.map_cons,List.map_nil,List.sum_cons,List.sum_nil];omega
theorem LP{L:HL}(h: ∀x∈L,x.2.Ok):((blocks L).map (·.2)).sum<=64*(runs L).length:=by
 induction L with
 |nil=>simp [blocks,runs]
 |cons x t ih=>
  have h1:=MD (h x List.mem_cons_self);have I:=ih (λy d=>h y (List.mem_cons_of_mem _ d));simp only [blocks,runs,List.flatMap_cons,List.map_append,List.sum_append_nat,List.length_append,List.length_range'] at*;omega
