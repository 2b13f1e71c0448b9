/- A part. -/
import Derived.Test.YtiopopoohglepaaGreatDoorPMc
import Derived.OwnWalk
import Derived.ProofKit
set_option linter.all false
namespace Go.Proofs.YtiopopoohglepaaGreatDoor
open Go.Proofs.Tryz
open Go.RowKit Go.Shelf
variable {a c j k m p:Nat}{n:Int}
theorem P4{c:Int}(h:0<=c/\c<8):c=0\/c=1\/c=2\/c=3\/c=4\/c=5\/c=6\/c=7:=by omega
def AY(c:Nat):Nat:=62/sz c
def Ku(c:Int):Value:=if 0<=c/\c<8 then .tuple #[.int .i64 (AY c.toNat:Nat), .int .i64 0] else .tuple #[.int .i64 0, .int .i64 2]
theorem Ve{c:Int}(h: ¬(0<=c/\c<8)):JK c= .tuple #[.int .i64 0, .int .i64 2]:=if_neg h
theorem My{c:Int}(h: ¬(0<=c/\c<8)):Ku c= .tuple #[.int .i64 0, .int .i64 2]:=if_neg h
theorem H8(c:Int)(w:World):Calls prog 93 #[.int .i64 c] w λe w' =>e= .returned (Ku c)/\Below w.heap.size w w' :=by
 by_cases h:0<=c/\c<8
 . rcases P4 h with rfl|rfl|rfl|rfl|rfl|rfl|rfl|rfl<;>
   . clear h
     go_enter func93,ntmps93;go_wp2_with (go_at_call 143;refine(Jg _ _).mono ?_;rintro e w' ⟨rfl,I⟩;dsimp [JK,sz])
     go_ret2
     exact⟨rfl,I⟩
 . rw [My h]
   have J:=Ve h;clear h;go_enter func93,ntmps93;go_wp2_with (go_at_call 143;refine(Jg _ _).mono ?_;rintro e w' ⟨rfl,I⟩;rw [J])
   go_ret2
   exact⟨rfl,I⟩
theorem YO(h: ¬(1<=n/\n<=4000)):GG n= .tuple #[.int .i64 0, .bool false, .int .i64 2]:=by
 simp only [GG,Un,Ug,ME];rw [if_neg (by omega),if_neg h,decide_eq_false (by omega)];rfl
theorem SE(h:1<=n/\n<=4000)(I:28<n):GG n= .tuple #[.int .i64 0, .bool false, .int .i64 0]:=by
 simp only [GG,Un,Ug,ME];rw [if_neg (by omega),if_pos h,decide_eq_false (by omega)];rfl
theorem Nk(h:1<=n/\n<=4000)(J:n<=28)(I:cls n=k):GG n= .tuple #[.int .i64 k, .bool true, .int .i64 0]:=by
 simp only [GG,Un,Ug,ME];rw [if_pos (by omega),if_pos h,decide_eq_true (by omega),I];rfl
def Kt(n:Int):Int:=if 1<=n/\n<=4000 then (if n<=28 then 1 else (n+65)/64) else 0
def F3(n:Int):Value:= .tuple #[.int .i64 (Kt n), .int .i64 (ME n:Nat)]
def Ydn{P}(h:P:=by
 go_enter func98,ntmps98;go_wp2_with (go_at_call 97;refine(Je _ _).mono ?_;rintro e w' ⟨rfl,J⟩;rw [I])
 go_ret2
 exact⟨rfl,J⟩):=h
theorem Nf(n:Int)(w:World):Calls prog 98 #[.int .i64 n] w λe w' =>e= .returned (F3 n)/\Below w.heap.size w w' :=by
 by_cases O:1<=n/\n<=4000
 . by_cases U:n<=28
   focus
    have I:=Nk O U rfl;have hp:F3 n= .tuple #[.int .i64 1, .int .i64 0]:=(by simp only [F3,Kt,ME];rw [if_pos O,if_pos U,if_pos O];rfl);rw [hp];generalize cls n=k at I;clear O U hp
   rotate_left
   focus
    have I:=SE O (by omega);have hp:F3 n= .tuple #[.int .i64 ((n+2+64-1)/64), .int .i64 0]:=by
     simp only [F3,Kt,ME];rw [if_pos O,if_neg U,if_pos O,show n+2+64-1=n+65 by omega];rfl
    rw [hp];clear hp;have h1:0<n:=(by omega);have V:n<=4000:=(by omega);clear U O
   all_goals
    exact Ydn
 . have I:=YO O
   have hp:F3 n= .tuple #[.int .i64 0, .int .i64 2]:=(by simp only [F3,Kt,ME];rw [if_neg O,if_neg O];rfl);rw [hp];clear hp O;exact Ydn
def Nl(c k:Int):Prop:=(0<=c/\c<8)/\0<=k/\k<(AY c.toNat:Nat)
instance (c k:Int):Decidable (Nl c k):=by unfold Nl;infer_instance
def Jf(c k:Int):Value:=if Nl c k then .tuple #[.int .i64 (2+k*(sz c.toNat:Nat)), .int .i64 0] else .tuple #[.int .i64 0, .int .i64 2]
theorem CG(c:Nat):AY c<=31:=by
 unfold AY sz
 (repeat' split)<;>omega
def Ydj{P}(h:P:=by
 go_enter func144,ntmps144;go_wp2_with (go_at_call 93;refine(H8 _ _).mono ?_;rintro e w1 ⟨rfl,I⟩;rw [J])
 go_ret2
 exact⟨rfl,I⟩):=h
theorem UT(c k:Int)(w:World)(aa: -9223372036854775808<=k)(ab:k<=9223372036854775807):Calls prog 144 #[.int .i64 c, .int .i64 k] w λe w' =>e= .returned (Jf c k)/\Below w.heap.size w w' :=by
 by_cases h:0<=c/\c<8
 . have J:Ku c= .tuple #[.int .i64 (AY c.toNat:Nat), .int .i64 0]:=if_pos h
   have U:JK c= .tuple #[.int .i64 (sz c.toNat:Nat), .int .i64 0]:=if_pos h;have ac:=CG c.toNat;have ae:sz c.toNat<=31:=by
    obtain⟨h1,_⟩:=Na c.toNat (by omega);omega
   by_cases O:0<=k/\k<(AY c.toNat:Nat)
   . have hp:Jf c k= .tuple #[.int .i64 (2+k*(sz c.toNat:Nat)), .int .i64 0]:=if_pos ⟨h,O⟩
     rw [hp];clear hp;generalize AY c.toNat=m at*;generalize sz c.toNat=s at*;obtain⟨V,af⟩:=O;have d1:decide (k<0)=false:=(by simp;omega);have d2:decide ((m:Int)<=k)=false:=(by simp;omega);have ag:0<=k*(s:Int):=Int.mul_nonneg V (by omega);have ah:k*(s:Int)<=31*31:=Int.mul_le_mul (by omega) (by omega) (by omega) (by omega);clear h;go_enter func144,ntmps144;go_wp2_with (first|(go_at_call 93;refine(H8 _ _).mono ?_;rintro e w1 ⟨rfl,I⟩;rw [J])|(go_at_call 143;refine(Jg _ _).mono ?_;rintro e w2 ⟨rfl,Z⟩;rw [U]))
     go_ret2
     exact⟨rfl,I.trans (Z.mono I.size)⟩
   . have hp:Jf c k= .tuple #[.int .i64 0, .int .i64 2]:=if_neg (λhh=>O hh.2)
     rw [hp];clear hp;generalize AY c.toNat=m at*;by_cases ai:k<0
     focus
      have d1:decide (k<0)=true:=by simp;omega
     rotate_left
     focus
      have d1:decide (k<0)=false:=(by simp;omega);have d2:decide ((m:Int)<=k)=true:=by simp;omega
     all_goals
      clear h O;exact Ydj
 . have J:=My h
   have hp:Jf c k= .tuple #[.int .i64 0, .int .i64 2]:=if_neg (λhh=>h hh.1);rw [hp];clear h hp;exact Ydj
inductive Hd where
 |small (c m:Nat)
 |Bx (w:Nat)
def Hd.len:Hd->Nat
 | .small _ _=>1
 | .Bx w=>(w+65)/64
def Hd.Ok:Hd->Prop
 | .small c m=>c<8/\m≠0/\m<2^AY c
 | .Bx w=>28<w/\w<=4000
abbrev HL:=List (Nat × Hd)
def runs(L:HL):List Nat:=L.flatMap λx=>List.range' x.1 x.2.len
def slotsOf(c m:Nat):List Nat:=(List.range (AY c)).filter λk=>m.testBit k
def A8(x:Nat × Hd):List (Nat × Nat):=
 match x.2 with
 | .small c m=>(slotsOf c m).map λk=>(64*x.1+2+k*sz c,sz c)
 | .Bx w=> [(64*x.1+2,w)]
def blocks(L:HL):List (Nat × Nat):=L.flatMap A8
structure Lay(L:HL):Prop where
 CY:L.Pairwise λa b=>a.1+a.2.len<=b.1
 ok: ∀x∈L,x.2.Ok
theorem Hd.C6(h:Hd):1<=h.len:=by
 cases h<;>simp [Hd.len];omega
theorem Fb(c k:Nat)(J:c<8)(I:k<AY c):2+k*sz c+sz c<=64:=by
 have:c=0\/c=1\/c=2\/c=3\/c=4\/c=5\/c=6\/c=7:=by omega
 rcases this with rfl|rfl|rfl|rfl|rfl|rfl|rfl|rfl<;>simp [AY,sz] at I ⊢ <;>omega
theorem FV:k∈slotsOf c m↔k<AY c/\m.testBit k=true:=by simp [slotsOf]
theorem QE(c:Nat):2<=sz c:=by unfold sz;(repeat' split)<;>omega
theorem CJ{x:Nat × Hd}(hx:x.2.Ok){b:Nat × Nat}(I:b∈A8 x):64*x.1+2<=b.1/\b.1+b.2<=64*(x.1+x.2.len)/\2<=b.2:=by
 obtain⟨p,h⟩:=x
 cases h with
 |small c m=>
  simp only [A8,List.mem_map] at I;obtain⟨k,J,rfl⟩:=I;have:=Fb c k hx.1 (FV.1 J).1;have:=QE c;simp only [Hd.len];omega
 |Bx w=>
  simp only [A8,List.mem_singleton] at I;subst I;obtain⟨h1,O⟩:=hx;simp only [Hd.len];omega
theorem OL(c m:Nat):(slotsOf c m).Pairwise (· < ·):=List.Pairwise.filter _ List.pairwise_lt_range
theorem Ou(x:Nat × Hd):(A8 x).Pairwise λa b=>a.1+a.2<=b.1:=by
 obtain⟨p,h⟩:=x
 cases h with
 |small c m=>
  simp only [A8];rw [List.pairwise_map];refine(OL c m).imp ?_;intro i j I;have:(i+1)*sz c<=j*sz c:=Nat.mul_le_mul_right _ I;rw [Nat.add_mul] at this;simp only;omega
 |Bx w=>simp [A8]
theorem Ey{L:HL}{b:Nat × Nat}:b∈blocks L↔ ∃x∈L,b∈A8 x:=by simp only [blocks,List.mem_flatMap]
theorem CS{L:HL}:p∈runs L↔ ∃x∈L,x.1<=p/\p<x.1+x.2.len:=by
 simp only [runs,List.mem_flatMap,List.mem_range'_1]
theorem KD{L:HL}(h:Lay L):(blocks L).Pairwise λa b=>a.1+a.2<=b.1:=by
 obtain⟨J,O⟩:=h
 induction L with
 |nil=>exact List.Pairwise.nil
 |cons x t ih=>
  rw [List.pairwise_cons] at J;simp only [blocks,List.flatMap_cons];rw [List.pairwise_append];refine⟨Ou x,ih J.2 (λy I=>O y (List.mem_cons_of_mem _ I)), ?_⟩;intro a ha b U;obtain⟨y,I,U⟩:=Ey.1 U;have h1:=CJ (O x List.mem_cons_self) ha;have V:=CJ (O y (List.mem_cons_of_mem _ I)) U;have Z:=J.1 y I;omega
theorem JS{L:HL}(h:Lay L):(runs L).Pairwise (· < ·):=by
 obtain⟨I,U⟩:=h
 induction L with
 |nil=>exact List.Pairwise.nil
 |cons x t ih=>
  rw [List.pairwise_cons] at I;simp only [runs,List.flatMap_cons];rw [List.pairwise_append];refine⟨List.pairwise_lt_range',ih I.2 (λy J=>U y (List.mem_cons_of_mem _ J)), ?_⟩;intro a ha b O;obtain⟨y,J,O⟩:=CS.1 O;rw [List.mem_range'_1] at ha;have V:=I.1 y J;omega
theorem Fe{L:HL}(h:Lay L){a b:Nat × Nat}(ha:a∈blocks L)(O:b∈blocks L):a=b\/a.1+a.2<=b.1\/b.1+b.2<=a.1:=by
 have J:=KD h;generalize blocks L=l at*
 induction l with
 |nil=>simp at ha
 |cons x t ih=>
  rw [List.pairwise_cons] at J;rcases List.mem_cons.1 ha with h1|h1
  . rcases List.mem_cons.1 O with I|I
    . exact .inl (h1.trans I.symm)
    . exact .inr (.inl (h1▸J.1 b I))
  . rcases List.mem_cons.1 O with I|I
    . exact .inr (.inr (I▸J.1 a h1))
    . exact ih h1 I J.2
theorem KF{L:HL}(h:Lay L){x y:Nat × Hd}(hx:x∈L)(O:y∈L):x=y\/x.1+x.2.len<=y.1\/y.1+y.2.len<=x.1:=by
 have J:=h.CY;clear h
 induction L with
 |nil=>simp at hx
 |cons z t ih=>
  rw [List.pairwise_cons] at J;rcases List.mem_cons.1 hx with h1|h1
  . rcases List.mem_cons.1 O with I|I
    . exact .inl (h1.trans I.symm)
    . exact .inr (.inl (h1▸J.1 y I))
  . rcases List.mem_cons.1 O with I|I
    . exact .inr (.inr (I▸J.1 x h1))
    . exact ih h1 I J.2
theorem Nj{L:HL}(h:Lay L)(p n:Nat)(ac:1<=n)(O: ∀k,k<n->p+k∉runs L):
 ∃L1 L2,L=L1++L2/\(∀x∈L1,x.1+x.2.len<=p)/\ ∀x∈L2,p+n<=x.1:=by
 obtain⟨U,Z⟩:=h
 induction L with
 |nil=>exact⟨[],[],rfl,by simp,by simp⟩
 |cons x t ih=>
  rw [List.pairwise_cons] at U;have ae:=x.2.C6;by_cases hx:x.1<p
  . have h1:x.1+x.2.len<=p:=by
     by_cases hh:x.1+x.2.len<=p
     . exact hh
     . exact absurd (CS.2 ⟨x,List.mem_cons_self,by omega,by omega⟩) (O 0 (by omega))
    obtain⟨L1,L2,rfl,J,aa⟩:=ih (λk ab hm=>by
     obtain⟨y,I,hm⟩:=CS.1 hm;exact O k ab (CS.2 ⟨y,List.mem_cons_of_mem _ I,hm⟩)) U.2 (λy I=>Z y (List.mem_cons_of_mem _ I))
    exact⟨x::L1,L2,rfl,λy I=>by rcases List.mem_cons.1 I with rfl|I;exact h1;exact J y I,aa⟩
  . have h1:p+n<=x.1:=by
     by_cases hh:p+n<=x.1
     . exact hh
     . have V:=O (x.1-p) (by omega)
       rw [show p+(x.1-p)=x.1 by omega] at V;exact absurd (CS.2 ⟨x,List.mem_cons_self,Nat.le_refl _,by omega⟩) V
    refine⟨[],x::t,rfl,by simp,λy I=> ?_⟩;rcases List.mem_cons.1 I with J|J
    . exact J▸h1
    . have:=U.1 y J;omega
theorem Ms{L1 L2:HL}(h:Lay (L1++L2)){hd:Hd}(U:hd.Ok)(h1: ∀x∈L1,x.1+x.2.len<=p)(V: ∀x∈L2,p+hd.len<=x.1):Lay (L1++(p,hd)::L2):=by
 obtain⟨J,O⟩:=h;rw [List.pairwise_append] at J;obtain⟨r1,r2,r3⟩:=J;refine⟨List.pairwise_append.2 ⟨r1,List.pairwise_cons.2 ⟨V,r2⟩, ?_⟩, ?_⟩
 . intro a ha b I
   rcases List.mem_cons.1 I with rfl|I
   . exact h1 a ha
   . exact r3 a ha b I
 . intro x hx
   rcases List.mem_append.1 hx with hx|hx
   . exact O x (List.mem_append_left _ hx)
   . rcases List.mem_cons.1 hx with rfl|hx
     . exact U
     . exact O x (List.mem_append_right _ hx)
theorem Pv{L1 L2:HL}{hd hd' :Hd}(h:Lay (L1++(p,hd)::L2))(U:hd'.Ok)(hlen:hd'.len=hd.len):Lay (L1++(p,hd')::L2):=by
 obtain⟨J,O⟩:=h;rw [List.pairwise_append,List.pairwise_cons] at J;obtain⟨r1,⟨r2,V⟩,r3⟩:=J;refine⟨List.pairwise_append.2 ⟨r1,List.pairwise_cons.2 ⟨λy Z=>by have:=r2 y Z;simp only at this ⊢;omega,V⟩, ?_⟩, ?_⟩
 . intro a ha b I
   rcases List.mem_cons.1 I with rfl|I
   . exact r3 a ha (p,hd) List.mem_cons_self
   . exact r3 a ha b (List.mem_cons_of_mem _ I)
 . intro x hx
   rcases List.mem_append.1 hx with hx|hx
   . exact O x (List.mem_append_left _ hx)
   . rcases List.mem_cons.1 hx with rfl|hx
     . exact U
     . exact O x (List.mem_append_right _ (List.mem_cons_of_mem _ hx))
theorem PU{L1 L2:HL}{x:Nat × Hd}(h:Lay (L1++x::L2)):Lay (L1++L2):=by
 obtain⟨I,J⟩:=h;rw [List.pairwise_append,List.pairwise_cons] at I;obtain⟨r1,⟨r2,O⟩,r3⟩:=I;refine⟨List.pairwise_append.2 ⟨r1,O,λa ha b U=>r3 a ha b (List.mem_cons_of_mem _ U)⟩, ?_⟩;intro x hx;rcases List.mem_append.1 hx with hx|hx
 . exact J x (List.mem_append_left _ hx)
 . exact J x (List.mem_append_right _ (List.mem_cons_of_mem _ hx))
theorem HR{L1 L2:HL}{hd hd' :Hd}(hlen:hd'.len=hd.len):runs (L1++(p,hd')::L2)=runs (L1++(p,hd)::L2):=by
 simp [runs,hlen]
theorem KN:(m ||| 2^k).testBit j=(m.testBit j||decide (k=j)):=by
 rw [Nat.testBit_or,Nat.testBit_two_pow]
theorem Kv{l:List Nat}(O:l.Nodup){f g:Nat->Bool}(V:k∈l)(Z:f k=false)(hg: ∀j,g j=(f j||decide (k=j))):(l.filter g).Perm (k::l.filter f):=by
 induction l with
 |nil=>simp at V
 |cons a t I=>
  rw [List.nodup_cons] at O;by_cases U:k=a
  . subst U
    have h1:g k=true:=(by rw [hg];simp);have aa:t.filter g=t.filter f:=List.filter_congr λx hx=>by
     rw [hg,decide_eq_false (by rintro rfl;exact O.1 hx),Bool.or_false]
    rw [List.filter_cons_of_pos h1,List.filter_cons_of_neg (by simp [Z]),aa]
  . have ab:k∈t:=by rcases List.mem_cons.1 V with rfl|h;exact absurd rfl U;exact h
    have I:=I O.2 ab;have h1:g a=f a:=by rw [hg,decide_eq_false U,Bool.or_false]
    cases J:f a with
    |true=>
     rw [List.filter_cons_of_pos (by rw [h1,J]),List.filter_cons_of_pos J];exact(I.cons a).trans (List.Perm.swap _ _ _)
    |false=>
     rw [List.filter_cons_of_neg (by simp [h1,J]),List.filter_cons_of_neg (by simp [J])];exact I
theorem Qp(I:k<AY c)(hm:m.testBit k=false):(slotsOf c (m ||| 2^k)).Perm (k::slotsOf c m):=
 Kv List.nodup_range (by simpa using I) hm (λj=>KN)
theorem OC(I:k<AY c)(hm:m.testBit k=false):(A8 (p, .small c (m ||| 2^k))).Perm ((64*p+2+k*sz c,sz c)::A8 (p, .small c m)):=
 (Qp I hm).map _
def Yfn{P}(h:P:=by
 rw [<-List.append_assoc,<-List.append_assoc];exact List.perm_append_comm.append_right _):=h
theorem FE(L1 L2:HL)(x:Nat × Hd):(blocks (L1++x::L2)).Perm (A8 x++blocks (L1++L2)):=by
 simp only [blocks,List.flatMap_append,List.flatMap_cons];exact Yfn
theorem II{L1 L2:HL}(I:k<AY c)(hm:m.testBit k=false):(blocks (L1++(p, .small c (m ||| 2^k))::L2)).Perm ((64*p+2+k*sz c,sz c)::blocks (L1++(p, .small c m)::L2)):=
 (FE _ _ _).trans (((OC I hm).append_right _).trans (((FE L1 L2 (p, .small c m)).symm).cons _))
theorem Z8(I:c<8)(hm:m<2^AY c)(J:k<AY c):(Hd.small c (m ||| 2^k)).Ok:=by
 refine⟨I, ?_,Nat.or_lt_two_pow hm (Nat.pow_lt_pow_of_lt (by omega) J)⟩;intro h;have:=congrArg (λx=>x.testBit k) h;simp at this
theorem GC(hm:m.testBit k=true):(m ^^^ 2^k).testBit j=(m.testBit j&& !decide (k=j)):=by
 rw [Nat.testBit_xor,Nat.testBit_two_pow];by_cases h:k=j
 . subst h;simp [hm]
 . simp [h]
theorem Ue(hm:m.testBit k=true):(m ^^^ 2^k) ||| 2^k=m:=by
 apply Nat.eq_of_testBit_eq;intro j;rw [KN,GC hm];by_cases h:k=j
 . subst h;simp [hm]
 . simp [h]
theorem UB(hm:m.testBit k=true):(m ^^^ 2^k).testBit k=false:=by rw [GC hm];simp
theorem O1{L1 L2:HL}(I:k<AY c)(hm:m.testBit k=true):(blocks (L1++(p, .small c m)::L2)).Perm ((64*p+2+k*sz c,sz c)::blocks (L1++(p, .small c (m ^^^ 2^k))::L2)):=by
 have:=II (L1:=L1) (L2:=L2) (p:=p) (c:=c) (m:=m ^^^ 2^k) (k:=k) I (UB hm)
 rwa [Ue hm] at this
theorem V0(hm:m<2^AY c)(I:k<AY c):m ^^^ 2^k<2^AY c:=Nat.xor_lt_two_pow hm (Nat.pow_lt_pow_of_lt (by omega) I)
theorem Ng(p c:Nat):A8 (p, .small c 0)= []:=by simp [A8,slotsOf]
theorem GR(L1 L2:HL)(p c:Nat):(blocks (L1++(p, .small c 0)::L2)).Perm (blocks (L1++L2)):=by
 have:=FE L1 L2 (p, .small c 0)
 rwa [Ng,List.nil_append] at this
def Cz(L:HL)(mem:Nat->Nat):Prop:=
 ∀x∈L,match x.2 with
  | .small c m=>mem (64*x.1)=1+256*c/\mem (64*x.1+1)=m
  | .Bx w=>mem (64*x.1)=2+256*((w+65)/64)/\mem (64*x.1+1)=w
theorem Gy{L:HL}(h:Lay L){b:Nat × Nat}(J:b∈blocks L){x:Nat × Hd}(hx:x∈L)(ha:b.1<=a)(V:a<b.1+b.2):a≠64*x.1/\a≠64*x.1+1:=by
 obtain⟨y,I,O⟩:=Ey.1 J;have h1:=CJ (h.ok y I) O;have Z:=x.2.C6;have aa:=y.2.C6;rcases KF h hx I with rfl|U|U<;>omega
theorem Cz.write{L:HL}{mem:Nat->Nat}(h:Cz L mem)(J:Lay L){b:Nat × Nat}(O:b∈blocks L){v:Nat}(ha:b.1<=a)(U:a<b.1+b.2):Cz L (λi=>if i=a then v else mem i):=by
 intro x hx;have h1:=Gy J O hx ha U;have I:=h x hx;obtain⟨p,hd⟩:=x
 cases hd<;>simp only at h1 I ⊢ <;>rw [if_neg (Ne.symm h1.1),if_neg (Ne.symm h1.2)]<;>exact I
theorem GZ{L:HL}(h:Lay L){b:Nat × Nat}(J:b∈blocks L)(ha:b.1<=a)(U:a<b.1+b.2):a/64∈runs L:=by
 obtain⟨y,I,O⟩:=Ey.1 J;have h1:=CJ (h.ok y I) O;exact CS.2 ⟨y,I,by omega,by omega⟩
theorem MI{x:Nat × Hd}(hx:x.2.Ok):((A8 x).map (·.2)).sum<=64*x.2.len:=by
 obtain⟨p,h⟩:=x
 cases h with
 |small c m=>
  have h1:(A8 (p, .small c m)).map (·.2)=List.replicate (slotsOf c m).length (sz c):=by
   simp only [A8,List.map_map];apply List.eq_replicate_iff.2;constructor
   . simp
   . intro b I;simp at I;exact I.2.symm
  have J:(slotsOf c m).length<=AY c:=by
   have:=List.length_filter_le (λk=>m.testBit k) (List.range (AY c))
   simpa [slotsOf] using this
  rw [h1,List.sum_replicate_nat];have O:AY c*sz c<=62:=by
   have:=hx.1;exact Zc
  have U:=Nat.mul_le_mul_right (sz c) J;simp only [Hd.len];omega
 |Bx w=>
  obtain⟨h1,J⟩:=hx;simp only [A8,Hd.len,List.map_cons,List.map_nil,List.sum_cons,List.sum_nil];omega
theorem LW{L:HL}(h: ∀x∈L,x.2.Ok):((blocks L).map (·.2)).sum<=64*(runs L).length:=by
 induction L with
 |nil=>simp [blocks,runs]
 |cons x t ih=>
  have h1:=MI (h x List.mem_cons_self);have J:=ih (λy I=>h y (List.mem_cons_of_mem _ I));simp only [blocks,runs,List.flatMap_cons,List.map_append,List.sum_append_nat,List.length_append,List.length_range'] at*;omega
