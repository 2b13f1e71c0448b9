/- A part. -/
import Derived.Test.YtiopopoohglepaaGreatDoorPMp
import Derived.Laws.AppendOwnNone
import Derived.Deep.QuietTactic
set_option linter.all false
set_option maxRecDepth 100000
set_option maxHeartbeats 2000000
namespace Go.Proofs.YtiopopoohglepaaGreatDoor
open Go.Proofs.Tryz
open Go.RowKit Go.Shelf
variable {A:Option Addr}{B b base c k n:Nat}{F F':Nat->Prop}{R:Zr}{W w:World}{e t:TypeId}{u v x y z:Value}{xs:List Value}
abbrev Pr:=ByteArray × ByteArray
def B5(l:List Pr):List Value:=l.flatMap λp=> [.string p.1, .string p.2]
theorem WW(l:List Pr):(B5 l).length=l.length*2:=by
 induction l with
 |nil=>rfl
 |cons p l ih=>simp only [B5,List.flatMap_cons,List.length_append,List.length_cons,List.length_nil] at ih ⊢;omega
theorem Qy(l m:List Pr):B5 (l++m)=B5 l++B5 m:=by simp [B5]
theorem NA: ∀(l:List Pr) (k:Nat) (h:k<l.length),(B5 l)[k*2]? =some (.string l[k].1)/\(B5 l)[k*2+1]? =some (.string l[k].2)
 |p::l,0,_=>⟨rfl,rfl⟩
 |p::l,k+1,h=>by
  have:=NA l k (by simpa using h);rw [show(k+1)*2=k*2+2 by omega];exact this
theorem N0: ∀(l:List Pr) (k:Nat),B5 (l.drop k)=(B5 l).drop (k*2)
 | [],k=>by simp [B5]
 |p::l,0=>by simp
 |p::l,k+1=>by
  rw [List.drop_succ_cons,N0 l k,show(k+1)*2=k*2+2 by omega];rfl
theorem Nu: ∀(l:List Pr) (k:Nat),B5 (l.take k)=(B5 l).take (k*2)
 | [],k=>by simp [B5]
 |p::l,0=>by simp [B5]
 |p::l,k+1=>by
  rw [List.take_succ_cons,show(k+1)*2=k*2+2 by omega]
  show [Value.string p.1,Value.string p.2]++B5 (l.take k)=_
  rw [Nu l k];rfl
theorem Wr(l:List Pr): ∀u∈B5 l,u.oneCell' =true:=by
 intro u hu;obtain⟨p,_,hp⟩:=List.mem_flatMap.1 hu;rcases List.mem_cons.1 hp with rfl|hp
 . rfl
 . rcases List.mem_cons.1 hp with rfl|hp
   . rfl
   . simp at hp
def D8(w:World)(B:Nat)(A:Option Addr)(l:List Pr):Prop:=
 l= []\/ ∃b o,A=some ⟨b,o,none⟩/\b<B/\ ∀j u,(B5 l)[j]? =some u->w.cell? ⟨b,o+j,none⟩=some u
section
variable {w':World} {B':Nat}  {l:List Pr}
theorem D8.keep(h:D8 w B A l)(J: ∀b,b<B->w'.heap[b]? =w.heap[b]?):D8 w' B A l:=by
 rcases h with h|⟨b,o,rfl,I,O⟩
 . exact .inl h
 . exact .inr ⟨b,o,rfl,I,λj u hu=>(World.cell?_of_block (a:=⟨b,o+j,none⟩) (J b I)).trans (O j u hu)⟩
theorem D8.below(h:D8 w B A l)(I:Below B w w'):D8 w' B A l:=h.keep λb J=>I.block b J
theorem D8.more(h:D8 w B A l)(J:B<=B'):D8 w B' A l:=by
 rcases h with h|⟨b,o,rfl,O,I⟩
 . exact .inl h
 . exact .inr ⟨b,o,rfl,by omega,I⟩
theorem D8.at' (h:D8 w B A l)(I:k<l.length): ∃b o,A=some ⟨b,o,none⟩/\b<B/\w.cell? ⟨b,o+k*2,none⟩=some (.string l[k].1)/\w.cell? ⟨b,o+k*2+1,none⟩=some (.string l[k].2):=by
 rcases h with rfl|⟨b,o,rfl,O,J⟩
 . simp at I
 . obtain⟨h1,U⟩:=NA l k I
   exact⟨b,o,rfl,O,J _ _ h1,by rw [Nat.add_assoc];exact J _ _ U⟩
theorem D8.take(h:D8 w B A l)(k:Nat):D8 w B A (l.take k):=by
 rcases h with rfl|⟨b,o,rfl,I,J⟩
 . left;simp
 . refine .inr ⟨b,o,rfl,I,λj u hu=>J j u ?_⟩
   rw [Nu,List.getElem?_take] at hu
   split at hu
   . exact hu
   . cases hu
theorem D8.drop(h:D8 w B A l)(O:k<=l.length)(U:l.length<=c):D8 w B (if c=k then A else A.map (·.add (k*2))) (l.drop k):=by
 by_cases he:k=l.length
 . subst he;left;simp
 . rcases h with rfl|⟨b,o,rfl,I,J⟩
   . left;simp
   . rw [if_neg (by omega)]
     refine .inr ⟨b,o+k*2, ?_,I,λj u hu=> ?_⟩
     . show some ((⟨b,o,none⟩:Addr).add (k*2))=_
       unfold Addr.add;split<;>simp_all
     . rw [Nat.add_assoc]
       refine J _ _ ?_;rw [N0,List.getElem?_drop] at hu;exact hu
theorem D8.ZI(h:w.ownsRow base 45 2 (.slice A n c) n (B5 l))(O:n=l.length):D8 w w.heap.size A l:=by
 by_cases I:l= []
 . exact .inl I
 . right
   have hp:0<l.length:=List.length_pos_iff.2 I;rcases h.2 with ⟨_,h0⟩|⟨g,cap,cur,J,U,hg,_⟩
   . omega
   . cases J
     refine⟨g,0,rfl,(Array.getElem?_eq_some_iff.1 hg).1,λj u hu=> ?_⟩;have:=h.cells (g:=g) rfl j u hu;rw [show(⟨g,0,none⟩:Addr).add j=⟨g,j,none⟩ by unfold Addr.add;split<;>simp_all] at this
     rw [Nat.zero_add];exact this
theorem Tryz.KO:Tryz.prog.underlying 38=some (.slice 45):=by kernel_rfl
theorem Tryz.T5:(Tryz.prog.info? 45).map (λi=>(i.zero,i.size,i.bytes))=some (some (.agg #[.string ⟨#[]⟩, .string ⟨#[]⟩]),2,32):=by kernel_rfl
theorem Hl{ops:Array Oper}{rest:List Oper}{o:Oper}{a:Act}{Q:Exit->Act->World->Prop}(O:o.guard=none)(s x:Operand)
 (U:o.op= .call { callee:= .builtin .append,args:= #[s,x],argTypes:= #[38,38] }) (w:World) (base:Nat) (v:Value) (xs:List Pr) (hs:a.eval s=v)
 (J:w.ownsRow base 45 2 v xs.length (B5 xs)) (B:Nat) (A:Option Addr) (m c:Nat) (I:List Pr) (hx:a.eval x= .slice A m c) (hm:m=I.length) (V:D8 w B A I) (hA:A=none->c=0) (hlen:xs.length+I.length<=4398046511104) (Z:base<=w.heap.size)
 (h: ∀v' w',w'.ownsRow base 45 2 v' (xs++I).length (B5 (xs++I))->w.grownBy w' v.ownBlock->(v'.ownBlock=v.ownBlock\/v'.ownBlock=some w.heap.size)->wpList prog ops Q rest (a.put o.dst v') w'):
 wpList prog ops Q (o::rest) a w:=by
 obtain⟨i0,hi,aa,ab,ac⟩:=info_parts Tryz.T5;subst hm
 cases A with
 |none=>
  have ae:I= []:=by
   rcases V with h|⟨b,o,h,_⟩
   . exact h
   . cases h
  subst ae;have:=hA rfl;subst this;refine wpList_append_own_none O s x 38 U base 45 i0 2 Tryz.KO hi v xs.length (B5 xs) hs J hx ?_;exact h v w (by simpa using J) (World.grownBy.refl w _) (.inl rfl)
 |some ad=>
  have af: ∀j u,(B5 I)[j]? =some u->w.cell? (ad.add j)=some u:=by
   intro j u hu;rcases V with rfl|⟨b,o,ag,_,ah⟩
   . simp [B5] at hu
   . cases ag
     rw [show(⟨b,o,none⟩:Addr).add j=⟨b,o+j,none⟩ by unfold Addr.add;split<;>simp_all]
     exact ah j u hu
  refine wpList_append_own_at w O s x 38 U base 45 i0 (.agg #[.string ⟨#[]⟩, .string ⟨#[]⟩]) 2 32 Tryz.KO hi aa ab ac rfl (by decide) v xs.length (B5 xs) hs J ad I.length c (B5 I) hx (WW I) af (Wr I) (by unfold maxLen;omega) (by omega) Z ?_;intro v' w' h1 ai _ aj;exact h v' w' (by rw [List.length_append,Qy];exact h1) ai aj
end
theorem Yf(a b:ByteArray)(w:World)(ha:a.size<=9223372036854775807)(I:b.size<=9223372036854775807):
 Calls prog 113 #[.string a, .string b] w λe w' =>e= .returned (.int .i64 (Tx.cmp a b))/\Below w.heap.size w w' :=
 (Tx.SK a b w ha I).mono λe w' ⟨he,d,hd⟩=>⟨he,by rw [hd];exact Tx.AL w d⟩
theorem S9(l:List Pr)(k:Nat)(h:k<l.length)(key:ByteArray):AE (l.take (k+1)) key=AE (l.take k) key+if Tx.cmp l[k].1 key<0 then 1 else 0:=by
 rw [List.take_succ_eq_append_getElem h,C8,GM];simp [AE]
def JL(l:List Pr):Prop:= ∀p∈l,p.1.size<=9223372036854775807/\p.2.size<=9223372036854775807
theorem Mw{l:List Pr}(h:D8 w B A l)(ac:B<=w.heap.size)(an:l.length<=4398046511104)(hs:JL l)(key:ByteArray)(ae:key.size<=9223372036854775807):
 Calls prog 64 #[.slice A l.length c, .string key] w λe w' =>e= .returned (.int .i64 (AE l key:Nat))/\Below w.heap.size w w' :=by
 have af:=Zh h;have ag:=Zh (λ(p:Pr) (hp:p∈l) (W:World)=>Yf p.1 key W (hs p hp).1 ae);clear h hs;go_enter func64,ntmps64;go_wp2_with fail
 go_loopw [5,6] (λah J wr=> ∃k:Nat,k<=l.length/\J= .int .i64 k/\ah= .int .i64 (AE (l.take k) key:Nat)/\Hid (Below w.heap.size w wr)) (λ_ J _=>l.length-(intOf J).toNat)
 case atStart=>exact⟨0,by omega,rfl,rfl,Zh (Below.refl _ _)⟩
 case round=>
  obtain⟨k,ao,rfl,rfl,I⟩:=hrel;have U:=D0 (l.take k) key;rw [List.length_take] at U;have aq:AE (l.take k) key<=k:=by omega
  by_cases O:k<l.length
  . obtain⟨b,o,hA,_,c1,_⟩:=(af.below (I.mono ac)).at' O
    have V:=Zh (S9 l k O key);have Z:=Zh (ag l[k] (List.getElem_mem O));generalize l[k]=p at*;obtain⟨z,aa⟩: ∃z,Tx.cmp p.1 key=z:=⟨_,rfl⟩;rw [aa] at V Z;clear aa U;generalize ai:AE (l.take k) key=n9 at*;clear ai;subst hA;have aj:z<0\/ ¬z<0:=(by omega);rcases aj with h0|h0
    all_goals
     go_wp2_with fail;refine(Z _).mono ?_;rintro e w1 ⟨rfl,ab⟩;have al:=Zh (I.trans (ab.mono I.size));clear ab c1;go_wp2;go_roundw
     case rel=>exact⟨k+1,by omega,by go_num,by rw [V.out];first|(rw [if_pos h0];go_num)|(rw [if_neg (by omega)];rfl),al⟩
     case measure=>simp [intOf];omega
  . obtain rfl:k=l.length:=by omega
    have am:Hid (AE (l.take l.length) key=AE l key):=Zh (by rw [List.take_length]);go_wp2;go_ret;exact⟨by rw [am.out];rfl,I⟩
theorem SW(a b:ByteArray):(a.toList==b.toList)=decide (a=b):=by
 rw [Tx.XT,Bool.eq_iff_iff,beq_iff_eq,decide_eq_true_iff,Cp]
def Dc(l:List Pr)(p:Pr):List Pr:=l.take (AE l p.1)++p::l.drop (if (l[AE l p.1]?).map (·.1)=some p.1 then AE l p.1+1 else AE l p.1)
def Ycz{P}(h:P:=by
 rcases List.mem_append.1 h with h|h
 . exact .inr (List.mem_of_mem_take h)
 . rcases List.mem_cons.1 h with h|h
   . exact .inl h
   . exact .inr (List.mem_of_mem_drop h)):=h
theorem PG{l:List Pr}{p q:Pr}(h:q∈Dc l p):q=p\/q∈l:=by
 unfold Dc at h;exact Ycz
theorem JL.put{l:List Pr}{p:Pr}(h:JL l)(hp:p.1.size<=9223372036854775807/\p.2.size<=9223372036854775807):JL (Dc l p):=λq I=>by
 rcases PG I with rfl|I
 . exact hp
 . exact h q I
theorem YA(h:w.ownsRow base e 2 v n xs)(I:v.ownBlock=some k):base<=k/\k<w.heap.size:=by
 rcases h.2 with ⟨rfl,_⟩|⟨g,cap,cur,rfl,J,O,_⟩
 . simp [Value.ownBlock] at I
 . have:g=k:=by simpa [Value.ownBlock] using I
   subst this;exact⟨J,(Array.getElem?_eq_some_iff.1 O).1⟩
theorem M5{I size:Nat}(h:w.ownsRow base e size v n xs)(O:I <=base):w.ownsRow I e size v n xs:=by
 refine⟨h.1, ?_⟩;rcases h.2 with h0|⟨g,cap,cur,h1,U,J⟩
 . exact .inl h0
 . exact .inr ⟨g,cap,cur,h1,by omega,J⟩
theorem Nx(w:World)(e:TypeId):(w.alloc (.cells #[] e)).ownsRow w.heap.size e 2 (.slice (some ⟨w.heap.size,0,none⟩) 0 0) 0 []:=
 ⟨rfl, .inr ⟨w.heap.size,0, #[],rfl,Nat.le_refl _,World.alloc_heap_new w _,Nat.le_refl _,Nat.zero_le _,rfl,rfl⟩⟩
theorem YQ(w:World)(p:Pr):D8 (w.alloc (.cells #[.string p.1, .string p.2] 45)) (w.heap.size+1) (some ⟨w.heap.size,0,none⟩) [p]:=by
 refine .inr ⟨w.heap.size,0,rfl,by omega,λj u hu=> ?_⟩;have I:(w.alloc (.cells #[.string p.1, .string p.2] 45)).heap[w.heap.size]? =some (.cells #[.string p.1, .string p.2] 45 (0,0)):=World.alloc_heap_new w _;generalize w.alloc (.cells #[.string p.1, .string p.2] 45)=V at*;rcases j with _|_|j
 . simp [B5] at hu;subst hu;simp [World.cell?,I]
 . simp [B5] at hu;subst hu;simp [World.cell?,I]
 . simp [B5] at hu
theorem LX(A:Option Addr)(n k c:Nat)(O:k<=n)(U:n<=c): ∃I,(∀W,(Instr.sliceAt 38 (.slice A n c) (some (.int .i64 k)) none none).run prog W= .ok (.slice I (n-k) (c-k)) W)/\(∀W,(Instr.slice 38 (.slice A n c) (some (.int .i64 k)) none none).run prog W= .ok (.slice I (n-k) (c-k)) W)/\
 (∀(W:World) (B:Nat) (l:List Pr),l.length=n->D8 W B A l->D8 W B I (l.drop k))/\((A=none->c=0)->I =none->c-k=0):=by
 have J: ∀W,(Instr.slice 38 (.slice A n c) (some (.int .i64 k)) none none).run prog W= .ok (.slice (if c=k then A else A.map (·.add (k*2))) (n-k) (c-k)) W:=λW=>by
  rw [run_slice_l W 38 A n c (by kernel_rfl) .i64 k (by omega) (by omega)];rw [show prog.elem 38=45 by kernel_rfl,show(sizeOf 45).run prog W= .ok 2 W by kernel_rfl];simp [sliced,Result.andThen]
 refine⟨if c=k then A else A.map (·.add (k*2)),λW=> ?_,J,λW B l V h=> ?_,λhA h=> ?_⟩
 . rw [run_sliceAt_slice W 38 _ _ _ _ (by kernel_rfl)]
   exact J W
 . exact h.drop (by omega) (by omega)
 . by_cases he:c=k
   . omega
   . rw [if_neg he] at h
     cases A with
     |none=>have:=hA rfl;omega
     |some a=>cases h
theorem Fa{w1 w2:World}(I:Below base w w1)(J:w1.ownsRow base e 2 v n xs)(hg:w1.grownBy w2 v.ownBlock)(O:base<=w1.heap.size):Below base w w2:=
 I.trans ⟨hg.os,hg.tape,hg.output,hg.size,λk U=>hg.block k (by omega) (λe=>by
  rcases J.2 with ⟨rfl,_⟩|⟨g,cap,cur,rfl,V,_⟩
  . simp [Value.ownBlock] at e
  . have:k=g:=by simpa [Value.ownBlock] using e
    omega)⟩
def Yau{P}(h:P:=by
 go_wp2
 go_quiet (fail)
 go_wp2_with (at_builtin;go_must (refine Hl rfl (.tmp 36) (.tmp 39) rfl _ w1.heap.size _ ([]++l.take n' ++ [p]) rfl V w1.heap.size af _ _ (l.drop (n')) rfl ag aa ab (by simp;omega) O.size ?_);intro v4 w4 U Z _);have I:=Zh (Fa (O.trans ((Tx.AL w3 _).mono O.size)) V Z O.size);rw [<-ac.out] at U;have ae:=Zh (M5 U J.size);go_ret;exact⟨v4,rfl,ae,J.trans (I.mono J.size)⟩):=h
theorem U1{l:List Pr}(h:D8 w B A l)(aq:B<=w.heap.size)(hA:A=none->c=0)(aT:l.length<=c)(ba:l.length<=4398046511103)(hs:JL l)(p:Pr)(aU:p.1.size<=9223372036854775807):
 Calls prog 26 #[.slice A l.length c, .agg #[.string p.1, .string p.2]] w λe w' => ∃v,e= .returned v/\w'.ownsRow w.heap.size 45 2 v (Dc l p).length (B5 (Dc l p))/\Below w.heap.size w w' :=by
 have aV:=Zh (λW (ai:Below w.heap.size w W)=>Mw (c:=c) (h.below (ai.mono aq)) (Nat.le_trans aq ai.size) (by omega) hs p.1 aU);have hle:=D0 l p.1;obtain⟨P,aB⟩: ∃P,Dc l p=P:=⟨_,rfl⟩;have aD:P=l.take (AE l p.1)++p::l.drop (if (l[AE l p.1]?).map (·.1)=some p.1 then AE l p.1+1 else AE l p.1):=aB▸rfl;rw [aB];have aW:=Zh h;generalize AE l p.1=n at*;obtain⟨b,ai⟩: ∃b:Bool,((l[n]?).map (·.1)=some p.1↔b=true):=⟨decide ((l[n]?).map (·.1)=some p.1),by simp⟩;obtain⟨n',ar⟩:=Zx (if b=true then n+1 else n);have aE:P=l.take n++p::l.drop n' :=by
  rw [aD,ar];by_cases aj:(l[n]?).map (·.1)=some p.1
  . simp only [if_pos aj,if_pos (ai.1 aj)]
  . simp only [if_neg aj,if_neg (λe=>aj (ai.2 e))]
 have aC:b=true->n<l.length:=λe=>by
  have:=ai.2 e;by_cases h:n<l.length
  . exact h
  . rw [List.getElem?_eq_none (by omega)] at this;cases this
 have aX:n' <=l.length:=by
  rw [ar]
  split
  . have:=aC ‹_›; omega
  . omega
 have ah:=Zh ar;have aY:=Zh aC;clear ar aC;have aZ:=Zh hA;obtain⟨af,a0,a1,aF,aG⟩:=LX A l.length n' c aX aT;have a2:=Zh aF;have ab:=Zh (aG hA);clear aF aG;have aH:n=(l.take n).length:=by rw [List.length_take];omega
 have a3:=Zh aH;clear aH hA;have a4:=Zh aE;have a5:=Zh ai;clear h hs aB aD aE ai;go_enter func26,ntmps26;go_wp2_with fail;have ae:Below w.heap.size w (w.alloc (Obj.cells #[Value.string p.1,Value.string p.2] 45)):=(Below.refl _ w).alloc (Nat.le_refl _) _;have ao:(w.alloc (Obj.cells #[Value.string p.1,Value.string p.2] 45)).cell? ⟨w.heap.size,0,none⟩=some (.string p.1):=by go_simp
 have q1:(w.alloc (Obj.cells #[Value.string p.1,Value.string p.2] 45)).cell? ⟨w.heap.size,1,none⟩=some (.string p.2):=by go_simp
 refine(aV _ ae).mono ?_;rintro e w1 ⟨rfl,I⟩;have au:=Yjb;have r1:=(I.cell (p:=⟨w.heap.size,1,none⟩) (Am q1)).trans q1;have J:=Dt;clear I ao q1 ae;have aI:=Zh (Nx w1 45);have aJ:=Zh ((aW.below (J.mono aq)).more (Nat.le_trans aq J.size));have aK:=Zh au;have tok:True:=trivial
 go_wp2_with (first
  |(at_builtin;have bb:=tok;go_must (refine Hl rfl (.tmp 11) (.tmp 14) rfl _ w1.heap.size _ [] rfl aI w1.heap.size A n c (l.take n) rfl a3 ((aJ.below ((Below.refl _ w1).alloc (Nat.le_refl _) _)).take n) aZ (by simp;omega) (by simp) ?_);intro v2 w2 aL aM _;clear tok;have aw:=Fa ((Below.refl _ w1).alloc (Nat.le_refl _) _) aI aM (by simp);have a6:=(aw.cell (p:=⟨w.heap.size,0,none⟩) (Am au)).trans au;have s1:=(aw.cell (p:=⟨w.heap.size,1,none⟩) (Am r1)).trans r1;have ax:=Zh aw;have aN:=Zh aL;clear aw aL aM au r1)
  |(at_builtin;go_must (refine Hl rfl (.tmp 16) (.tmp 18) rfl _ w1.heap.size _ ([]++l.take n) rfl (aN.alloc _) (w2.heap.size+1) _ 1 1 [p] rfl rfl (YQ w2 p) (λe=>by cases e) (by simp;omega) (by have:=ax.size;simp;omega) ?_);intro v3 w3 aO aP _;have ay:=Fa (ax.alloc ax.size _) (aN.alloc _) aP (by have:=ax.size;simp;omega)))
 have O:=Zh ay;have V:=Zh aO;have u0:=(ay.cell (p:=⟨w.heap.size,0,none⟩) (Am aK)).trans aK.out;have aQ:=Zh (aJ.below ay);clear ay aO aP a6 s1;have aa:=Zh (a2 w3 w1.heap.size l rfl aQ);have ag:Hid (l.length-n' =(l.drop n').length):=Zh (by rw [List.length_drop]);have ac:Hid (P= []++l.take n++ [p]++l.drop n'):=Zh (by rw [a4.out];simp);by_cases az:n<l.length
 . have hd:decide (n<l.length)=true:=by simp;omega
   obtain⟨bc,bd,a7,_,c1,_⟩:=aQ.at' az;subst a7;have aA:=SW l[n].1 p.1;have al:=a5.out;rw [List.getElem?_eq_getElem az,Option.map_some,Option.some.injEq] at al;generalize l[n]=aR at*
   cases b with
   |true=>
    have aj:(aR.1.toList==p.1.toList)=true:=(by rw [aA];exact decide_eq_true (al.2 rfl));rw [if_pos rfl] at ah;have an:=ah.out;subst an;clear al aA ah;push_cast at a0 a1;go_wp2
    go_quiet (fail)
    go_wp2_with (at_builtin;go_must (refine Hl rfl (.tmp 36) (.tmp 39) rfl _ w1.heap.size _ ([]++l.take n++ [p]) rfl V w1.heap.size af _ _ (l.drop (n+1)) rfl ag aa ab (by simp;omega) O.size ?_);intro v4 w4 U Z _);have a8:=Zh (Fa (O.trans ((Tx.AL w3 _).mono O.size)) V Z O.size);rw [<-ac.out] at U;have a9:=Zh (M5 U J.size);go_ret;exact⟨v4,rfl,a9,J.trans (a8.mono J.size)⟩
   |false=>
    have aj:(aR.1.toList==p.1.toList)=false:=by
     rw [aA];refine decide_eq_false (λe=> ?_);have:=al.1 e
     cases this
    rw [if_neg (by simp)] at ah;have an:=ah.out;subst an;clear al aA ah;exact Yau
 . have hd:decide (n<l.length)=false:=by simp;omega
   have aS:b=false:=by
    cases b with
    |true=>exact absurd (aY rfl) az
    |false=>rfl
   rw [aS,if_neg (by simp)] at ah;have an:=ah.out;subst an;clear ah aS az;exact Yau
theorem NQ{l:List Pr}(h:w.ownsRow base 45 2 v n (B5 l))(I:n=l.length): ∃A c,v= .slice A l.length c/\(A=none->c=0)/\l.length<=c/\D8 w w.heap.size A l:=by
 subst I;rcases h.2 with ⟨h1,h0⟩|⟨g,cap,cur,h1,O,U,J,_⟩
 . have:l= []:=List.eq_nil_of_length_eq_zero h0
   subst this;exact⟨none,0,h1,λ_=>rfl,Nat.le_refl _, .inl rfl⟩
 . refine⟨some ⟨g,0,none⟩,cap,h1,(λe=>by cases e),J, ?_⟩
   rw [h1] at h;exact D8.ZI h rfl
structure K3(R R' :Zr)(t:BT):Prop where
 at' :t.At R'
 nodup:t.hs.Nodup
 fresh: ∀x∈t.hs,R x=none
 old: ∀x,x∉t.hs->R' x=R x
 nz: ∀x∈t.hs,x≠0
theorem K3.keep{R':Zr}{t:BT}(g:K3 R R' t){x:Nat}(hx:R x≠none):R' x=R x:=g.old x (λh=>hx (g.fresh x h))
def AK(w:World)(F:Nat->Prop)(A:Option Addr)(vs:List Value):Prop:=
 vs= []\/ ∃b o,A=some ⟨b,o,none⟩/\b<w.heap.size/\ ¬F b/\ ∀j u,vs[j]? =some u->w.cell? ⟨b,o+j,none⟩=some u
section
variable {w':World}   {vs:List Value}
theorem AK.Aq(h:AK w F A vs)(I:Ad w F w' F'):AK w' F' A vs:=by
 rcases h with h|⟨b,o,h1,J,O,U⟩
 . exact .inl h
 . exact .inr ⟨b,o,h1,Nat.lt_of_lt_of_le J I.size,I.not J O,λj u hu=>I.cell (U j u hu) O⟩
theorem AK.at' (h:AK w F A vs)(I:vs[k]? =some u): ∃b o,A=some ⟨b,o,none⟩/\w.cell? ⟨b,o+k,none⟩=some u:=by
 rcases h with rfl|⟨b,o,h1,O,U,J⟩
 . simp at I
 . exact⟨b,o,h1,J k u I⟩
theorem AK.U5{l:List Pr}(h:AK w F A (B5 l))(J:k<l.length): ∃b o,A=some ⟨b,o,none⟩/\w.cell? ⟨b,o+k*2,none⟩=some (.string l[k].1)/\w.cell? ⟨b,o+k*2+1,none⟩=some (.string l[k].2):=by
 obtain⟨h1,O⟩:=NA l k J;obtain⟨b,o,e,U⟩:=h.at' h1;obtain⟨b',Z,I,V⟩:=h.at' O;rw [e] at I
 cases I
 exact⟨b,o,e,U,by rw [Nat.add_assoc];exact V⟩
end
theorem Ah.more{s:Nat}{H:List Nat}{P P' q most last G G' :Nat}(h:Ah w s F R H P q most last G)(I:P<=P')(J:G<=G'):Ah w s F R H P' q most last G' :=by
 obtain⟨a,ha,t,v,L,mem,sl,Fh,h⟩:=h;exact⟨a,ha,t,v,L,mem,sl,Fh,{ h with Cb:=Nat.le_trans h.Cb I,Jv:=λx hx=>Nat.le_trans (h.Jv x hx) J }⟩
theorem RY(h:n<=128):CD n<=3:=by unfold CD;split<;>omega
theorem Pn{b:ByteArray}(h:b.size<=1000):(Tx.A9 b.data.toList).length<=126:=by
 rw [Tx.Dd,Tx.Er];unfold Tx.many;omega
theorem Sr(t:Int)(w:World):Calls prog 119 #[.int .i64 t] w λe w' =>e= .returned (.bool (decide (2<=t)&&decide (t<=16)))/\w=w' :=by
 by_cases h1:2<=t
 . have d1:decide (2<=t)=true:=decide_eq_true h1
   go_enter func119,ntmps119;go_wp2;go_ret;exact⟨by rw [d1];rfl,rfl⟩
 . have d1:decide (2<=t)=false:=decide_eq_false h1
   go_enter func119,ntmps119;go_wp2;go_ret;exact⟨rfl,rfl⟩
theorem LH{t:Nat}(h:BN.A0 t)(w:World):Calls prog 119 #[.int .i64 t] w λe w' =>e= .returned (.bool true)/\w=w' :=by
 have:=Sr (t:Nat) w;rw [decide_eq_true (by have:=h.1;omega:(2:Int)<=(t:Nat)),decide_eq_true (by have:=h.2;omega:(t:Int)<=16)] at this;exact this
theorem Sp{t:Int}(h:t<2\/16<t)(w:World):Calls prog 119 #[.int .i64 t] w λe w' =>e= .returned (.bool false)/\w=w' :=by
 have:=Sr t w;rw [show(decide (2<=t)&&decide (t<=16))=false by rcases h with h|h<;>simp<;>omega] at this
 exact this
theorem Ie{t:Nat}(h:BN.A0 t)(w:World):Calls prog 69 #[.int .i64 t] w λe w' =>e= .returned (.int .i64 (6*t:Nat))/\w=w' :=by
 have I:=Zh (LH h w);have J:=h.2;clear h;go_enter func69,ntmps69;go_wp2_with fail;refine I.mono ?_;rintro e w1 ⟨rfl,rfl⟩;go_wp2;go_ret;exact⟨by simp,rfl⟩
def Ycv{P}(h:P:=by
 go_wp2_with fail;refine I.mono ?_;rintro e w1 ⟨rfl,rfl⟩;go_wp2;go_ret;exact⟨rfl,rfl⟩):=h
theorem L6{t:Int}(h:t<2\/16<t)(w:World):Calls prog 69 #[.int .i64 t] w λe w' =>e= .returned (.int .i64 0)/\w=w' :=by
 have I:=Zh (Sp h w);clear h;go_enter func69,ntmps69;exact Ycv
theorem Dg(l:List Nat):(AF l).length=l.length:=by simp [AF]
theorem EM{l:List Nat}(h:k<l.length):(AF l)[k]? =some (.int .u64 (l[k]:Nat)):=by simp [AF,h]
theorem Wt{l:List Nat}(h:AK w F A (AF l))(ac:l.length<=4398046511104)(x:Nat):
 Calls prog 172 #[.slice A l.length c, .int .u64 x] w λe w' =>(∃z:Int,e= .returned (.int .i64 z)/\(0<=z↔x∈l))/\w=w' :=by
 have V:=Zh h;clear h;go_enter func172,ntmps172;go_wp2_with fail
 go_loopw [8] (λI wr=> ∃k:Nat,k<=l.length/\I= .int .i64 k/\wr=w/\Hid (x∉l.take k)) (λI _=>l.length-(intOf I).toNat)
 case atStart=>exact⟨0,by omega,rfl,rfl,Zh (by simp)⟩
 case round=>
  obtain⟨k,ae,rfl,rfl,U⟩:=hrel;by_cases J:k<l.length
  . obtain⟨b,o,hA,c1⟩:=V.at' (EM J)
    have Z:Hid (l.take (k+1)=l.take k++ [l[k]]):=Zh (List.take_succ_eq_append_getElem J);have aa:Hid (l[k]∈l):=Zh (List.getElem_mem J);generalize l[k]=y at*;subst hA;by_cases O:x=y
    . have d:((x:Int)==(y:Int))=true:=by simp [O]
      go_wp2;go_ret;exact⟨⟨_,rfl,⟨λ_=>by rw [O];exact aa.out,λ_=>by omega⟩⟩,rfl⟩
    . have d:((x:Int)==(y:Int))=false:=by simp;omega
      go_wp2;go_roundw
      case rel=>exact⟨k+1,by omega,by go_num,by first|rfl|trivial,Zh (by rw [Z.out];simp only [List.mem_append,List.mem_singleton,not_or];exact⟨U,O⟩)⟩
      case measure=>simp [intOf];omega
  . obtain rfl:k=l.length:=by omega
    have ab:Hid (x∉l):=Zh (by have:=U.out;rwa [List.take_length] at this);go_wp2;go_ret;exact⟨⟨_,rfl,⟨λh=>by omega,λh=>absurd h ab⟩⟩,rfl⟩
theorem V8{l:List Nat}(h:AK w F A (AF l))(O:l.length<=4398046511104)(x:Nat):
 Calls prog 158 #[.slice A l.length c, .int .u64 x] w λe w' =>e= .returned (.bool (decide (x∈l)))/\w=w' :=by
 have I:=Zh (Wt (c:=c) h O x);clear h;go_enter func158,ntmps158;go_wp2_with fail;refine I.mono ?_;rintro e w1 ⟨⟨z,rfl,J⟩,rfl⟩;have U:=Zh J;clear J I;go_wp2;go_ret;exact⟨by congr 2;simp [U.out],rfl⟩
structure C3(w:World)(F:Nat->Prop)(v:Value)(n:BN):Prop where
 form: ∃Ak ck Av cv Ai ci,v= .agg #[.slice Ak n.keys.length ck, .slice Av n.Ab.length cv, .slice Ai n.kids.length ci, .int .u64 n.size]/\AK w F Ak (AF n.keys)/\AK w F Av (AF n.Ab)/\AK w F Ai (AF n.kids)
 lens:n.keys.length<=4398046511104/\n.Ab.length<=4398046511104/\n.kids.length<=4398046511104
theorem C3.Aq{w':World}{n:BN}(h:C3 w F v n)(I:Ad w F w' F'):C3 w' F' v n:=by
 obtain⟨⟨J,O,U,V,Z,ci,h1,aa,ab,ac⟩,ae⟩:=h;exact⟨⟨J,O,U,V,Z,ci,h1,aa.Aq I,ab.Aq I,ac.Aq I⟩,ae⟩
def Yal{P}(h:P:=by
 go_wp2_with fail;refine V.mono ?_;rintro e w1 ⟨rfl,rfl⟩;go_wp2;go_ret;exact⟨by first|(simp [c1];done)|(simp [c1,c2];done)|(simp;omega)|(simp;intro h;omega),Z⟩):=h
def Yji{P}(h:P:=by
 have I:Below w.heap.size w (w.alloc (Obj.cells #[.slice ag n.keys.length af, .slice aa n.Ab.length ac, .slice U n.kids.length ci, .int .u64 n.size] 100)):=(Below.refl _ w).alloc (Nat.le_refl _) _;exact I):=h
def Ymi{P}(h:P:=by
 have d1:decide (I<=2*t-1)=decide ((I:Int)<=2*(t:Int)-1):=by congr 1;simp;omega
 exact d1):=h
def Yom{P}(h:P:=by
 have d3:((J:Int)==(I:Int))=false:=by simp;omega
 exact d3):=h
def Yqm{P}(h:P:=by
 generalize n.keys.length=I at*;generalize n.Ab.length=J at*;have d1:=Ymi;rw [d1];clear d1;by_cases c1:(I:Int)<=2*(t:Int)-1
 . have d2:=decide_eq_true c1
   by_cases c2:J=I
   focus
    subst c2;have d3:((J:Int)==(J:Int))=true:=by simp
   rotate_left
   focus
    have d3:=Yom
   all_goals
    go_enter func122,ntmps122;exact Yal
 . have d2:=decide_eq_false c1
   go_enter func122,ntmps122;exact Yal):=h
def Yqp{P}(h:P:=by
 cases z0
 all_goals
  go_enter func122,ntmps122;go_wp2_with fail;refine O.mono ?_;rintro e w1 ⟨rfl,rfl⟩;exact Yal):=h
theorem JO{n:BN}(h:C3 w F v n)(t:Nat)(aj:BN.A0 t):
 Calls prog 122 #[.int .i64 t,v] w λe w' =>e= .returned (.bool (decide (n.Fits t)))/\Below w.heap.size w w' :=by
 obtain⟨⟨ag,af,aa,ac,U,ci,rfl,h1,aq,an⟩,l1,l2,l3⟩:=h;have al:=Yji;have V:=Zh (LH aj (w.alloc (Obj.cells #[.slice ag n.keys.length af, .slice aa n.Ab.length ac, .slice U n.kids.length ci, .int .u64 n.size] 100)));have O:=Zh (V8 (c:=ci) (an.Aq (Ad.below (F:=F) al)) l3 0);have Z:=Zh al;have t2:=aj.2;have t1:=aj.1;have ai:Hid (∀b:Bool,(b=true↔(n.kids= []\/(n.kids.length=n.keys.length+1/\0∉n.kids)))->(decide (n.Fits t))=(decide (n.keys.length<=2*t-1)&&(decide (n.Ab.length=n.keys.length)&&b))):=Zh (λb ar=>by
  rw [Bool.eq_iff_iff,decide_eq_true_iff,Bool.and_eq_true,Bool.and_eq_true,decide_eq_true_iff,decide_eq_true_iff,ar];exact Iff.rfl)
 clear h1 aq an al;by_cases ab:n.kids= []
 . have ae:Hid ((true=true)↔(n.kids= []\/(n.kids.length=n.keys.length+1/\0∉n.kids))):=Zh (by simp [ab])
   have ah:=Zh (ai true ae.out);have am:n.kids.length=0:=(by rw [ab];rfl);rw [ah.out,am];rw [am] at V O Z;clear ai ah ae ab;exact Yqm
 . have am:((n.kids.length:Int)==0)=false:=by
    have:n.kids.length≠0:=(λe=>ab (List.eq_nil_of_length_eq_zero e));simp;omega
   by_cases k1:n.kids.length=n.keys.length+1
   . have au:((n.kids.length:Int)==(n.keys.length:Int)+1)=true:=by simp;omega
     have ae:Hid ((decide (0∉n.kids))=true↔(n.kids= []\/(n.kids.length=n.keys.length+1/\0∉n.kids))):=Zh (by simp [ab,k1]);have ah:=Zh (ai _ ae);rw [ah.out];have ao:(decide (0∉n.kids))= !(decide (0∈n.kids)):=(by simp);rw [ao];clear ai ah ae ab ao;generalize decide (0∈n.kids)=z0 at*;generalize n.kids.length=aw at*;generalize n.keys.length=I at*;generalize n.Ab.length=J at*;subst k1;have d1:=Ymi;rw [d1];clear d1;by_cases c1:(I:Int)<=2*(t:Int)-1
     . have d2:=decide_eq_true c1
       by_cases c2:J=I
       . subst c2
         have d3:((J:Int)==(J:Int))=true:=(by simp);exact Yqp
       . have d3:=Yom
         exact Yqp
     . have d2:=decide_eq_false c1
       exact Yqp
   . have au:((n.kids.length:Int)==(n.keys.length:Int)+1)=false:=by simp;omega
     have ae:Hid ((false=true)↔(n.kids= []\/(n.kids.length=n.keys.length+1/\0∉n.kids))):=Zh (by simp [ab,k1]);have ah:=Zh (ai false ae.out);rw [ah.out];clear ai ah ae ab O;generalize n.kids.length=aw at*;exact Yqm
def An(W:World)(b:Nat)(t:TypeId)(vs:List Value):Prop:=W.rowIs b t vs.length (λi=>vs[i]?.getD undef)
theorem An.new(W:World)(t:TypeId)(vs:List Value):An (W.alloc (Obj.cells vs.toArray t)) W.heap.size t vs:=by
 have:=World.rowIs_alloc W vs.toArray t (λi=>vs[i]?.getD undef) (λi hi=>by
  simp only [List.size_toArray] at hi;rw [List.getElem?_toArray,List.getElem?_eq_getElem hi];rfl)
 rw [List.size_toArray] at this;exact this
section
variable {W':World}   {vs:List Value}
theorem An.lt(h:An W b t vs):b<W.heap.size:=by
 obtain⟨c,h1,_⟩:=h;exact(Array.getElem?_eq_some_iff.1 h1).1
theorem An.block(h:An W b t vs)(I:W'.heap[b]? =W.heap[b]?):An W' b t vs:=RZ h I
theorem An.below(h:An W b t vs)(I:Below W.heap.size W W'):An W' b t vs:=h.block (I.block b h.lt)
theorem An.Aq(h:An W b t vs)(I:Ad W F W' F')(J: ¬F b):An W' b t vs:=h.block (I.keep b h.lt J)
theorem An.at' (h:An W b t vs){i:Nat}(hi:vs[i]? =some v):W.cell? ⟨b,i,none⟩=some v:=by
 have I:i<vs.length:=(List.getElem?_eq_some_iff.1 hi).1;have:=h.cell I;simp only [hi,Option.getD_some] at this;exact this
theorem An.free(h:An W b t vs)(i:Nat):W.frozen? ⟨b,i,none⟩=false:=h.frozen i
theorem An.set(h:An W b t vs)(i:Nat)(v:Value):An (W.setCell ⟨b,i,none⟩ v) b t (vs.set i v):=by
 have h1:=World.rowIs.set h i v;unfold An;rw [List.length_set];refine h1.congr λj I=> ?_
 by_cases e:j=i
 . subst e
   simp only [if_true];rw [List.getElem?_set_self I];rfl
 . simp only [if_neg e]
   rw [List.getElem?_set_ne (λJ =>e J.symm)]
theorem An.other(h:An W b t vs){p:Addr}(hp:b≠p.block)(v:Value):An (W.setCell p v) b t vs:=World.rowIs.setOther h hp v
end
theorem AX{l:List Value}(h:An W b t (x::y::l)):W.cell? ⟨b,0,none⟩=some x/\W.cell? ⟨b,1,none⟩=some y:=⟨h.at' (i:=0) rfl,h.at' (i:=1) rfl⟩
theorem CV{l:List Value}(h:An W b t (x::y::l)):(W.cell? ⟨b,0,none⟩=some x/\W.cell? ⟨b,1,none⟩=some y)/\W.frozen? ⟨b,0,none⟩=false/\W.frozen? ⟨b,1,none⟩=false:=⟨AX h,h.free 0,h.free 1⟩
theorem C5{l:List Value}(h:An W b t (x::y::z::u::l)):W.cell? ⟨b,0,none⟩=some x/\W.cell? ⟨b,1,none⟩=some y/\W.cell? ⟨b,2,none⟩=some z/\W.cell? ⟨b,3,none⟩=some u:=⟨h.at' (i:=0) rfl,h.at' (i:=1) rfl,h.at' (i:=2) rfl,h.at' (i:=3) rfl⟩
theorem YM{l:List Value}(h:An W b t (x::y::z::u::l)):(W.cell? ⟨b,0,none⟩=some x/\W.cell? ⟨b,1,none⟩=some y/\W.cell? ⟨b,2,none⟩=some z/\W.cell? ⟨b,3,none⟩=some u)/\W.frozen? ⟨b,0,none⟩=false/\W.frozen? ⟨b,1,none⟩=false/\W.frozen? ⟨b,2,none⟩=false/\W.frozen? ⟨b,3,none⟩=false:=⟨C5 h,h.free 0,h.free 1,h.free 2,h.free 3⟩
theorem An.alloc{vs:List Value}(h:An W b t vs)(o:Obj):An (W.alloc o) b t vs:=h.below ((Below.refl _ W).alloc (Nat.le_refl _) o)
end Go.Proofs.YtiopopoohglepaaGreatDoor
namespace Go.Proofs.YtiopopoohglepaaGreatDoor
open Go.Proofs.Tryz
open Go Go.RowKit
variable {K:Act->World->Prop}{i:Nat}{v:Value}{w:World}
section
variable {P:Program} {ops:Array Oper} {md:Region.Mode} {Q:Exit->Act->World->Prop} {C:World->Prop}
def BX(P:Program)(ops:Array Oper)(C:World->Prop)(o:Oper)(v:Value)(a:Act):Prop:=
 (Region.wanted o (yielded ops a.tmps)=true/\ ∀w,C w->(execOp a.eval o).run P w= .ok (.value v) w)\/(Region.wanted o (yielded ops a.tmps)=false/\v=undef)
theorem BX.of_same{o:Oper}{a a' :Act}(J:BX P ops C o v a)(he:execOp a'.eval o=execOp a.eval o)
 (hw:Region.wanted o (yielded ops a'.tmps)=Region.wanted o (yielded ops a.tmps)):BX P ops C o v a' :=by
 rcases J with ⟨h1,I⟩|⟨h1,I⟩
 . exact .inl ⟨hw.trans h1,λw O=>by rw [he];exact I w O⟩
 . exact .inr ⟨hw.trans h1,I⟩
theorem BX.op{o:Oper}{a:Act}(hi:ops[i]? =some o)(J:BX P ops C o v a)(O:C w)(h:K (a.put o.dst v) w):wpOp P ops Q i K a w:=by
 unfold wpOp;simp only [hi];rcases J with ⟨h1,I⟩|⟨h1,I⟩
 . rw [if_pos h1]
   refine .inl ?_;unfold Oper.wp;rw [I w O];exact h
 . rw [if_neg (by rw [h1];decide),<-I]
   exact h
def Ybr{P}(h:P:=by
 cases e with
 |returned u=>exact⟨keep a I u,by rw [<-Act.put_comm a v u J];exact he⟩
 |panicked c=>exact O _ _ _ he
 |outgrown=>exact he):=h
def Yfj{P}(h:P:=by
 refine⟨keep _ (U d) _, ?_⟩;rw [<-Act.put_comm _ v undef J,<-Act.put_defers];exact h):=h
theorem H5{j:Nat}{V Z:Oper}(ae:ops[j]? =some Z)(af:V.apart ops Z=true)
 (ag: ∀cs b,V.op≠ .select cs b) (aa: ∀cs b,Z.op≠ .select cs b)
 (O: ∀c a w,Q (.panic c) (a.put V.dst v) w->Q (.panic c) a w) {a:Act}
 (I:BX P ops C V v a) (h:wpOp P ops Q j K (a.put V.dst v) w):
 wpOp P ops Q j (λa' w' =>BX P ops C V v a' /\K (a'.put V.dst v) w') a w:=by
 obtain⟨h1,J,ab⟩:=Oper.apart_spec af
 have keep: ∀(a:Act),BX P ops C V v a-> ∀u,BX P ops C V v (a.put Z.dst u):=λa I u=>
  I.of_same (execOp_put V ag a Z.dst u ab) (wanted_put V a Z.dst u ab)
 have U: ∀d,BX P ops C V v { a with defers:=d::a.defers }:=λd=>I.of_same rfl rfl
 unfold wpOp at*;simp only [ae] at*;rw [wanted_put Z a V.dst v h1] at h
 split
 . rename_i hw
   simp only [hw,if_true] at h;rcases h with h|⟨ac,ah⟩
   case inr=>exact .inr ⟨by unfold Oper.asks at *; rw [execOp_put Z aa a V.dst v h1] at ac;exact ac,ah⟩
   refine .inl ?_;unfold Oper.wp at*;rw [execOp_put Z aa a V.dst v h1] at h;generalize (execOp a.eval Z).run P w=r at*
   cases r with
   |ok n w' =>
    cases n<;>simp only [Oper.upon] at h ⊢
    case value u=>exact⟨keep a I u,by rw [<-Act.put_comm a v u J];exact h⟩
    case skip=>exact⟨keep a I _,by rw [<-Act.put_comm a v undef J];exact h⟩
    case defer d=>
     exact Yfj
    case enter f args=>
     refine Calls.mono h λe ai he=> ?_
     exact Ybr
    case row row args=>exact Rows.mono h λu ai he=>⟨keep a I u,by rw [<-Act.put_comm a v u J];exact he⟩
   |halt x w' =>
    cases x<;>simp only [Oper.upon] at h ⊢
    case panic u=>exact O _ _ _ h
 . rename_i hw
   simp only [hw] at h;exact⟨keep a I _,by rw [<-Act.put_comm a v undef J];exact h⟩
def Db(P:Program)(md:Region.Mode)(ops:Array Oper)(Q:Exit->Act->World->Prop)(C:World->Prop):Nat->Array Bool->Act->World->Prop
 |0,listed,a,w=>Region.ready md ops listed= []/\Q .normal a w
 |f+1,listed,a,w=>
  (Region.ready md ops listed= []->Q .normal a w)/\
  ∀i∈Region.ready md ops listed,wpOp P ops Q i (λa' w' =>C w' /\Db P md ops Q C f (listed.setIfInBounds i true) a' w') a w
theorem Db.any: ∀(f:Nat) (listed:Array Bool) (a:Act) (w:World),Db P md ops Q C f listed a w->wpAny P md ops Q f listed a w
 |0,_,_,_,h=>h
 |f+1,listed,a,w,h=>⟨h.1,λi hi=>wpOp_mono (λa' w' I =>Db.any f _ a' w' I.2) (h.2 i hi)⟩
def YE{P}(h:P:=by
 have:=ready_mono U O;rw [H.1] at this
 cases this):=h
def Z6{P}(h:P:=by
 rw [Array.setIfInBounds_comm _ _ O];exact aa.2.2):=h
theorem JC{J:Oper}(hi:ops[i]? =some J)(aj: ∀(j:Nat) (o:Oper) cs b,ops[j]? =some o->o.op≠ .select cs b)
 (al: ∀c a w,Q (.panic c) (a.put J.dst v) w->Q (.panic c) a w):
 ∀(f:Nat) (listed:Array Bool) (a:Act) (w:World),
  (∀j I,ops[j]? =some I->j≠i->listed.getD j true=false->(∀e∈I.after,Region.binds md e=true->e.on≠i)->J.apart ops I=true)->
  i∈Region.ready md ops listed->BX P ops C J v a->C w->
  Db P md ops Q C f (listed.setIfInBounds i true) (a.put J.dst v) w->Db P md ops Q C (f+1) listed a w:=by
 intro f
 induction f with
 |zero=>
  intro listed a w _ ae ah ag H;refine⟨λh=>(by rw [h] at ae;cases ae),λj U=> ?_⟩;by_cases O:j=i
  . subst O;exact ah.op hi ag ⟨ag,H⟩
  . exact YE
 |succ f ih=>
  intro listed a w ab ae ah ag H;refine⟨λh=>(by rw [h] at ae;cases ae),λj U=> ?_⟩;by_cases O:j=i
  . subst O;exact ah.op hi ag ⟨ag,H⟩
  . have h1:=H.2 j (ready_mono U O)
    obtain⟨Z,I,ai,ac⟩:=mem_ready.1 U;have V:=(mem_ready.1 ae).1;have am:=Wa;have an:=H5 ai (ab j I ai O Z am) (λcs b=>aj i J cs b hi) (λcs b=>aj j I cs b ai) al ah h1;have ao:=Xi;refine wpOp_mono (λa' w' aa=> ?_) an;refine⟨aa.2.1,ih (listed.setIfInBounds j true) a' w' ao (ready_mono ae (Ne.symm O)) aa.1 aa.2.1 ?_⟩;exact Z6
def RV(md:Region.Mode)(ops:Array Oper):List Nat->Array Bool->Bool
 | [],listed=>(Region.ready md ops listed).isEmpty
 |k::ks,listed=>decide (Region.ready md ops listed= [k])&&RV md ops ks (listed.setIfInBounds k true)
def QH(md:Region.Mode)(ops:Array Oper)(ks:List Nat):List Nat->Array Bool->Bool
 | [],listed=>RV md ops ks listed
 |i::is,listed=>(Region.ready md ops listed).contains i&&Region.free md ops listed i&&QH md ops ks is (listed.setIfInBounds i true)
def Qr(K:Act->World->Prop)(Q:Exit->Act->World->Prop):Exit->Act->World->Prop
 | .normal,a,w=>K a w
 |e,a,w=>Q e a w
def Hh(P:Program)(ops:Array Oper)(C:World->Prop)(L:Act->Prop):List Nat->Act->Prop
 | [],a=>L a
 |i::is,a=> ∃o v,ops[i]? =some o/\BX P ops C o v a/\Hh P ops C L is (a.put o.dst v)
def FT(P:Program)(ops:Array Oper)(Q:Exit->Act->World->Prop)(C:World->Prop):List Nat->Act->World->Prop
 | [],a,w=>Q .normal a w
 |k::ks,a,w=> ∃o,ops[k]? =some o/\wpList P ops (Qr (λa' w' =>C w' /\FT P ops Q C ks a' w') Q) [o] a w
theorem KQ{L:Act->Prop}{a:Act}(h:L a):Hh P ops C L [] a:=h
theorem CK{L:Act->Prop}{is:List Nat}{a:Act}(o:Oper)(v:Value)(hi:ops[i]? =some o)(h1:Region.wanted o (yielded ops a.tmps)=true)(I: ∀w,C w->(execOp a.eval o).run P w= .ok (.value v) w)(h:Hh P ops C L is (a.put o.dst v)):Hh P ops C L (i::is) a:=
 ⟨o,v,hi, .inl ⟨h1,I⟩,h⟩
theorem Mg{a:Act}(h:Q .normal a w):FT P ops Q C [] a w:=h
theorem DX{k:Nat}{ks:List Nat}{a:Act}(o:Oper)(I:ops[k]? =some o)(h: ∀K:Act->World->Prop,(∀a' w',C w' ->FT P ops Q C ks a' w' ->K a' w')->wpList P ops (Qr K Q) [o] a w):FT P ops Q C (k::ks) a w:=
 ⟨o,I,h _ (λ_ _ h1 J=>⟨h1,J⟩)⟩
theorem XE{o:Oper}{a:Act}{Q' :Exit->Act->World->Prop}(I: ∀c a w,Q' (.panic c) a w->Q (.panic c) a w)(J:LetsOut Q' ->LetsOut Q)(hh:o.wp P a w K Q'):o.wp P a w K Q:=by
 unfold Oper.wp at*;generalize (execOp a.eval o).run P w=r at*
 cases r with
 |ok x w' =>
  cases x<;>simp only [Oper.upon] at hh ⊢ <;>
   first
    |exact hh
    |exact Calls.mono hh (λe O he=>by cases e<;>first|exact he|exact I _ _ _ he|exact J he)
 |halt x w' =>cases x<;>simp only [Oper.upon] at hh ⊢ <;>first|exact I _ _ _ hh|exact hh
theorem Dl{o:Oper}{a:Act}(hi:ops[i]? =some o)(h:wpList P ops (Qr K Q) [o] a w):wpOp P ops Q i K a w:=by
 unfold wpOp;simp only [hi];unfold wpList at h
 split
 . rename_i hw
   rw [if_pos hw] at h;rcases h with h|⟨h1,I⟩
   . exact .inl (XE (λ_ _ _ h=>h) (λh=>h) h)
   . exact .inr ⟨h1,I⟩
 . rename_i hw
   rw [if_neg hw] at h;exact h
theorem Ir: ∀(ks:List Nat) (listed:Array Bool) (a:Act) (w:World),RV md ops ks listed=true->FT P ops Q C ks a w->Db P md ops Q C ks.length listed a w
 | [],listed,a,w,hB,h=>⟨by simpa [RV] using hB,h⟩
 |k::ks,listed,a,w,hB,h=>by
  obtain⟨o,h0,h⟩:=h;simp only [RV,Bool.and_eq_true,decide_eq_true_eq] at hB;refine⟨λh1=>(by rw [hB.1] at h1;cases h1),λi hi=> ?_⟩;rw [hB.1] at hi;obtain rfl:i=k:=by simpa using hi
  exact wpOp_mono (λa' w' I =>⟨I.1,Ir ks _ a' w' hB.2 I.2⟩) (Dl h0 h)
theorem Hr{ks:List Nat}{w:World}(I:Region.noSelect ops=true)(J:C w)(O: ∀c a d v w,Q (.panic c) (Act.put a d v) w->Q (.panic c) a w):
 ∀(is:List Nat) (listed:Array Bool) (a:Act),QH md ops ks is listed=true->Hh P ops C (λa' =>FT P ops Q C ks a' w) is a->Db P md ops Q C (is.length+ks.length) listed a w
 | [],listed,a,hB,h=>by
   rw [List.length_nil,Nat.zero_add];exact Ir ks listed a w hB h
 |i::is,listed,a,hB,h=>by
  obtain⟨o,v,h0,U,V⟩:=h;simp only [QH,Bool.and_eq_true] at hB;obtain⟨⟨Z,aa⟩,ab⟩:=hB;rw [List.length_cons,show is.length+1+ks.length=(is.length+ks.length)+1 by omega]
  exact JC h0 (Region.noSelect_spec I) (λc a w h=>O c a _ _ w h) (is.length+ks.length) listed a w (Region.free_spec h0 aa) (by simpa using Z) U J
   (Hr I J O is _ _ ab V)
theorem IC{id:Nat}{a:Act}{l:List Oper}(C:World->Prop)(is ks:List Nat)(hm:P.follows .mixedOrders=true)(I:Region.noSelect l.toArray=true)(hlen:is.length+ks.length=l.length)
 (J:QH .any l.toArray ks is (Array.replicate l.toArray.size false)=true) (O:C { w with drawn:=w.drawn+1 }) (U: ∀c a d v w,Q (.panic c) (Act.put a d v) w->Q (.panic c) a w)
 (h:Hh P l.toArray C (λa' =>FT P l.toArray Q C ks a' { w with drawn:=w.drawn+1 }) is a):(Code.region id l.toArray true).wp P Q a w:=by
 refine wp_region_any hm (Db.any (C:=C) _ _ _ _ ?_);have:=Hr (md:= .any) I O U is (Array.replicate l.toArray.size false) a J h;rw [hlen] at this
 simpa using this
end
end Go.Proofs.YtiopopoohglepaaGreatDoor
namespace Go.Proofs.YtiopopoohglepaaGreatDoor
open Go.Proofs.Tryz
open Go.RowKit Go.Shelf
variable {R:Zr}{nd:Nd}{x:Nat}
def N1(z:Int):Nat:=(z%18446744073709551616).toNat
def Ypq{P}(h:P:=by
 have h1:=Int.emod_nonneg z (show(18446744073709551616:Int)≠0 by omega);exact h1):=h
theorem Vx(z:Int):N1 z<18446744073709551616:=by
 unfold N1;have h1:=Ypq;omega
def O8(R:Zr)(x:Nat)(nd:Nd):Zr:=if EL R x=0 then AQ R x (some nd.ws) else R
theorem Mn{y:Nat}(h:y≠x):O8 R x nd y=R y:=by
 unfold O8
 split
 . exact Aw h
 . rfl
theorem Vc(h:EL R x=0):O8 R x nd x=some nd.ws:=by
 unfold O8;rw [if_pos h,AT]
def Jn(R R' :Zr):Prop:= ∀x,(EL R' x=EL R x/\(EL R x≠0->R' x=R x))/\(FK R' x).key=(FK R x).key/\(FK R' x).val=(FK R x).val
theorem Jn.trans{R1 R2:Zr}(h:Jn R R1)(k:Jn R1 R2):Jn R R2:=λx=>⟨⟨(k x).1.1.trans (h x).1.1,λhx=>((k x).1.2 (by rw [(h x).1.1];exact hx)).trans ((h x).1.2 hx)⟩,(k x).2.1.trans (h x).2.1,(k x).2.2.trans (h x).2.2⟩
theorem QT{R':Zr}(h:R' x=R x):EL R' x=EL R x/\FK R' x=FK R x:=by
 unfold EL FK LQ;rw [h];exact⟨rfl,rfl⟩
theorem Jn.put(O:EL R x=0->nd.key=(FK R x).key/\nd.val=(FK R x).val):Jn R (O8 R x nd):=λy=>by
 by_cases e:y=x
 . subst e
   by_cases h0:EL R y=0
   . obtain⟨I,J⟩:=W5 (Vc (nd:=nd) h0)
     rw [I,J,h0];exact⟨⟨rfl,λhx=>absurd rfl hx⟩,O h0⟩
   . unfold O8
     rw [if_neg h0];exact⟨⟨rfl,λ_=>rfl⟩,rfl,rfl⟩
 . obtain⟨I,J⟩:=QT (Mn (nd:=nd) (R:=R) e)
   rw [I,J];exact⟨⟨rfl,λ_=>Mn e⟩,rfl,rfl⟩
section
variable {w w':World} {s N:Nat}  {n:Nat}
theorem IH(z:Int):IntKind.u64.wrap z=((N1 z:Nat):Int):=by
 have h1:=Ypq;unfold N1;rw [Int.toNat_of_nonneg h1];rfl
section
variable {F:Nat->Prop} {H:List Nat} {P q most last G:Nat}
end
end
structure Kp(w:World)(F:Nat->Prop) where
 W:World
 F' :Nat->Prop
 h:Ad w F W F'
theorem Kp.cell{w:World}{F:Nat->Prop}{p:Addr}{v:Value}(I:w.cell? p=some v)(J: ¬F p.block)(X:Kp w F):X.W.cell? p=some v:=X.h.cell I J
theorem Kp.start(w:World)(F:Nat->Prop): ∃X:Kp w F,{ w with drawn:=w.drawn+1 }=X.W:=⟨⟨_,F,Ad.below (Ac w)⟩,rfl⟩
section
variable {w w':World} {s:Nat} {F:Nat->Prop}  {H:List Nat} {P q most last G:Nat}
end
