/- A part. -/
import Derived.Test.YtiopopoohglepaaGreatDoorVMp
import Derived.Laws.AppendOwnNone
import Derived.Deep.QuietTactic
set_option linter.all false
set_option maxRecDepth 100000
set_option maxHeartbeats 2000000
namespace Go.Proofs.YtiopopoohglepaaGreatDoor
open Go.Proofs.Tryz
open Go.RowKit Go.Shelf
variable {A:Option Addr}{B b base c k n:Nat}{F F':Nat->Prop}{R:Zr}{W w:World}{e t:TypeId}{u v x y z:Value}{xs:List Value}
abbrev Pr:=ByteArray × ByteArray
def Bv(l:List Pr):List Value:=l.flatMap λp=> [.string p.1, .string p.2]
theorem WA(l:List Pr):(Bv l).length=l.length*2:=by
 induction l with
 |nil=>rfl
 |cons p l ih=>simp only [Bv,List.flatMap_cons,List.length_append,List.length_cons,List.length_nil] at ih ⊢;omega
theorem Qs(l m:List Pr):Bv (l++m)=Bv l++Bv m:=by simp [Bv]
theorem Nx: ∀(l:List Pr) (k:Nat) (h:k<l.length),(Bv l)[k*2]? =some (.string l[k].1)/\(Bv l)[k*2+1]? =some (.string l[k].2)
 |p::l,0,_=>⟨rfl,rfl⟩
 |p::l,k+1,h=>by
  have:=Nx l k (by simpa using h);rw [show(k+1)*2=k*2+2 by omega];exact this
theorem NV: ∀(l:List Pr) (k:Nat),Bv (l.drop k)=(Bv l).drop (k*2)
 | [],k=>by simp [Bv]
 |p::l,0=>by simp
 |p::l,k+1=>by
  rw [List.drop_succ_cons,NV l k,show(k+1)*2=k*2+2 by omega];rfl
theorem Nr: ∀(l:List Pr) (k:Nat),Bv (l.take k)=(Bv l).take (k*2)
 | [],k=>by simp [Bv]
 |p::l,0=>by simp [Bv]
 |p::l,k+1=>by
  rw [List.take_succ_cons,show(k+1)*2=k*2+2 by omega]
  show [Value.string p.1,Value.string p.2]++Bv (l.take k)=_
  rw [Nr l k];rfl
theorem V4(l:List Pr): ∀u∈Bv l,u.oneCell' =true:=by
 intro u hu;obtain⟨p,_,hp⟩:=List.mem_flatMap.1 hu;rcases List.mem_cons.1 hp with rfl|hp
 . rfl
 . rcases List.mem_cons.1 hp with rfl|hp
   . rfl
   . simp at hp
def DE(w:World)(B:Nat)(A:Option Addr)(l:List Pr):Prop:=
 l= []\/ ∃b o,A=some ⟨b,o,none⟩/\b<B/\ ∀j u,(Bv l)[j]? =some u->w.cell? ⟨b,o+j,none⟩=some u
section
variable {w':World} {B':Nat}  {l:List Pr}
theorem DE.keep(h:DE w B A l)(I: ∀b,b<B->w'.heap[b]? =w.heap[b]?):DE w' B A l:=by
 rcases h with h|⟨b,o,rfl,d,J⟩
 . exact .inl h
 . exact .inr ⟨b,o,rfl,d,λj u hu=>(World.cell?_of_block (a:=⟨b,o+j,none⟩) (I b d)).trans (J j u hu)⟩
theorem DE.below(h:DE w B A l)(d:Below B w w'):DE w' B A l:=h.keep λb I=>d.block b I
theorem DE.more(h:DE w B A l)(I:B<=B'):DE w B' A l:=by
 rcases h with h|⟨b,o,rfl,J,d⟩
 . exact .inl h
 . exact .inr ⟨b,o,rfl,by omega,d⟩
theorem DE.at' (h:DE w B A l)(d:k<l.length): ∃b o,A=some ⟨b,o,none⟩/\b<B/\w.cell? ⟨b,o+k*2,none⟩=some (.string l[k].1)/\w.cell? ⟨b,o+k*2+1,none⟩=some (.string l[k].2):=by
 rcases h with rfl|⟨b,o,rfl,J,I⟩
 . simp at d
 . obtain⟨h1,O⟩:=Nx l k d
   exact⟨b,o,rfl,J,I _ _ h1,by rw [Nat.add_assoc];exact I _ _ O⟩
theorem DE.take(h:DE w B A l)(k:Nat):DE w B A (l.take k):=by
 rcases h with rfl|⟨b,o,rfl,d,I⟩
 . left;simp
 . refine .inr ⟨b,o,rfl,d,λj u hu=>I j u ?_⟩
   rw [Nr,List.getElem?_take] at hu
   split at hu
   . exact hu
   . cases hu
theorem DE.drop(h:DE w B A l)(J:k<=l.length)(O:l.length<=c):DE w B (if c=k then A else A.map (·.add (k*2))) (l.drop k):=by
 by_cases he:k=l.length
 . subst he;left;simp
 . rcases h with rfl|⟨b,o,rfl,d,I⟩
   . left;simp
   . rw [if_neg (by omega)]
     refine .inr ⟨b,o+k*2, ?_,d,λj u hu=> ?_⟩
     . show some ((⟨b,o,none⟩:Addr).add (k*2))=_
       unfold Addr.add;split<;>simp_all
     . rw [Nat.add_assoc]
       refine I _ _ ?_;rw [NV,List.getElem?_drop] at hu;exact hu
theorem DE.Zd(h:w.ownsRow base 45 2 (.slice A n c) n (Bv l))(J:n=l.length):DE w w.heap.size A l:=by
 by_cases d:l= []
 . exact .inl d
 . right
   have hp:0<l.length:=List.length_pos_iff.2 d;rcases h.2 with ⟨_,h0⟩|⟨g,cap,cur,I,O,hg,_⟩
   . omega
   . cases I
     refine⟨g,0,rfl,(Array.getElem?_eq_some_iff.1 hg).1,λj u hu=> ?_⟩;have:=h.cells (g:=g) rfl j u hu;rw [show(⟨g,0,none⟩:Addr).add j=⟨g,j,none⟩ by unfold Addr.add;split<;>simp_all] at this
     rw [Nat.zero_add];exact this
theorem Tryz.KN:Tryz.prog.underlying 38=some (.slice 45):=by kernel_rfl
theorem Tryz.TN:(Tryz.prog.info? 45).map (λi=>(i.zero,i.size,i.bytes))=some (some (.agg #[.string ⟨#[]⟩, .string ⟨#[]⟩]),2,32):=by kernel_rfl
theorem Ho{ops:Array Oper}{rest:List Oper}{o:Oper}{a:Act}{Q:Exit->Act->World->Prop}(J:o.guard=none)(s x:Operand)
 (O:o.op= .call { callee:= .builtin .append,args:= #[s,x],argTypes:= #[38,38] }) (w:World) (base:Nat) (v:Value) (xs:List Pr) (hs:a.eval s=v)
 (I:w.ownsRow base 45 2 v xs.length (Bv xs)) (B:Nat) (A:Option Addr) (m c:Nat) (d:List Pr) (hx:a.eval x= .slice A m c) (hm:m=d.length) (U:DE w B A d) (V:A=none->c=0) (hlen:xs.length+d.length<=4398046511104) (Z:base<=w.heap.size)
 (h: ∀v' w',w'.ownsRow base 45 2 v' (xs++d).length (Bv (xs++d))->w.grownBy w' v.ownBlock->(v'.ownBlock=v.ownBlock\/v'.ownBlock=some w.heap.size)->wpList prog ops Q rest (a.put o.dst v') w'):
 wpList prog ops Q (o::rest) a w:=by
 obtain⟨i0,hi,aa,ab,ac⟩:=info_parts Tryz.TN;subst hm
 cases A with
 |none=>
  have ae:d= []:=by
   rcases U with h|⟨b,o,h,_⟩
   . exact h
   . cases h
  subst ae;have:=V rfl;subst this;refine wpList_append_own_none J s x 38 O base 45 i0 2 Tryz.KN hi v xs.length (Bv xs) hs I hx ?_;exact h v w (by simpa using I) (World.grownBy.refl w _) (.inl rfl)
 |some ad=>
  have af: ∀j u,(Bv d)[j]? =some u->w.cell? (ad.add j)=some u:=by
   intro j u hu;rcases U with rfl|⟨b,o,ag,_,ah⟩
   . simp [Bv] at hu
   . cases ag
     rw [show(⟨b,o,none⟩:Addr).add j=⟨b,o+j,none⟩ by unfold Addr.add;split<;>simp_all]
     exact ah j u hu
  refine wpList_append_own_at w J s x 38 O base 45 i0 (.agg #[.string ⟨#[]⟩, .string ⟨#[]⟩]) 2 32 Tryz.KN hi aa ab ac rfl (by decide) v xs.length (Bv xs) hs I ad d.length c (Bv d) hx (WA d) af (V4 d) (by unfold maxLen;omega) (by omega) Z ?_;intro v' w' h1 ai _ aj;exact h v' w' (by rw [List.length_append,Qs];exact h1) ai aj
end
theorem XK(a b:ByteArray)(w:World)(ha:a.size<=9223372036854775807)(I:b.size<=9223372036854775807):
 Calls prog 113 #[.string a, .string b] w λe w' =>e= .returned (.int .i64 (Tx.cmp a b))/\Below w.heap.size w w' :=
 (Tx.Sn a b w ha I).mono λe w' ⟨he,d,hd⟩=>⟨he,by rw [hd];exact Tx.AL w d⟩
theorem SQ(l:List Pr)(k:Nat)(h:k<l.length)(key:ByteArray):AH (l.take (k+1)) key=AH (l.take k) key+if Tx.cmp l[k].1 key<0 then 1 else 0:=by
 rw [List.take_succ_eq_append_getElem h,C3,GO];simp [AH]
def D5(l:List Pr):Prop:= ∀p∈l,p.1.size<=9223372036854775807/\p.2.size<=9223372036854775807
theorem Ms{l:List Pr}(h:DE w B A l)(ab:B<=w.heap.size)(an:l.length<=4398046511104)(hs:D5 l)(key:ByteArray)(ac:key.size<=9223372036854775807):
 Calls prog 64 #[.slice A l.length c, .string key] w λe w' =>e= .returned (.int .i64 (AH l key:Nat))/\Below w.heap.size w w' :=by
 have ae:=Zh h;have af:=Zh (λ(p:Pr) (hp:p∈l) (W:World)=>XK p.1 key W (hs p hp).1 ac);clear h hs;go_enter func64,ntmps64;go_wp2_with fail
 go_loopw [5,6] (λag I wr=> ∃k:Nat,k<=l.length/\I= .int .i64 k/\ag= .int .i64 (AH (l.take k) key:Nat)/\Hid (Below w.heap.size w wr)) (λ_ I _=>l.length-(intOf I).toNat)
 case atStart=>exact⟨0,by omega,rfl,rfl,Zh (Below.refl _ _)⟩
 case round=>
  obtain⟨k,ao,rfl,rfl,d⟩:=hrel;have O:=Ds (l.take k) key;rw [List.length_take] at O;have aq:AH (l.take k) key<=k:=by omega
  by_cases J:k<l.length
  . obtain⟨b,o,ah,_,c1,_⟩:=(ae.below (d.mono ab)).at' J
    have U:=Zh (SQ l k J key);have V:=Zh (af l[k] (List.getElem_mem J));generalize l[k]=p at*;obtain⟨z,Z⟩: ∃z,Tx.cmp p.1 key=z:=⟨_,rfl⟩;rw [Z] at U V;clear Z O;generalize ai:AH (l.take k) key=n9 at*;clear ai;subst ah;have aj:z<0\/ ¬z<0:=(by omega);rcases aj with h0|h0
    all_goals
     go_wp2_with fail;refine(V _).mono ?_;rintro e w1 ⟨rfl,aa⟩;have al:=Zh (d.trans (aa.mono d.size));clear aa c1;go_wp2;go_roundw
     case rel=>exact⟨k+1,by omega,by go_num,by rw [U.out];first|(rw [if_pos h0];go_num)|(rw [if_neg (by omega)];rfl),al⟩
     case measure=>simp [intOf];omega
  . obtain rfl:k=l.length:=by omega
    have am:Hid (AH (l.take l.length) key=AH l key):=Zh (by rw [List.take_length]);go_wp2;go_ret;exact⟨by rw [am.out];rfl,d⟩
theorem SC(a b:ByteArray):(a.toList==b.toList)=decide (a=b):=by
 rw [Tx.Xs,Bool.eq_iff_iff,beq_iff_eq,decide_eq_true_iff,Cp]
def C4(l:List Pr)(p:Pr):List Pr:=l.take (AH l p.1)++p::l.drop (if (l[AH l p.1]?).map (·.1)=some p.1 then AH l p.1+1 else AH l p.1)
theorem Vg(l:List Pr)(p:Pr):(C4 l p).length<=l.length+1:=by
 have:=Ds l p.1;unfold C4;simp only [List.length_append,List.length_take,List.length_cons,List.length_drop]
 split<;>omega
theorem PA{l:List Pr}{p q:Pr}(h:q∈C4 l p):q=p\/q∈l:=by
 unfold C4 at h;rcases List.mem_append.1 h with h|h
 . exact .inr (List.mem_of_mem_take h)
 . rcases List.mem_cons.1 h with h|h
   . exact .inl h
   . exact .inr (List.mem_of_mem_drop h)
theorem D5.put{l:List Pr}{p:Pr}(h:D5 l)(hp:p.1.size<=9223372036854775807/\p.2.size<=9223372036854775807):D5 (C4 l p):=λq d=>by
 rcases PA d with rfl|d
 . exact hp
 . exact h q d
theorem Yb(h:w.ownsRow base e 2 v n xs)(d:v.ownBlock=some k):base<=k/\k<w.heap.size:=by
 rcases h.2 with ⟨rfl,_⟩|⟨g,cap,cur,rfl,I,J,_⟩
 . simp [Value.ownBlock] at d
 . have:g=k:=by simpa [Value.ownBlock] using d
   subst this;exact⟨I,(Array.getElem?_eq_some_iff.1 J).1⟩
theorem JM{d size:Nat}(h:w.ownsRow base e size v n xs)(J:d <=base):w.ownsRow d e size v n xs:=by
 refine⟨h.1, ?_⟩;rcases h.2 with h0|⟨g,cap,cur,h1,O,I⟩
 . exact .inl h0
 . exact .inr ⟨g,cap,cur,h1,by omega,I⟩
theorem Nu(w:World)(e:TypeId):(w.alloc (.cells #[] e)).ownsRow w.heap.size e 2 (.slice (some ⟨w.heap.size,0,none⟩) 0 0) 0 []:=
 ⟨rfl, .inr ⟨w.heap.size,0, #[],rfl,Nat.le_refl _,World.alloc_heap_new w _,Nat.le_refl _,Nat.zero_le _,rfl,rfl⟩⟩
theorem Yt(w:World)(p:Pr):DE (w.alloc (.cells #[.string p.1, .string p.2] 45)) (w.heap.size+1) (some ⟨w.heap.size,0,none⟩) [p]:=by
 refine .inr ⟨w.heap.size,0,rfl,by omega,λj u hu=> ?_⟩;have d:(w.alloc (.cells #[.string p.1, .string p.2] 45)).heap[w.heap.size]? =some (.cells #[.string p.1, .string p.2] 45 (0,0)):=World.alloc_heap_new w _;generalize w.alloc (.cells #[.string p.1, .string p.2] 45)=V at*;rcases j with _|_|j
 . simp [Bv] at hu;subst hu;simp [World.cell?,d]
 . simp [Bv] at hu;subst hu;simp [World.cell?,d]
 . simp [Bv] at hu
theorem LS(A:Option Addr)(n k c:Nat)(O:k<=n)(U:n<=c): ∃d,(∀W,(Instr.sliceAt 38 (.slice A n c) (some (.int .i64 k)) none none).run prog W= .ok (.slice d (n-k) (c-k)) W)/\(∀W,(Instr.slice 38 (.slice A n c) (some (.int .i64 k)) none none).run prog W= .ok (.slice d (n-k) (c-k)) W)/\
 (∀(W:World) (B:Nat) (l:List Pr),l.length=n->DE W B A l->DE W B d (l.drop k))/\((A=none->c=0)->d =none->c-k=0):=by
 have I: ∀W,(Instr.slice 38 (.slice A n c) (some (.int .i64 k)) none none).run prog W= .ok (.slice (if c=k then A else A.map (·.add (k*2))) (n-k) (c-k)) W:=λW=>by
  rw [run_slice_l W 38 A n c (by kernel_rfl) .i64 k (by omega) (by omega)];rw [show prog.elem 38=45 by kernel_rfl,show(sizeOf 45).run prog W= .ok 2 W by kernel_rfl];simp [sliced,Result.andThen]
 refine⟨if c=k then A else A.map (·.add (k*2)),λW=> ?_,I,λW B l V h=> ?_,λJ h=> ?_⟩
 . rw [run_sliceAt_slice W 38 _ _ _ _ (by kernel_rfl)]
   exact I W
 . exact h.drop (by omega) (by omega)
 . by_cases he:c=k
   . omega
   . rw [if_neg he] at h
     cases A with
     |none=>have:=J rfl;omega
     |some a=>cases h
theorem E8{w1 w2:World}(d:Below base w w1)(I:w1.ownsRow base e 2 v n xs)(hg:w1.grownBy w2 v.ownBlock)(J:base<=w1.heap.size):Below base w w2:=
 d.trans ⟨hg.os,hg.tape,hg.output,hg.size,λk O=>hg.block k (by omega) (λe=>by
  rcases I.2 with ⟨rfl,_⟩|⟨g,cap,cur,rfl,U,_⟩
  . simp [Value.ownBlock] at e
  . have:k=g:=by simpa [Value.ownBlock] using e
    omega)⟩
def Yay{P}(h:P:=by
 go_wp2
 go_quiet (fail)
 go_wp2_with (at_builtin;go_must (refine Ho rfl (.tmp 36) (.tmp 39) rfl _ w1.heap.size _ ([]++l.take n' ++ [p]) rfl U w1.heap.size ae _ _ (l.drop (n')) rfl ab af aa (by simp;omega) d.size ?_);intro v4 w4 O V _);have I:=Zh (E8 (d.trans ((Tx.AL w3 _).mono d.size)) U V d.size);rw [<-Z.out] at O;have ac:=Zh (JM O J.size);go_ret;exact⟨v4,rfl,ac,J.trans (I.mono J.size)⟩):=h
theorem UE{l:List Pr}(h:DE w B A l)(ao:B<=w.heap.size)(aA:A=none->c=0)(aT:l.length<=c)(ba:l.length<=4398046511103)(hs:D5 l)(p:Pr)(aU:p.1.size<=9223372036854775807):
 Calls prog 26 #[.slice A l.length c, .agg #[.string p.1, .string p.2]] w λe w' => ∃v,e= .returned v/\w'.ownsRow w.heap.size 45 2 v (C4 l p).length (Bv (C4 l p))/\Below w.heap.size w w' :=by
 have aV:=Zh (λW (ah:Below w.heap.size w W)=>Ms (c:=c) (h.below (ah.mono ao)) (Nat.le_trans ao ah.size) (by omega) hs p.1 aU);have hle:=Ds l p.1;obtain⟨P,aB⟩: ∃P,C4 l p=P:=⟨_,rfl⟩;have aD:P=l.take (AH l p.1)++p::l.drop (if (l[AH l p.1]?).map (·.1)=some p.1 then AH l p.1+1 else AH l p.1):=aB▸rfl;rw [aB];have aW:=Zh h;generalize AH l p.1=n at*;obtain⟨b,ah⟩: ∃b:Bool,((l[n]?).map (·.1)=some p.1↔b=true):=⟨decide ((l[n]?).map (·.1)=some p.1),by simp⟩;obtain⟨n',aq⟩:=Zx (if b=true then n+1 else n);have aE:P=l.take n++p::l.drop n' :=by
  rw [aD,aq];by_cases aj:(l[n]?).map (·.1)=some p.1
  . simp only [if_pos aj,if_pos (ah.1 aj)]
  . simp only [if_neg aj,if_neg (λe=>aj (ah.2 e))]
 have aC:b=true->n<l.length:=λe=>by
  have:=ah.2 e;by_cases h:n<l.length
  . exact h
  . rw [List.getElem?_eq_none (by omega)] at this;cases this
 have aX:n' <=l.length:=by
  rw [aq]
  split
  . have:=aC ‹_›; omega
  . omega
 have ag:=Zh aq;have aY:=Zh aC;clear aq aC;have aZ:=Zh aA;obtain⟨ae,a0,a1,aF,aG⟩:=LS A l.length n' c aX aT;have a2:=Zh aF;have aa:=Zh (aG aA);clear aF aG;have aH:n=(l.take n).length:=by rw [List.length_take];omega
 have a3:=Zh aH;clear aH aA;have a4:=Zh aE;have a5:=Zh ah;clear h hs aB aD aE ah;go_enter func26,ntmps26;go_wp2_with fail;have ac:Below w.heap.size w (w.alloc (Obj.cells #[Value.string p.1,Value.string p.2] 45)):=(Below.refl _ w).alloc (Nat.le_refl _) _;have an:(w.alloc (Obj.cells #[Value.string p.1,Value.string p.2] 45)).cell? ⟨w.heap.size,0,none⟩=some (.string p.1):=by go_simp
 have q1:(w.alloc (Obj.cells #[Value.string p.1,Value.string p.2] 45)).cell? ⟨w.heap.size,1,none⟩=some (.string p.2):=by go_simp
 refine(aV _ ac).mono ?_;rintro e w1 ⟨rfl,I⟩;have ar:=Yja;have r1:=(I.cell (p:=⟨w.heap.size,1,none⟩) (Al q1)).trans q1;have J:=DR;clear I an q1 ac;have aI:=Zh (Nu w1 45);have aJ:=Zh ((aW.below (J.mono ao)).more (Nat.le_trans ao J.size));have aK:=Zh ar;have tok:True:=trivial
 go_wp2_with (first
  |(at_builtin;have bb:=tok;go_must (refine Ho rfl (.tmp 11) (.tmp 14) rfl _ w1.heap.size _ [] rfl aI w1.heap.size A n c (l.take n) rfl a3 ((aJ.below ((Below.refl _ w1).alloc (Nat.le_refl _) _)).take n) aZ (by simp;omega) (by simp) ?_);intro v2 w2 aL aM _;clear tok;have au:=E8 ((Below.refl _ w1).alloc (Nat.le_refl _) _) aI aM (by simp);have a6:=(au.cell (p:=⟨w.heap.size,0,none⟩) (Al ar)).trans ar;have s1:=(au.cell (p:=⟨w.heap.size,1,none⟩) (Al r1)).trans r1;have aw:=Zh au;have aN:=Zh aL;clear au aL aM ar r1)
  |(at_builtin;go_must (refine Ho rfl (.tmp 16) (.tmp 18) rfl _ w1.heap.size _ ([]++l.take n) rfl (aN.alloc _) (w2.heap.size+1) _ 1 1 [p] rfl rfl (Yt w2 p) (λe=>by cases e) (by simp;omega) (by have:=aw.size;simp;omega) ?_);intro v3 w3 aO aP _;have ax:=E8 (aw.alloc aw.size _) (aN.alloc _) aP (by have:=aw.size;simp;omega)))
 have d:=Zh ax;have U:=Zh aO;have u0:=(ax.cell (p:=⟨w.heap.size,0,none⟩) (Al aK)).trans aK.out;have aQ:=Zh (aJ.below ax);clear ax aO aP a6 s1;have af:=Zh (a2 w3 w1.heap.size l rfl aQ);have ab:Hid (l.length-n' =(l.drop n').length):=Zh (by rw [List.length_drop]);have Z:Hid (P= []++l.take n++ [p]++l.drop n'):=Zh (by rw [a4.out];simp);by_cases ay:n<l.length
 . have hd:decide (n<l.length)=true:=by simp;omega
   obtain⟨bc,bd,a7,_,c1,_⟩:=aQ.at' ay;subst a7;have az:=SC l[n].1 p.1;have al:=a5.out;rw [List.getElem?_eq_getElem ay,Option.map_some,Option.some.injEq] at al;generalize l[n]=aR at*
   cases b with
   |true=>
    have aj:(aR.1.toList==p.1.toList)=true:=(by rw [az];exact decide_eq_true (al.2 rfl));rw [if_pos rfl] at ag;have am:=ag.out;subst am;clear al az ag;push_cast at a0 a1;go_wp2
    go_quiet (fail)
    go_wp2_with (at_builtin;go_must (refine Ho rfl (.tmp 36) (.tmp 39) rfl _ w1.heap.size _ ([]++l.take n++ [p]) rfl U w1.heap.size ae _ _ (l.drop (n+1)) rfl ab af aa (by simp;omega) d.size ?_);intro v4 w4 O V _);have a8:=Zh (E8 (d.trans ((Tx.AL w3 _).mono d.size)) U V d.size);rw [<-Z.out] at O;have a9:=Zh (JM O J.size);go_ret;exact⟨v4,rfl,a9,J.trans (a8.mono J.size)⟩
   |false=>
    have aj:(aR.1.toList==p.1.toList)=false:=by
     rw [az];refine decide_eq_false (λe=> ?_);have:=al.1 e
     cases this
    rw [if_neg (by simp)] at ag;have am:=ag.out;subst am;clear al az ag;exact Yay
 . have hd:decide (n<l.length)=false:=by simp;omega
   have aS:b=false:=by
    cases b with
    |true=>exact absurd (aY rfl) ay
    |false=>rfl
   rw [aS,if_neg (by simp)] at ag;have am:=ag.out;subst am;clear ag aS ay;exact Yay
theorem Gq{l:List Pr}(h:w.ownsRow base 45 2 v n (Bv l))(d:n=l.length): ∃A c,v= .slice A l.length c/\(A=none->c=0)/\l.length<=c/\DE w w.heap.size A l:=by
 subst d;rcases h.2 with ⟨h1,h0⟩|⟨g,cap,cur,h1,J,O,I,_⟩
 . have:l= []:=List.eq_nil_of_length_eq_zero h0
   subst this;exact⟨none,0,h1,λ_=>rfl,Nat.le_refl _, .inl rfl⟩
 . refine⟨some ⟨g,0,none⟩,cap,h1,(λe=>by cases e),I, ?_⟩
   rw [h1] at h;exact DE.Zd h rfl
def BX(l:List Pr):List Pr:=l.foldl C4 []
theorem OL(l:List Pr)(k:Nat)(h:k<l.length):BX (l.take (k+1))=C4 (BX (l.take k)) l[k]:=by
 unfold BX;rw [List.take_succ_eq_append_getElem h,List.foldl_append];rfl
theorem Is: ∀(l m:List Pr),(l.foldl C4 m).length<=m.length+l.length
 | [],m=>by simp
 |p::l,m=>by
  have h1:=Is l (C4 m p);have d:=Vg m p;simp only [List.foldl_cons,List.length_cons];omega
theorem Ib(l:List Pr):(BX l).length<=l.length:=by
 have:=Is l [];simp only [List.length_nil,Nat.zero_add] at this;exact this
theorem Iw: ∀(l m:List Pr) (q:Pr),q∈l.foldl C4 m->q∈m\/q∈l
 | [],m,q,h=> .inl h
 |p::l,m,q,h=>by
  rcases Iw l (C4 m p) q h with h|h
  . rcases PA h with rfl|h
    . exact .inr (by simp)
    . exact .inl h
  . exact .inr (by simp [h])
theorem H6{l:List Pr}{q:Pr}(h:q∈BX l):q∈l:=by
 rcases Iw l [] q h with h|h
 . simp at h
 . exact h
theorem D5.sorted{l:List Pr}(h:D5 l):D5 (BX l):=λq d=>h q (H6 d)
theorem D5.take{l:List Pr}(h:D5 l)(k:Nat):D5 (l.take k):=λq d=>h q (List.mem_of_mem_take d)
theorem Jz{l:List Pr}(h:DE w B A l)(ac:B<=w.heap.size)(ar:l.length<=4398046511104)(hs:D5 l):
 Calls prog 15 #[.slice A l.length c] w λe w' => ∃v,e= .returned v/\w'.ownsRow w.heap.size 45 2 v (BX l).length (Bv (BX l))/\Below w.heap.size w w' :=by
 have ae:=Zh h;have O:=Zh hs;clear h hs;go_enter func15,ntmps15;go_wp2_with fail
 go_loopw [3,4] (λvv I wr=> ∃k:Nat,k<=l.length/\I= .int .i64 k/\Hid (wr.ownsRow w.heap.size 45 2 vv (BX (l.take k)).length (Bv (BX (l.take k))))/\Hid (Below w.heap.size w wr)) (λ_ I _=>l.length-(intOf I).toNat)
 case atStart=>exact⟨0,by omega,rfl,Zh (World.ownsRow_nil _ _ _ _),Zh (Below.refl _ _)⟩
 case round=>
  obtain⟨k,au,rfl,U,d⟩:=hrel;by_cases J:k<l.length
  . obtain⟨b,o,af,_,c1,c2⟩:=(ae.below (d.mono ac)).at' J
    have ag:=Zh (OL l k J);have hp:=Zh (O _ (List.getElem_mem J));have hlen:=Ib (l.take k);rw [List.length_take] at hlen;have ah:=Zh ((O.take k).sorted);generalize l[k]=p at*;generalize BX (l.take k)=m at*;obtain⟨aw,ai,aj,V,al,Z⟩:=Gq U rfl;subst aj af;have am:=Zh (UE (w:=wr) (c:=ai) Z (Nat.le_refl _) V al (by omega) ah p hp.1);clear V Z hlen;go_wp2_with fail;refine am.mono ?_;rintro e w1 ⟨v1,rfl,aa,ab⟩;have an:=Zh (JM aa d.size);have ao:=Zh (d.trans (ab.mono d.size));clear aa ab;go_wp2;go_roundw
    case rel=>exact⟨k+1,by omega,by go_num,by rw [ag.out];exact an,ao⟩
    case measure=>simp [intOf];omega
  . obtain rfl:k=l.length:=by omega
    have aq:Hid (BX (l.take l.length)=BX l):=Zh (by rw [List.take_length]);go_wp2;go_ret;exact⟨_,rfl,by rw [<-aq.out];exact U.out,d⟩
def CL(l:List Pr):Bool:=l.any λp=>decide (1000<p.1.size)||decide (1000<p.2.size)
theorem IU{l:List Pr}(h:DE w B A l)(ah:l.length<=9223372036854775807)(hs:D5 l):
 Calls prog 14 #[.slice A l.length c] w λe w' =>e= .returned (.bool (CL l))/\w=w' :=by
 have ab:=Zh h;have ac:=Zh hs;obtain⟨z,J⟩: ∃z,CL l=z:=⟨_,rfl⟩;have U:=Zh J;rw [J];clear h hs J;go_enter func14,ntmps14;go_wp2_with fail
 go_loopw [3] (λO wr=> ∃k:Nat,k<=l.length/\O= .int .i64 k/\wr=w/\Hid (CL (l.take k)=false)) (λO _=>l.length-(intOf O).toNat)
 case atStart=>exact⟨0,by omega,rfl,rfl,Zh rfl⟩
 case round=>
  obtain⟨k,ai,rfl,rfl,V⟩:=hrel;by_cases I:k<l.length
  . obtain⟨b,o,ae,_,c1,c2⟩:=ab.at' I
    obtain⟨aj,al⟩:=ac.out _ (List.getElem_mem I);have af:Hid (CL (l.take (k+1))=(CL (l.take k)||(decide (1000<l[k].1.size)||decide (1000<l[k].2.size)))):=Zh (by
     unfold CL;rw [List.take_succ_eq_append_getElem I,List.any_append];simp)
    have Z:Hid (∀p,p=l[k]->(1000<p.1.size\/1000<p.2.size)->z=true):=Zh (λp hp ag=>by
     rw [<-U.out];unfold CL;rw [List.any_eq_true];exact⟨p,by rw [hp];exact List.getElem_mem I,by simpa using ag⟩)
    generalize l[k]=p at*;subst ae;by_cases h1:1000<p.1.size
    . have d:=Zh (Z p rfl (.inl h1))
      go_wp2;go_ret;exact⟨by rw [d.out];rfl,rfl⟩
    . by_cases aa:1000<p.2.size
      . have d:=Zh (Z p rfl (.inr aa))
        go_wp2;go_ret;exact⟨by rw [d.out];rfl,rfl⟩
      . go_wp2
        go_roundw
        case rel=>exact⟨k+1,by omega,by go_num,trivial,Zh (by rw [af.out,V.out];simp [h1,aa])⟩
        case measure=>simp [intOf];omega
  . obtain rfl:k=l.length:=by omega
    have d:Hid (z=false):=Zh (by rw [<-U.out,<-V.out,List.take_length]);go_wp2;go_ret;exact⟨by rw [d.out];rfl,rfl⟩
structure K1(R R' :Zr)(t:BT):Prop where
 at' :t.At R'
 nodup:t.hs.Nodup
 fresh: ∀x∈t.hs,R x=none
 old: ∀x,x∉t.hs->R' x=R x
 nz: ∀x∈t.hs,x≠0
theorem K1.keep{R':Zr}{t:BT}(g:K1 R R' t){x:Nat}(hx:R x≠none):R' x=R x:=g.old x (λh=>hx (g.fresh x h))
def AJ(w:World)(F:Nat->Prop)(A:Option Addr)(vs:List Value):Prop:=
 vs= []\/ ∃b o,A=some ⟨b,o,none⟩/\b<w.heap.size/\ ¬F b/\ ∀j u,vs[j]? =some u->w.cell? ⟨b,o+j,none⟩=some u
section
variable {w':World}   {vs:List Value}
theorem AJ.Ar(h:AJ w F A vs)(d:Ad w F w' F'):AJ w' F' A vs:=by
 rcases h with h|⟨b,o,h1,I,J,O⟩
 . exact .inl h
 . exact .inr ⟨b,o,h1,Nat.lt_of_lt_of_le I d.size,d.not I J,λj u hu=>d.cell (O j u hu) J⟩
theorem AJ.at' (h:AJ w F A vs)(d:vs[k]? =some u): ∃b o,A=some ⟨b,o,none⟩/\w.cell? ⟨b,o+k,none⟩=some u:=by
 rcases h with rfl|⟨b,o,h1,J,O,I⟩
 . simp at d
 . exact⟨b,o,h1,I k u d⟩
theorem AJ.Ka{l:List Pr}(h:AJ w F A (Bv l))(I:k<l.length): ∃b o,A=some ⟨b,o,none⟩/\w.cell? ⟨b,o+k*2,none⟩=some (.string l[k].1)/\w.cell? ⟨b,o+k*2+1,none⟩=some (.string l[k].2):=by
 obtain⟨h1,J⟩:=Nx l k I;obtain⟨b,o,e,O⟩:=h.at' h1;obtain⟨b',V,d,U⟩:=h.at' J;rw [e] at d
 cases d
 exact⟨b,o,e,O,by rw [Nat.add_assoc];exact U⟩
end
theorem Am.more{s:Nat}{H:List Nat}{P P' q most last G G' :Nat}(h:Am w s F R H P q most last G)(d:P<=P')(I:G<=G'):Am w s F R H P' q most last G' :=by
 obtain⟨a,ha,t,v,L,mem,sl,Fh,h⟩:=h;exact⟨a,ha,t,v,L,mem,sl,Fh,{ h with Cc:=Nat.le_trans h.Cc d,Jw:=λx hx=>Nat.le_trans (h.Jw x hx) I }⟩
def N4(zs:List Int):List Value:=zs.map λz=> .int .i64 z
theorem RK(h:n<=128):CC n<=3:=by unfold CC;split<;>omega
theorem Pj{b:ByteArray}(h:b.size<=1000):(Tx.A8 b.data.toList).length<=126:=by
 rw [Tx.C7,Tx.Er];unfold Tx.many;omega
theorem XS(t:Int)(w:World):Calls prog 119 #[.int .i64 t] w λe w' =>e= .returned (.bool (decide (2<=t)&&decide (t<=16)))/\w=w' :=by
 by_cases h1:2<=t
 . have d1:decide (2<=t)=true:=decide_eq_true h1
   go_enter func119,ntmps119;go_wp2;go_ret;exact⟨by rw [d1];rfl,rfl⟩
 . have d1:decide (2<=t)=false:=decide_eq_false h1
   go_enter func119,ntmps119;go_wp2;go_ret;exact⟨rfl,rfl⟩
theorem Ly{t:Nat}(h:BN.A1 t)(w:World):Calls prog 119 #[.int .i64 t] w λe w' =>e= .returned (.bool true)/\w=w' :=by
 have:=XS (t:Nat) w;rw [decide_eq_true (by have:=h.1;omega:(2:Int)<=(t:Nat)),decide_eq_true (by have:=h.2;omega:(t:Int)<=16)] at this;exact this
theorem Ii{t:Nat}(h:BN.A1 t)(w:World):Calls prog 69 #[.int .i64 t] w λe w' =>e= .returned (.int .i64 (6*t:Nat))/\w=w' :=by
 have d:=Zh (Ly h w);have I:=h.2;clear h;go_enter func69,ntmps69;go_wp2_with fail;refine d.mono ?_;rintro e w1 ⟨rfl,rfl⟩;go_wp2;go_ret;exact⟨by simp,rfl⟩
theorem Da(l:List Nat):(AG l).length=l.length:=by simp [AG]
theorem EK{l:List Nat}(h:k<l.length):(AG l)[k]? =some (.int .u64 (l[k]:Nat)):=by simp [AG,h]
theorem V5{l:List Nat}(h:AJ w F A (AG l))(ae:l.length<=4398046511104)(x:Nat):
 Calls prog 172 #[.slice A l.length c, .int .u64 x] w λe w' =>(∃z:Int,e= .returned (.int .i64 z)/\(0<=z↔x∈l))/\w=w' :=by
 have V:=Zh h;clear h;go_enter func172,ntmps172;go_wp2_with fail
 go_loopw [8] (λI wr=> ∃k:Nat,k<=l.length/\I= .int .i64 k/\wr=w/\Hid (x∉l.take k)) (λI _=>l.length-(intOf I).toNat)
 case atStart=>exact⟨0,by omega,rfl,rfl,Zh (by simp)⟩
 case round=>
  obtain⟨k,af,rfl,rfl,U⟩:=hrel;by_cases J:k<l.length
  . obtain⟨b,o,Z,c1⟩:=V.at' (EK J)
    have aa:Hid (l.take (k+1)=l.take k++ [l[k]]):=Zh (List.take_succ_eq_append_getElem J);have ab:Hid (l[k]∈l):=Zh (List.getElem_mem J);generalize l[k]=y at*;subst Z;by_cases O:x=y
    . have d:((x:Int)==(y:Int))=true:=by simp [O]
      go_wp2;go_ret;exact⟨⟨_,rfl,⟨λ_=>by rw [O];exact ab.out,λ_=>by omega⟩⟩,rfl⟩
    . have d:((x:Int)==(y:Int))=false:=by simp;omega
      go_wp2;go_roundw
      case rel=>exact⟨k+1,by omega,by go_num,by first|rfl|trivial,Zh (by rw [aa.out];simp only [List.mem_append,List.mem_singleton,not_or];exact⟨U,O⟩)⟩
      case measure=>simp [intOf];omega
  . obtain rfl:k=l.length:=by omega
    have ac:Hid (x∉l):=Zh (by have:=U.out;rwa [List.take_length] at this);go_wp2;go_ret;exact⟨⟨_,rfl,⟨λh=>by omega,λh=>absurd h ac⟩⟩,rfl⟩
theorem VM{l:List Nat}(h:AJ w F A (AG l))(J:l.length<=4398046511104)(x:Nat):
 Calls prog 158 #[.slice A l.length c, .int .u64 x] w λe w' =>e= .returned (.bool (decide (x∈l)))/\w=w' :=by
 have d:=Zh (V5 (c:=c) h J x);clear h;go_enter func158,ntmps158;go_wp2_with fail;refine d.mono ?_;rintro e w1 ⟨⟨z,rfl,I⟩,rfl⟩;have O:=Zh I;clear I d;go_wp2;go_ret;exact⟨by congr 2;simp [O.out],rfl⟩
structure CX(w:World)(F:Nat->Prop)(v:Value)(n:BN):Prop where
 form: ∃Ak ck Av cv Ai ci,v= .agg #[.slice Ak n.keys.length ck, .slice Av n.Ab.length cv, .slice Ai n.kids.length ci, .int .u64 n.size]/\AJ w F Ak (AG n.keys)/\AJ w F Av (AG n.Ab)/\AJ w F Ai (AG n.kids)
 lens:n.keys.length<=4398046511104/\n.Ab.length<=4398046511104/\n.kids.length<=4398046511104
theorem CX.Ar{w':World}{n:BN}(h:CX w F v n)(d:Ad w F w' F'):CX w' F' v n:=by
 obtain⟨⟨I,J,O,U,V,ci,h1,Z,aa,ab⟩,ac⟩:=h;exact⟨⟨I,J,O,U,V,ci,h1,Z.Ar d,aa.Ar d,ab.Ar d⟩,ac⟩
def Yan{P}(h:P:=by
 go_wp2_with fail;refine Z.mono ?_;rintro e w1 ⟨rfl,rfl⟩;go_wp2;go_ret;exact⟨by first|(simp [c1];done)|(simp [c1,c2];done)|(simp;omega)|(simp;intro h;omega),U⟩):=h
def Yjk{P}(h:P:=by
 have d:Below w.heap.size w (w.alloc (Obj.cells #[.slice V n.keys.length ag, .slice O n.Ab.length af, .slice aa n.kids.length ci, .int .u64 n.size] 100)):=(Below.refl _ w).alloc (Nat.le_refl _) _;exact d):=h
def Yly{P}(h:P:=by
 have d1:decide (d<=2*t-1)=decide ((d:Int)<=2*(t:Int)-1):=by congr 1;simp;omega
 exact d1):=h
def Yny{P}(h:P:=by
 have d3:((I:Int)==(d:Int))=false:=by simp;omega
 exact d3):=h
def Ypw{P}(h:P:=by
 generalize n.keys.length=d at*;generalize n.Ab.length=I at*;have d1:=Yly;rw [d1];clear d1;by_cases c1:(d:Int)<=2*(t:Int)-1
 . have d2:=decide_eq_true c1
   by_cases c2:I=d
   focus
    subst c2;have d3:((I:Int)==(I:Int))=true:=by simp
   rotate_left
   focus
    have d3:=Yny
   all_goals
    go_enter func122,ntmps122;exact Yan
 . have d2:=decide_eq_false c1
   go_enter func122,ntmps122;exact Yan):=h
def Ypz{P}(h:P:=by
 cases z0
 all_goals
  go_enter func122,ntmps122;go_wp2_with fail;refine J.mono ?_;rintro e w1 ⟨rfl,rfl⟩;exact Yan):=h
theorem JO{n:BN}(h:CX w F v n)(t:Nat)(ai:BN.A1 t):
 Calls prog 122 #[.int .i64 t,v] w λe w' =>e= .returned (.bool (decide (n.Fits t)))/\Below w.heap.size w w' :=by
 obtain⟨⟨V,ag,O,af,aa,ci,rfl,h1,ao,am⟩,l1,l2,l3⟩:=h;have aj:=Yjk;have Z:=Zh (Ly ai (w.alloc (Obj.cells #[.slice V n.keys.length ag, .slice O n.Ab.length af, .slice aa n.kids.length ci, .int .u64 n.size] 100)));have J:=Zh (VM (c:=ci) (am.Ar (Ad.below (F:=F) aj)) l3 0);have U:=Zh aj;have t2:=ai.2;have t1:=ai.1;have ah:Hid (∀b:Bool,(b=true↔(n.kids= []\/(n.kids.length=n.keys.length+1/\0∉n.kids)))->(decide (n.Fits t))=(decide (n.keys.length<=2*t-1)&&(decide (n.Ab.length=n.keys.length)&&b))):=Zh (λb aq=>by
  rw [Bool.eq_iff_iff,decide_eq_true_iff,Bool.and_eq_true,Bool.and_eq_true,decide_eq_true_iff,decide_eq_true_iff,aq];exact Iff.rfl)
 clear h1 ao am aj;by_cases ab:n.kids= []
 . have ac:Hid ((true=true)↔(n.kids= []\/(n.kids.length=n.keys.length+1/\0∉n.kids))):=Zh (by simp [ab])
   have ae:=Zh (ah true ac.out);have al:n.kids.length=0:=(by rw [ab];rfl);rw [ae.out,al];rw [al] at Z J U;clear ah ae ac ab;exact Ypw
 . have al:((n.kids.length:Int)==0)=false:=by
    have:n.kids.length≠0:=(λe=>ab (List.eq_nil_of_length_eq_zero e));simp;omega
   by_cases k1:n.kids.length=n.keys.length+1
   . have ar:((n.kids.length:Int)==(n.keys.length:Int)+1)=true:=by simp;omega
     have ac:Hid ((decide (0∉n.kids))=true↔(n.kids= []\/(n.kids.length=n.keys.length+1/\0∉n.kids))):=Zh (by simp [ab,k1]);have ae:=Zh (ah _ ac);rw [ae.out];have an:(decide (0∉n.kids))= !(decide (0∈n.kids)):=(by simp);rw [an];clear ah ae ac ab an;generalize decide (0∈n.kids)=z0 at*;generalize n.kids.length=au at*;generalize n.keys.length=d at*;generalize n.Ab.length=I at*;subst k1;have d1:=Yly;rw [d1];clear d1;by_cases c1:(d:Int)<=2*(t:Int)-1
     . have d2:=decide_eq_true c1
       by_cases c2:I=d
       . subst c2
         have d3:((I:Int)==(I:Int))=true:=(by simp);exact Ypz
       . have d3:=Yny
         exact Ypz
     . have d2:=decide_eq_false c1
       exact Ypz
   . have ar:((n.kids.length:Int)==(n.keys.length:Int)+1)=false:=by simp;omega
     have ac:Hid ((false=true)↔(n.kids= []\/(n.kids.length=n.keys.length+1/\0∉n.kids))):=Zh (by simp [ab,k1]);have ae:=Zh (ah false ac.out);rw [ae.out];clear ah ae ac ab J;generalize n.kids.length=au at*;exact Ypw
def An(W:World)(b:Nat)(t:TypeId)(vs:List Value):Prop:=W.rowIs b t vs.length (λi=>vs[i]?.getD undef)
theorem An.new(W:World)(t:TypeId)(vs:List Value):An (W.alloc (Obj.cells vs.toArray t)) W.heap.size t vs:=by
 have:=World.rowIs_alloc W vs.toArray t (λi=>vs[i]?.getD undef) (λi hi=>by
  simp only [List.size_toArray] at hi;rw [List.getElem?_toArray,List.getElem?_eq_getElem hi];rfl)
 rw [List.size_toArray] at this;exact this
section
variable {W':World}   {vs:List Value}
theorem An.lt(h:An W b t vs):b<W.heap.size:=by
 obtain⟨c,h1,_⟩:=h;exact(Array.getElem?_eq_some_iff.1 h1).1
theorem An.block(h:An W b t vs)(d:W'.heap[b]? =W.heap[b]?):An W' b t vs:=RL h d
theorem An.below(h:An W b t vs)(d:Below W.heap.size W W'):An W' b t vs:=h.block (d.block b h.lt)
theorem An.Ar(h:An W b t vs)(d:Ad W F W' F')(I: ¬F b):An W' b t vs:=h.block (d.keep b h.lt I)
theorem An.at' (h:An W b t vs){i:Nat}(hi:vs[i]? =some v):W.cell? ⟨b,i,none⟩=some v:=by
 have d:i<vs.length:=(List.getElem?_eq_some_iff.1 hi).1;have:=h.cell d;simp only [hi,Option.getD_some] at this;exact this
theorem An.free(h:An W b t vs)(i:Nat):W.frozen? ⟨b,i,none⟩=false:=h.frozen i
theorem An.set(h:An W b t vs)(i:Nat)(v:Value):An (W.setCell ⟨b,i,none⟩ v) b t (vs.set i v):=by
 have h1:=World.rowIs.set h i v;unfold An;rw [List.length_set];refine h1.congr λj d=> ?_
 by_cases e:j=i
 . subst e
   simp only [if_true];rw [List.getElem?_set_self d];rfl
 . simp only [if_neg e]
   rw [List.getElem?_set_ne (λI =>e I.symm)]
theorem An.other(h:An W b t vs){p:Addr}(hp:b≠p.block)(v:Value):An (W.setCell p v) b t vs:=World.rowIs.setOther h hp v
end
theorem A2{l:List Value}(h:An W b t (x::y::l)):W.cell? ⟨b,0,none⟩=some x/\W.cell? ⟨b,1,none⟩=some y:=⟨h.at' (i:=0) rfl,h.at' (i:=1) rfl⟩
theorem Dl{l:List Value}(h:An W b t (x::y::l)):(W.cell? ⟨b,0,none⟩=some x/\W.cell? ⟨b,1,none⟩=some y)/\W.frozen? ⟨b,0,none⟩=false/\W.frozen? ⟨b,1,none⟩=false:=⟨A2 h,h.free 0,h.free 1⟩
theorem C5{l:List Value}(h:An W b t (x::y::z::u::l)):W.cell? ⟨b,0,none⟩=some x/\W.cell? ⟨b,1,none⟩=some y/\W.cell? ⟨b,2,none⟩=some z/\W.cell? ⟨b,3,none⟩=some u:=⟨h.at' (i:=0) rfl,h.at' (i:=1) rfl,h.at' (i:=2) rfl,h.at' (i:=3) rfl⟩
theorem Yq{l:List Value}(h:An W b t (x::y::z::u::l)):(W.cell? ⟨b,0,none⟩=some x/\W.cell? ⟨b,1,none⟩=some y/\W.cell? ⟨b,2,none⟩=some z/\W.cell? ⟨b,3,none⟩=some u)/\W.frozen? ⟨b,0,none⟩=false/\W.frozen? ⟨b,1,none⟩=false/\W.frozen? ⟨b,2,none⟩=false/\W.frozen? ⟨b,3,none⟩=false:=⟨C5 h,h.free 0,h.free 1,h.free 2,h.free 3⟩
theorem An.alloc{vs:List Value}(h:An W b t vs)(o:Obj):An (W.alloc o) b t vs:=h.below ((Below.refl _ W).alloc (Nat.le_refl _) o)
end Go.Proofs.YtiopopoohglepaaGreatDoor
namespace Go.Proofs.YtiopopoohglepaaGreatDoor
open Go.Proofs.Tryz
open Go Go.RowKit
variable {K:Act->World->Prop}{i:Nat}{v:Value}{w:World}
section
variable {P:Program} {ops:Array Oper} {md:Region.Mode} {Q:Exit->Act->World->Prop} {C:World->Prop}
def BY(P:Program)(ops:Array Oper)(C:World->Prop)(o:Oper)(v:Value)(a:Act):Prop:=
 (Region.wanted o (yielded ops a.tmps)=true/\ ∀w,C w->(execOp a.eval o).run P w= .ok (.value v) w)\/(Region.wanted o (yielded ops a.tmps)=false/\v=undef)
theorem BY.of_same{o:Oper}{a a' :Act}(I:BY P ops C o v a)(he:execOp a'.eval o=execOp a.eval o)
 (hw:Region.wanted o (yielded ops a'.tmps)=Region.wanted o (yielded ops a.tmps)):BY P ops C o v a' :=by
 rcases I with ⟨h1,d⟩|⟨h1,d⟩
 . exact .inl ⟨hw.trans h1,λw J=>by rw [he];exact d w J⟩
 . exact .inr ⟨hw.trans h1,d⟩
theorem BY.op{o:Oper}{a:Act}(hi:ops[i]? =some o)(I:BY P ops C o v a)(J:C w)(h:K (a.put o.dst v) w):wpOp P ops Q i K a w:=by
 unfold wpOp;simp only [hi];rcases I with ⟨h1,d⟩|⟨h1,d⟩
 . rw [if_pos h1]
   refine .inl ?_;unfold Oper.wp;rw [d w J];exact h
 . rw [if_neg (by rw [h1];decide),<-d]
   exact h
def Ybt{P}(h:P:=by
 cases e with
 |returned u=>exact⟨keep a I u,by rw [<-Act.put_comm a v u J];exact he⟩
 |panicked c=>exact O _ _ _ he
 |outgrown=>exact he):=h
def Yfe{P}(h:P:=by
 refine⟨keep _ (U d) _, ?_⟩;rw [<-Act.put_comm _ v undef J,<-Act.put_defers];exact h):=h
theorem H7{j:Nat}{V Z:Oper}(ae:ops[j]? =some Z)(af:V.apart ops Z=true)
 (ag: ∀cs b,V.op≠ .select cs b) (aa: ∀cs b,Z.op≠ .select cs b)
 (O: ∀c a w,Q (.panic c) (a.put V.dst v) w->Q (.panic c) a w) {a:Act}
 (I:BY P ops C V v a) (h:wpOp P ops Q j K (a.put V.dst v) w):
 wpOp P ops Q j (λa' w' =>BY P ops C V v a' /\K (a'.put V.dst v) w') a w:=by
 obtain⟨h1,J,ab⟩:=Oper.apart_spec af
 have keep: ∀(a:Act),BY P ops C V v a-> ∀u,BY P ops C V v (a.put Z.dst u):=λa I u=>
  I.of_same (execOp_put V ag a Z.dst u ab) (wanted_put V a Z.dst u ab)
 have U: ∀d,BY P ops C V v { a with defers:=d::a.defers }:=λd=>I.of_same rfl rfl
 unfold wpOp at*;simp only [ae] at*;rw [wanted_put Z a V.dst v h1] at h
 split
 . rename_i hw
   simp only [hw,if_true] at h;rcases h with h|⟨ac,ah⟩
   case inr=>exact .inr ⟨by unfold Oper.asks at *; rw [execOp_put Z aa a V.dst v h1] at ac;exact ac,ah⟩
   refine .inl ?_;unfold Oper.wp at*;rw [execOp_put Z aa a V.dst v h1] at h;generalize (execOp a.eval Z).run P w=r at*
   cases r with
   |ok n w' =>
    cases n<;>simp only [Oper.upon] at h ⊢
    case value u=>exact⟨keep a I u,by rw [<-Act.put_comm a v u J];exact h⟩
    case skip=>exact⟨keep a I _,by rw [<-Act.put_comm a v undef J];exact h⟩
    case defer d=>
     exact Yfe
    case enter f args=>
     refine Calls.mono h λe ai he=> ?_
     exact Ybt
    case row row args=>exact Rows.mono h λu ai he=>⟨keep a I u,by rw [<-Act.put_comm a v u J];exact he⟩
   |halt x w' =>
    cases x<;>simp only [Oper.upon] at h ⊢
    case panic u=>exact O _ _ _ h
 . rename_i hw
   simp only [hw] at h;exact⟨keep a I _,by rw [<-Act.put_comm a v undef J];exact h⟩
def C6(P:Program)(md:Region.Mode)(ops:Array Oper)(Q:Exit->Act->World->Prop)(C:World->Prop):Nat->Array Bool->Act->World->Prop
 |0,listed,a,w=>Region.ready md ops listed= []/\Q .normal a w
 |f+1,listed,a,w=>
  (Region.ready md ops listed= []->Q .normal a w)/\
  ∀i∈Region.ready md ops listed,wpOp P ops Q i (λa' w' =>C w' /\C6 P md ops Q C f (listed.setIfInBounds i true) a' w') a w
theorem C6.any: ∀(f:Nat) (listed:Array Bool) (a:Act) (w:World),C6 P md ops Q C f listed a w->wpAny P md ops Q f listed a w
 |0,_,_,_,h=>h
 |f+1,listed,a,w,h=>⟨h.1,λi hi=>wpOp_mono (λa' w' d =>C6.any f _ a' w' d.2) (h.2 i hi)⟩
def Y9{P}(h:P:=by
 have:=ready_mono O J;rw [H.1] at this
 cases this):=h
def Y6{P}(h:P:=by
 rw [Array.setIfInBounds_comm _ _ J];exact V.2.2):=h
theorem JE{I:Oper}(hi:ops[i]? =some I)(ai: ∀(j:Nat) (o:Oper) cs b,ops[j]? =some o->o.op≠ .select cs b)
 (aj: ∀c a w,Q (.panic c) (a.put I.dst v) w->Q (.panic c) a w):
 ∀(f:Nat) (listed:Array Bool) (a:Act) (w:World),
  (∀j d,ops[j]? =some d->j≠i->listed.getD j true=false->(∀e∈d.after,Region.binds md e=true->e.on≠i)->I.apart ops d=true)->
  i∈Region.ready md ops listed->BY P ops C I v a->C w->
  C6 P md ops Q C f (listed.setIfInBounds i true) (a.put I.dst v) w->C6 P md ops Q C (f+1) listed a w:=by
 intro f
 induction f with
 |zero=>
  intro listed a w _ ae ag af H;refine⟨λh=>(by rw [h] at ae;cases ae),λj O=> ?_⟩;by_cases J:j=i
  . subst J;exact ag.op hi af ⟨af,H⟩
  . exact Y9
 |succ f ih=>
  intro listed a w aa ae ag af H;refine⟨λh=>(by rw [h] at ae;cases ae),λj O=> ?_⟩;by_cases J:j=i
  . subst J;exact ag.op hi af ⟨af,H⟩
  . have h1:=H.2 j (ready_mono O J)
    obtain⟨Z,d,ah,ab⟩:=mem_ready.1 O;have U:=(mem_ready.1 ae).1;have al:=Xd;have am:=H7 ah (aa j d ah J Z al) (λcs b=>ai i I cs b hi) (λcs b=>ai j d cs b ah) aj ag h1;have an:=Yj;refine wpOp_mono (λa' w' V=> ?_) am;refine⟨V.2.1,ih (listed.setIfInBounds j true) a' w' an (ready_mono ae (Ne.symm J)) V.1 V.2.1 ?_⟩;exact Y6
def RH(md:Region.Mode)(ops:Array Oper):List Nat->Array Bool->Bool
 | [],listed=>(Region.ready md ops listed).isEmpty
 |k::ks,listed=>decide (Region.ready md ops listed= [k])&&RH md ops ks (listed.setIfInBounds k true)
def Qz(md:Region.Mode)(ops:Array Oper)(ks:List Nat):List Nat->Array Bool->Bool
 | [],listed=>RH md ops ks listed
 |i::is,listed=>(Region.ready md ops listed).contains i&&Region.free md ops listed i&&Qz md ops ks is (listed.setIfInBounds i true)
def Qr(K:Act->World->Prop)(Q:Exit->Act->World->Prop):Exit->Act->World->Prop
 | .normal,a,w=>K a w
 |e,a,w=>Q e a w
def Hk(P:Program)(ops:Array Oper)(C:World->Prop)(L:Act->Prop):List Nat->Act->Prop
 | [],a=>L a
 |i::is,a=> ∃o v,ops[i]? =some o/\BY P ops C o v a/\Hk P ops C L is (a.put o.dst v)
def FQ(P:Program)(ops:Array Oper)(Q:Exit->Act->World->Prop)(C:World->Prop):List Nat->Act->World->Prop
 | [],a,w=>Q .normal a w
 |k::ks,a,w=> ∃o,ops[k]? =some o/\wpList P ops (Qr (λa' w' =>C w' /\FQ P ops Q C ks a' w') Q) [o] a w
theorem KP{L:Act->Prop}{a:Act}(h:L a):Hk P ops C L [] a:=h
theorem CJ{L:Act->Prop}{is:List Nat}{a:Act}(o:Oper)(v:Value)(hi:ops[i]? =some o)(h1:Region.wanted o (yielded ops a.tmps)=true)(d: ∀w,C w->(execOp a.eval o).run P w= .ok (.value v) w)(h:Hk P ops C L is (a.put o.dst v)):Hk P ops C L (i::is) a:=
 ⟨o,v,hi, .inl ⟨h1,d⟩,h⟩
theorem Mb{a:Act}(h:Q .normal a w):FQ P ops Q C [] a w:=h
theorem DX{k:Nat}{ks:List Nat}{a:Act}(o:Oper)(d:ops[k]? =some o)(h: ∀K:Act->World->Prop,(∀a' w',C w' ->FQ P ops Q C ks a' w' ->K a' w')->wpList P ops (Qr K Q) [o] a w):FQ P ops Q C (k::ks) a w:=
 ⟨o,d,h _ (λ_ _ h1 I=>⟨h1,I⟩)⟩
theorem Xc{o:Oper}{a:Act}{Q' :Exit->Act->World->Prop}(d: ∀c a w,Q' (.panic c) a w->Q (.panic c) a w)(I:LetsOut Q' ->LetsOut Q)(hh:o.wp P a w K Q'):o.wp P a w K Q:=by
 unfold Oper.wp at*;generalize (execOp a.eval o).run P w=r at*
 cases r with
 |ok x w' =>
  cases x<;>simp only [Oper.upon] at hh ⊢ <;>
   first
    |exact hh
    |exact Calls.mono hh (λe J he=>by cases e<;>first|exact he|exact d _ _ _ he|exact I he)
 |halt x w' =>cases x<;>simp only [Oper.upon] at hh ⊢ <;>first|exact d _ _ _ hh|exact hh
theorem De{o:Oper}{a:Act}(hi:ops[i]? =some o)(h:wpList P ops (Qr K Q) [o] a w):wpOp P ops Q i K a w:=by
 unfold wpOp;simp only [hi];unfold wpList at h
 split
 . rename_i hw
   rw [if_pos hw] at h;rcases h with h|⟨h1,d⟩
   . exact .inl (Xc (λ_ _ _ h=>h) (λh=>h) h)
   . exact .inr ⟨h1,d⟩
 . rename_i hw
   rw [if_neg hw] at h;exact h
theorem Iy: ∀(ks:List Nat) (listed:Array Bool) (a:Act) (w:World),RH md ops ks listed=true->FQ P ops Q C ks a w->C6 P md ops Q C ks.length listed a w
 | [],listed,a,w,hB,h=>⟨by simpa [RH] using hB,h⟩
 |k::ks,listed,a,w,hB,h=>by
  obtain⟨o,h0,h⟩:=h;simp only [RH,Bool.and_eq_true,decide_eq_true_eq] at hB;refine⟨λh1=>(by rw [hB.1] at h1;cases h1),λi hi=> ?_⟩;rw [hB.1] at hi;obtain rfl:i=k:=by simpa using hi
  exact wpOp_mono (λa' w' d =>⟨d.1,Iy ks _ a' w' hB.2 d.2⟩) (De h0 h)
theorem Ht{ks:List Nat}{w:World}(I:Region.noSelect ops=true)(J:C w)(O: ∀c a d v w,Q (.panic c) (Act.put a d v) w->Q (.panic c) a w):
 ∀(is:List Nat) (listed:Array Bool) (a:Act),Qz md ops ks is listed=true->Hk P ops C (λa' =>FQ P ops Q C ks a' w) is a->C6 P md ops Q C (is.length+ks.length) listed a w
 | [],listed,a,hB,h=>by
   rw [List.length_nil,Nat.zero_add];exact Iy ks listed a w hB h
 |i::is,listed,a,hB,h=>by
  obtain⟨o,v,h0,U,V⟩:=h;simp only [Qz,Bool.and_eq_true] at hB;obtain⟨⟨Z,aa⟩,ab⟩:=hB;rw [List.length_cons,show is.length+1+ks.length=(is.length+ks.length)+1 by omega]
  exact JE h0 (Region.noSelect_spec I) (λc a w h=>O c a _ _ w h) (is.length+ks.length) listed a w (Region.free_spec h0 aa) (by simpa using Z) U J
   (Ht I J O is _ _ ab V)
theorem IH{id:Nat}{a:Act}{l:List Oper}(C:World->Prop)(is ks:List Nat)(hm:P.follows .mixedOrders=true)(I:Region.noSelect l.toArray=true)(hlen:is.length+ks.length=l.length)
 (J:Qz .any l.toArray ks is (Array.replicate l.toArray.size false)=true) (O:C { w with drawn:=w.drawn+1 }) (U: ∀c a d v w,Q (.panic c) (Act.put a d v) w->Q (.panic c) a w)
 (h:Hk P l.toArray C (λa' =>FQ P l.toArray Q C ks a' { w with drawn:=w.drawn+1 }) is a):(Code.region id l.toArray true).wp P Q a w:=by
 refine wp_region_any hm (C6.any (C:=C) _ _ _ _ ?_);have:=Ht (md:= .any) I O U is (Array.replicate l.toArray.size false) a J h;rw [hlen] at this
 simpa using this
end
end Go.Proofs.YtiopopoohglepaaGreatDoor
namespace Go.Proofs.YtiopopoohglepaaGreatDoor
open Go.Proofs.Tryz
open Go.RowKit Go.Shelf
variable {R:Zr}{nd:Nd}{x:Nat}
def NW(z:Int):Nat:=(z%18446744073709551616).toNat
def Ypa{P}(h:P:=by
 have h1:=Int.emod_nonneg z (show(18446744073709551616:Int)≠0 by omega);exact h1):=h
theorem Va(z:Int):NW z<18446744073709551616:=by
 unfold NW;have h1:=Ypa;omega
def O5(R:Zr)(x:Nat)(nd:Nd):Zr:=if EJ R x=0 then AT R x (some nd.ws) else R
theorem Mi{y:Nat}(h:y≠x):O5 R x nd y=R y:=by
 unfold O5
 split
 . exact As h
 . rfl
theorem UO(h:EJ R x=0):O5 R x nd x=some nd.ws:=by
 unfold O5;rw [if_pos h,AR]
def Jo(R R' :Zr):Prop:= ∀x,(EJ R' x=EJ R x/\(EJ R x≠0->R' x=R x))/\(FH R' x).key=(FH R x).key/\(FH R' x).val=(FH R x).val
theorem Jo.trans{R1 R2:Zr}(h:Jo R R1)(k:Jo R1 R2):Jo R R2:=λx=>⟨⟨(k x).1.1.trans (h x).1.1,λhx=>((k x).1.2 (by rw [(h x).1.1];exact hx)).trans ((h x).1.2 hx)⟩,(k x).2.1.trans (h x).2.1,(k x).2.2.trans (h x).2.2⟩
theorem QM{R':Zr}(h:R' x=R x):EJ R' x=EJ R x/\FH R' x=FH R x:=by
 unfold EJ FH LK;rw [h];exact⟨rfl,rfl⟩
theorem Jo.put(J:EJ R x=0->nd.key=(FH R x).key/\nd.val=(FH R x).val):Jo R (O5 R x nd):=λy=>by
 by_cases e:y=x
 . subst e
   by_cases h0:EJ R y=0
   . obtain⟨d,I⟩:=WE (UO (nd:=nd) h0)
     rw [d,I,h0];exact⟨⟨rfl,λhx=>absurd rfl hx⟩,J h0⟩
   . unfold O5
     rw [if_neg h0];exact⟨⟨rfl,λ_=>rfl⟩,rfl,rfl⟩
 . obtain⟨d,I⟩:=QM (Mi (nd:=nd) (R:=R) e)
   rw [d,I];exact⟨⟨rfl,λ_=>Mi e⟩,rfl,rfl⟩
section
variable {w w':World} {s N:Nat}  {n:Nat}
theorem IL(z:Int):IntKind.u64.wrap z=((NW z:Nat):Int):=by
 have h1:=Ypa;unfold NW;rw [Int.toNat_of_nonneg h1];rfl
section
variable {F:Nat->Prop} {H:List Nat} {P q most last G:Nat}
end
end
structure Kp(w:World)(F:Nat->Prop) where
 W:World
 F' :Nat->Prop
 h:Ad w F W F'
theorem Kp.cell{w:World}{F:Nat->Prop}{p:Addr}{v:Value}(d:w.cell? p=some v)(I: ¬F p.block)(X:Kp w F):X.W.cell? p=some v:=X.h.cell d I
theorem Kp.start(w:World)(F:Nat->Prop): ∃X:Kp w F,{ w with drawn:=w.drawn+1 }=X.W:=⟨⟨_,F,Ad.below (Ac w)⟩,rfl⟩
section
variable {w w':World} {s:Nat} {F:Nat->Prop}  {H:List Nat} {P q most last G:Nat}
end
