/- A part. -/
import Derived.Test.YtiopopoohglepaaGreatDoorVMxh
set_option linter.all false
set_option maxRecDepth 100000
set_option maxHeartbeats 2000000
namespace Go.Proofs.YtiopopoohglepaaGreatDoor
open Go.Proofs.Tryz
open Go.RowKit Go.Shelf
variable {B M m:Nat}{X w:World}{c6 c7:List Value}{l1 l2 l3:List Nat}{u0 u1 u2 u3:Value}
theorem Wa(w:World)(s t:Nat)(key:ByteArray):Calls prog 33 #[.agg #[.pointer (some ⟨s,0,none⟩), .int .i64 t], .string key] w λe w' => ∃d bt:Nat,e= .returned (.func (.func 73) #[] #[.pointer (some ⟨d,0,none⟩), .pointer (some ⟨bt,0,none⟩)])/\w'.cell? ⟨d,0,none⟩=some (.string key)/\w'.cell? ⟨bt,0,none⟩=some (.pointer (some ⟨s,0,none⟩))/\w.heap.size<=d/\w.heap.size<=bt/\Below w.heap.size w w' :=by
 have J:=Zh ((An.new w 77 [.pointer (some ⟨s,0,none⟩), .int .i64 t]).alloc (Obj.cells #[.string key] 9));have O:=Zh (An.new (w.alloc (Obj.cells #[.pointer (some ⟨s,0,none⟩), .int .i64 t] 77)) 9 [.string key]);have U:=Zh (((Below.refl w.heap.size w).alloc (Nat.le_refl _) (Obj.cells #[.pointer (some ⟨s,0,none⟩), .int .i64 t] 77)).alloc (by simp) (Obj.cells #[.string key] 9));go_enter func33,ntmps33;go_wp2;go_ret;have I:=O.at' (i:=0) rfl;rw [show(w.alloc (Obj.cells #[.pointer (some ⟨s,0,none⟩), .int .i64 t] 77)).heap.size=w.heap.size+1 by simp] at I;exact⟨_,_,rfl,I,J.at' (i:=0) rfl,by simp,Nat.le_refl _,U⟩
section
variable {w':World} {s N:Nat} {R:Zr} {nn:Nat}
def Ynr{P}(h:P:=by
 have I:Below w3.heap.size w3 d:=by rw [ab];exact(Below.refl _ _).alloc (Nat.le_refl _) _
 exact I):=h
theorem LZ(h:Rd N w s R nn){t:Nat}(U:BN.A1 t){root:Nat}(hx:root<18446744073709551616){key:ByteArray}(aM:key.size<=1000)(he:root=0\/Bm R t root=0):
 Calls prog 30 #[.pointer (some ⟨s,0,none⟩), .int .i64 t, .int .u64 root, .string key] w λe w' =>e= .returned (.tuple #[.agg #[.pointer (some ⟨s,0,none⟩), .int .i64 t], .int .i64 0])/\Below w.heap.size w w' :=by
 obtain⟨O,ae⟩:=Zx (w.alloc (Obj.cells #[.pointer none, .int .i64 0] 77));obtain⟨V,aa⟩:=Zx w.heap.size;have Z:=G5;have J:An O V 77 [.pointer none, .int .i64 0]:=by rw [ae,aa];exact An.new w _ _
 have aq:=HF (h.below Z) 0 (by decide);obtain⟨aN,lb,aj,az⟩:=E2 R 0;rw [aj] at aq;obtain⟨_,al⟩:=XV;have am:=Zh (Lj (h.below Z) t U root hx);have aA:=Zh (λW=>Ii U W);have d2:((6*(t:Int))==0)=false:=by have:=U.1;simp;omega
 have d3:decide ((1000:Int)<(key.size:Int))=false:=decide_eq_false (by omega);have ac:=Zh Z;obtain⟨aB,ag⟩:=LJ;have an:=Zh (show w.heap.size<=V by omega);obtain⟨er,ao⟩:=Zx (Bm R t root);have ar:=Zh he;have au:=Zh ao;clear h U aq aj az ae aa Z J he ao;go_enter func30,ntmps30;go_wp2_with fail;rw [<-ag.1];refine al.mono ?_;rintro e w2 ⟨rfl,rfl⟩;clear al;go_wp2_with fail;refine am.mono ?_;rintro e w3 ⟨v1,v2,v3,rfl,af,I⟩;obtain⟨aC,k1,rfl⟩:=Ae af.r1;obtain⟨aD,k2,rfl⟩:=Ae af.r2;obtain⟨aE,aF,rfl⟩:=Ae af.r3;have aG:=Zh (aB.below I);have aw:=DR;generalize (Ag R t root).keys.length=n1 at*;generalize (Ag R t root).Ab.length=n2 at*;generalize (Ag R t root).kids.length=n3 at*;generalize (Ag R t root).size=n4 at*;rw [<-au.out] at ar ⊢;clear af I am au;obtain⟨d,ab⟩:=Zx (w3.alloc (Obj.cells #[.slice aC n1 k1, .slice aD n2 k2, .slice aE n3 aF, .int .u64 n4] 100));have ah:=Ynr;have ai:=aG.below ah;have aH:=Zh (((aw.trans (ah.mono aw.size)).setCell (p:=⟨V,0,none⟩) an (.pointer (some ⟨s,0,none⟩))).setCell (p:=⟨V,1,none⟩) an (.int .i64 t));have aJ:=Zh ((ai.set 0 (.pointer (some ⟨s,0,none⟩))).set 1 (.int .i64 t));obtain⟨⟨d0,aK⟩,f0,f1⟩:=Dl ai;have aL:=Zh ab;rw [ab,ag.2] at d0 aK f0 f1;clear ab ah ai;rcases ar.out with rfl|rfl
 rotate_left
 cases aP:((root:Int) !=0)
 all_goals
  go_wp2_with fail;refine(aA _).mono ?_;rintro e aQ ⟨rfl,rfl⟩;go_wp2;obtain⟨ax,r1⟩:=A2 aJ.out;have ay:=aH.out;rw [aL.out,ag.2] at ax r1 ay;exact bodyPost_ret (v:= .tuple #[.agg #[.pointer (some ⟨s,0,none⟩), .int .i64 t], .int .i64 0]) (by simp [results,f30,go_sem,ax,r1]) rfl ⟨rfl,ay⟩
end
abbrev V3:=Value × Value × Value
def BA(v:V3)(k:Nat):Prop:=v.1.ownBlock=some k\/v.2.1.ownBlock=some k\/v.2.2.ownBlock=some k
def Wl(o:Option V3)(k:Nat):Prop:= ∃v,o=some v/\BA v k
def KV(fa fb:Nat->Prop)(p q:Option Nat):Fin 4->Nat->Prop
 |0=>fa
 |1=>fb
 |2=>λk=>p=some k
 |3=>λk=>q=some k
structure Us(m M:Nat)(f:Fin 4->Nat->Prop):Prop where
 ge: ∀i k,f i k->m<=k
 lt: ∀i k,f i k->k<M
 BS: ∀i j k,f i k->f j k->i=j
theorem Us.more{U:Nat}{f f' :Fin 4->Nat->Prop}(h:Us m M f)(i0:Fin 4)(I: ∀i,i≠i0-> ∀k,f' i k->f i k)(hi: ∀k,f' i0 k->f i0 k\/(M<=k/\k<U))(Z:M<=U)(hm:m<=M):Us m U f' :=by
 refine⟨λi k J=> ?_,λi k J=> ?_,λi j k h1 V=> ?_⟩
 . by_cases e:i=i0
   . subst e
     rcases hi k J with d|d
     . exact h.ge _ _ d
     . omega
   . exact h.ge _ _ (I i e k J)
 . by_cases e:i=i0
   . subst e
     rcases hi k J with d|d
     . exact Nat.lt_of_lt_of_le (h.lt _ _ d) Z
     . omega
   . exact Nat.lt_of_lt_of_le (h.lt _ _ (I i e k J)) Z
 . by_cases e:i=i0
   . subst e
     by_cases O:j=i
     . exact O.symm
     . have g2:=I j O k V
       rcases hi k h1 with d|d
       . exact h.BS _ _ k d g2
       . have:=h.lt _ _ g2;omega
   . have g1:=I i e k h1
     by_cases O:j=i0
     . subst O
       rcases hi k V with d|d
       . exact h.BS _ _ k g1 d
       . have:=h.lt _ _ g1;omega
     . exact h.BS _ _ k g1 (I j O k V)
def z4:List Value:= [.slice none 0 0, .slice none 0 0, .slice none 0 0, .int .u64 0]
structure Way(w X:World)(a b:BN)(va vb:Option V3)(p q:Option Nat)(c6 c7:List Value):Prop where
 low:Below w.heap.size w X
 BS:Us w.heap.size X.heap.size (KV (Wl va) (Wl vb) p q)
 ra: ∀v,va=some v->AQ X 0 v.1 a.keys v.2.1 a.Ab v.2.2 a.kids
 rb: ∀v,vb=some v->AQ X 0 v.1 b.keys v.2.1 b.Ab v.2.2 b.kids
 x6: ∀k,p=some k->An X k 100 c6
 x7: ∀k,q=some k->An X k 100 c7
theorem AQ.blocks{X':World}{v1 v2 v3:Value}(h:AQ X B v1 l1 v2 l2 v3 l3)(I: ∀k,BA (v1,v2,v3) k->X'.heap[k]? =X.heap[k]?):AQ X' B v1 l1 v2 l2 v3 l3:=
 ⟨CK h.r1 (λb d=>I b (.inl d)),CK h.r2 (λb d=>I b (.inr (.inl d))),CK h.r3 (λb d=>I b (.inr (.inr d))),h.a12,h.Oq,h.a23⟩
theorem AQ.IC{v:V3}(h:AQ X B v.1 l1 v.2.1 l2 v.2.2 l3){k:Nat}(d:BA v k):B<=k/\k<X.heap.size:=by
 rcases d with d|d|d
 . exact BM h.r1 d
 . exact BM h.r2 d
 . exact BM h.r3 d
section
variable {X':World} {a b a' b':BN} {va vb:Option V3} {p q:Option Nat} 
theorem Way.start(w:World)(a b:BN)(c6 c7:List Value):Way w w a b none none none none c6 c7:=by
 refine⟨Below.refl _ _,⟨λi k h=> ?_,λi k h=> ?_,λi j k h=> ?_⟩,λv h=>(by cases h),λv h=>(by cases h),λv h=>(by cases h),λv h=>(by cases h)⟩<;>
 . match i with
   |0=>obtain⟨_,h,_⟩:=h;cases h
   |1=>obtain⟨_,h,_⟩:=h;cases h
   |2=>cases h
   |3=>cases h
theorem Way.below(h:Way w X a b va vb p q c6 c7)(I:Below X.heap.size X X'):Way w X' a b va vb p q c6 c7:=
 ⟨h.low.trans (I.mono h.low.size),h.BS.more 0 (λ_ _ _ d=>d) (λ_ d=> .inl d) I.size h.low.size,λv J=>(h.ra v J).below I,λv J=>(h.rb v J).below I,λk d=>(h.x6 k d).below I,λk d=>(h.x7 k d).below I⟩
theorem Way.Adk{v:V3}(h:Way w X a b none vb p q c6 c7)(I:Below X.heap.size X X')(J:AQ X' X.heap.size v.1 a.keys v.2.1 a.Ab v.2.2 a.kids):Way w X' a b (some v) vb p q c6 c7:=
 ⟨h.low.trans (I.mono h.low.size),h.BS.more 0 (λi hi k d=>by
  match i,hi with
  |1,_=>exact d
  |2,_=>exact d
  |3,_=>exact d) (λk d=> .inr (by
  obtain⟨_,e,d⟩:=d
  cases e
  exact J.IC d)) I.size h.low.size,λu hu=>by cases hu;exact J.lower (Nat.zero_le _),λu hu=>(h.rb u hu).below I,λk d=>(h.x6 k d).below I,λk d=>(h.x7 k d).below I⟩
theorem Way.Afd{v:V3}(h:Way w X a b va none p q c6 c7)(I:Below X.heap.size X X')(J:AQ X' X.heap.size v.1 b.keys v.2.1 b.Ab v.2.2 b.kids):Way w X' a b va (some v) p q c6 c7:=
 ⟨h.low.trans (I.mono h.low.size),h.BS.more 1 (λi hi k d=>by
  match i,hi with
  |0,_=>exact d
  |2,_=>exact d
  |3,_=>exact d) (λk d=> .inr (by
  obtain⟨_,e,d⟩:=d
  cases e
  exact J.IC d)) I.size h.low.size,λu hu=>(h.ra u hu).below I,λu hu=>by cases hu;exact J.lower (Nat.zero_le _),λk d=>(h.x6 k d).below I,λk d=>(h.x7 k d).below I⟩
def Ymc{P}(h:P:=by
 have d:=(Below.refl X.heap.size X).alloc (Nat.le_refl _) (Obj.cells #[.slice none 0 0, .slice none 0 0, .slice none 0 0, .int .u64 0] 100);exact d):=h
theorem Way.Ko(h:Way w X a b va vb none q z4 c7): ∃X' k,X.alloc (Obj.cells #[.slice none 0 0, .slice none 0 0, .slice none 0 0, .int .u64 0] 100)=X' /\X.heap.size=k/\Way w X' a b va vb (some k) q z4 c7:=by
 have I:=Ymc;refine⟨_,_,rfl,rfl,⟨h.low.trans (I.mono h.low.size),h.BS.more 2 (λi hi k d=>by
  match i,hi with
  |0,_=>exact d
  |1,_=>exact d
  |3,_=>exact d) (λk d=> .inr (by
  cases d
  exact⟨Nat.le_refl _,by simp⟩)) I.size h.low.size,λu hu=>(h.ra u hu).below I,λu hu=>(h.rb u hu).below I,λk d=> ?_,λk d=>(h.x7 k d).below I⟩⟩
 cases d
 exact An.new X _ _
theorem Way.K7(h:Way w X a b va vb p none c6 z4): ∃X' k,X.alloc (Obj.cells #[.slice none 0 0, .slice none 0 0, .slice none 0 0, .int .u64 0] 100)=X' /\X.heap.size=k/\Way w X' a b va vb p (some k) c6 z4:=by
 have I:=Ymc;refine⟨_,_,rfl,rfl,⟨h.low.trans (I.mono h.low.size),h.BS.more 3 (λi hi k d=>by
  match i,hi with
  |0,_=>exact d
  |1,_=>exact d
  |2,_=>exact d
  |3,hi=>exact absurd rfl hi) (λk d=> .inr (by
  cases d
  exact⟨Nat.le_refl _,by simp⟩)) I.size h.low.size,λu hu=>(h.ra u hu).below I,λu hu=>(h.rb u hu).below I,λk d=>(h.x6 k d).below I,λk d=> ?_⟩⟩
 cases d
 exact An.new X _ _
end
section
variable {X':World} {a b a' b':BN} {va vb va' vb':V3} {p q:Nat} 
def Yfw{P}(h:P:=by
 cases hu
 exact(h.rb vb rfl).blocks λk I=>d 1 (by decide) k ⟨vb,rfl,I⟩):=h
theorem Way.UB(h:Way w X a b (some va) (some vb) (some p) (some q) c6 c7)(O:Below w.heap.size X X')(U:AQ X' 0 va'.1 a'.keys va'.2.1 a'.Ab va'.2.2 a'.kids)(Z: ∀k,BA va' k->BA va k\/X.heap.size<=k)(I: ∀k,k<X.heap.size-> ¬BA va k->X'.heap[k]? =X.heap[k]?):
 Way w X' a' b (some va') (some vb) (some p) (some q) c6 c7:=by
 have d: ∀(i:Fin 4),i≠0-> ∀k,KV (Wl (some va)) (Wl (some vb)) (some p) (some q) i k->X'.heap[k]? =X.heap[k]? :=λi hi k V=>
  I k (h.BS.lt i k V) λha=>hi (h.BS.BS i 0 k V ⟨va,rfl,ha⟩)
 refine⟨h.low.trans O,h.BS.more 0 (λi hi k I=>by
  match i,hi with
  |1,_=>exact I
  |2,_=>exact I
  |3,_=>exact I) (λk I=>by
  obtain⟨_,e,I⟩:=I
  cases e
  rcases Z k I with J|J
  . exact .inl ⟨va,rfl,J⟩
  . exact .inr ⟨J,(U.IC I).2⟩) O.size h.low.size,λu hu=>by cases hu;exact U,λu hu=> ?_,λk hp=> ?_,λk hp=> ?_⟩
 . exact Yfw
 . cases hp
   exact(h.x6 p rfl).block (d 2 (by decide) p rfl)
 . cases hp
   exact(h.x7 q rfl).block (d 3 (by decide) q rfl)
theorem Us.swap{I fb:Nat->Prop}{p q:Option Nat}(h:Us m M (KV I fb p q)):Us m M (KV fb I q p):=by
 have hs: ∀(i:Fin 4),∃j:Fin 4,KV fb I q p i=KV I fb p q j/\ ∀O U :Fin 4,KV fb I q p O =KV I fb p q U ->True:=λi=>by
  match i with
  |0=>exact⟨1,rfl,λ_ _ _=>trivial⟩
  |1=>exact⟨0,rfl,λ_ _ _=>trivial⟩
  |2=>exact⟨3,rfl,λ_ _ _=>trivial⟩
  |3=>exact⟨2,rfl,λ_ _ _=>trivial⟩
 refine⟨λi k J=> ?_,λi k J=> ?_,λi j k h1 d=> ?_⟩
 . obtain⟨j,e,_⟩:=hs i
   rw [e] at J;exact h.ge j k J
 . obtain⟨j,e,_⟩:=hs i
   rw [e] at J;exact h.lt j k J
 . match i,j with
   |0,0=>rfl
   |0,1=>exact absurd (h.BS 1 0 k h1 d) (by decide)
   |0,2=>exact absurd (h.BS 1 3 k h1 d) (by decide)
   |0,3=>exact absurd (h.BS 1 2 k h1 d) (by decide)
   |1,0=>exact absurd (h.BS 0 1 k h1 d) (by decide)
   |1,1=>rfl
   |1,2=>exact absurd (h.BS 0 3 k h1 d) (by decide)
   |1,3=>exact absurd (h.BS 0 2 k h1 d) (by decide)
   |2,0=>exact absurd (h.BS 3 1 k h1 d) (by decide)
   |2,1=>exact absurd (h.BS 3 0 k h1 d) (by decide)
   |2,2=>rfl
   |2,3=>exact absurd (h.BS 3 2 k h1 d) (by decide)
   |3,0=>exact absurd (h.BS 2 1 k h1 d) (by decide)
   |3,1=>exact absurd (h.BS 2 0 k h1 d) (by decide)
   |3,2=>exact absurd (h.BS 2 3 k h1 d) (by decide)
   |3,3=>rfl
theorem Way.swap{va vb:Option V3}{p q:Option Nat}(h:Way w X a b va vb p q c6 c7):Way w X b a vb va q p c7 c6:=⟨h.low,h.BS.swap,h.rb,h.ra,h.x7,h.x6⟩
theorem Way.Fv(h:Way w X a b (some va) (some vb) (some p) (some q) c6 c7)(i:Nat)(v:Value):Way w (X.setCell ⟨p,i,none⟩ v) a b (some va) (some vb) (some p) (some q) (c6.set i v) c7:=by
 have O:w.heap.size<=p:=h.BS.ge 2 p rfl;have U: ∀k,k≠p->(X.setCell ⟨p,i,none⟩ v).heap[k]? =X.heap[k]? :=λk J=>Below.heap_setCell X ⟨p,i,none⟩ v k J
 have V:(X.setCell ⟨p,i,none⟩ v).heap.size=X.heap.size:=by simp [World.setCell]
 have d: ∀(I :Fin 4),I ≠2-> ∀k,KV (Wl (some va)) (Wl (some vb)) (some p) (some q) I k->(X.setCell ⟨p,i,none⟩ v).heap[k]? =X.heap[k]? :=λI hi k Z=>
  U k λe=>hi (h.BS.BS I 2 k Z (by rw [e];rfl))
 refine⟨h.low.setCell (p:=⟨p,i,none⟩) O v,by rw [V];exact h.BS,λu hu=> ?_,λu hu=> ?_,λk hp=> ?_,λk hp=> ?_⟩
 . cases hu
   exact(h.ra va rfl).blocks λk J=>d 0 (by decide) k ⟨va,rfl,J⟩
 . exact Yfw
 . cases hp
   exact(h.x6 p rfl).set i v
 . cases hp
   exact(h.x7 q rfl).block (d 3 (by decide) q rfl)
theorem Way.Im(h:Way w X a b (some va) (some vb) (some p) (some q) c6 c7)(i:Nat)(v:Value):Way w (X.setCell ⟨q,i,none⟩ v) a b (some va) (some vb) (some p) (some q) c6 (c7.set i v):=(h.swap.Fv i v).swap
theorem Way.AaU(h:Way w X a b (some va) (some vb) (some p) (some q) [u0,u1,u2,u3] c7)(d I J O:Value):Way w ((((X.setCell ⟨p,0,none⟩ d).setCell ⟨p,1,none⟩ I).setCell ⟨p,2,none⟩ J).setCell ⟨p,3,none⟩ O) a b (some va) (some vb) (some p) (some q) [d,I,J,O] c7:=(((h.Fv 0 d).Fv 1 I).Fv 2 J).Fv 3 O
theorem Way.Aa0(h:Way w X a b (some va) (some vb) (some p) (some q) c6 [u0,u1,u2,u3])(d I J O:Value):Way w ((((X.setCell ⟨q,0,none⟩ d).setCell ⟨q,1,none⟩ I).setCell ⟨q,2,none⟩ J).setCell ⟨q,3,none⟩ O) a b (some va) (some vb) (some p) (some q) c6 [d,I,J,O]:=(((h.Im 0 d).Im 1 I).Im 2 J).Im 3 O
variable {v1 v2 v3 v':Value} {l:List Nat}
theorem Way.Lv(h:Way w X a b (some (v1,v2,v3)) (some vb) (some p) (some q) c6 c7)(J:X'.ownsRow 0 23 1 v' l.length (AG l))(hw:Rw X X' v1.ownBlock v'.ownBlock):
 Way w X' ⟨l,a.Ab,a.kids,a.size⟩ b (some (v',v2,v3)) (some vb) (some p) (some q) c6 c7:=by
 have O:=h.ra _ rfl;refine h.UB (hw.low h.low.size λk d=>h.BS.ge 0 k ⟨_,rfl, .inl d⟩) (O.KZ J hw) (λk d=> ?_) (λk U V=>hw.1.block k U λe=>V (.inl e.symm));rcases d with d|d|d
 . rcases hw.2 with I|I
   . exact .inl (.inl (I▸d))
   . exact .inr (I k d)
 . exact .inl (.inr (.inl d))
 . exact .inl (.inr (.inr d))
theorem Way.Lx(h:Way w X a b (some (v1,v2,v3)) (some vb) (some p) (some q) c6 c7)(J:X'.ownsRow 0 23 1 v' l.length (AG l))(hw:Rw X X' v2.ownBlock v'.ownBlock):
 Way w X' ⟨a.keys,l,a.kids,a.size⟩ b (some (v1,v',v3)) (some vb) (some p) (some q) c6 c7:=by
 have O:=h.ra _ rfl;refine h.UB (hw.low h.low.size λk d=>h.BS.ge 0 k ⟨_,rfl, .inr (.inl d)⟩) (O.ZK J hw) (λk d=> ?_) (λk U V=>hw.1.block k U λe=>V (.inr (.inl e.symm)));rcases d with d|d|d
 . exact .inl (.inl d)
 . rcases hw.2 with I|I
   . exact .inl (.inr (.inl (I▸d)))
   . exact .inr (I k d)
 . exact .inl (.inr (.inr d))
theorem Way.Uw(h:Way w X a b (some (v1,v2,v3)) (some vb) (some p) (some q) c6 c7)(J:X'.ownsRow 0 23 1 v' l.length (AG l))(hw:Rw X X' v3.ownBlock v'.ownBlock):
 Way w X' ⟨a.keys,a.Ab,l,a.size⟩ b (some (v1,v2,v')) (some vb) (some p) (some q) c6 c7:=by
 have O:=h.ra _ rfl;refine h.UB (hw.low h.low.size λk d=>h.BS.ge 0 k ⟨_,rfl, .inr (.inr d)⟩) (O.ZO J hw) (λk d=> ?_) (λk U V=>hw.1.block k U λe=>V (.inr (.inr e.symm)));rcases d with d|d|d
 . exact .inl (.inl d)
 . exact .inl (.inr (.inl d))
 . rcases hw.2 with I|I
   . exact .inl (.inr (.inr (I▸d)))
   . exact .inr (I k d)
end
theorem Cd{W:World}{b:Nat}{T:TypeId}(h:An W b T [u0,u1,u2,u3]):(W.cell? ⟨b,0,none⟩=some u0/\W.cell? ⟨b,1,none⟩=some u1/\W.cell? ⟨b,2,none⟩=some u2/\W.cell? ⟨b,3,none⟩=some u3)/\W.frozen? ⟨b,0,none⟩=false/\W.frozen? ⟨b,1,none⟩=false/\W.frozen? ⟨b,2,none⟩=false/\W.frozen? ⟨b,3,none⟩=false:=
 ⟨⟨h.at' rfl,h.at' rfl,h.at' rfl,h.at' rfl⟩,h.free 0,h.free 1,h.free 2,h.free 3⟩
structure Tw(w:World)(p q:Nat)(c6 c7:List Value) where
 W:World
 low:Below w.heap.size w W
 x6:An W p 100 c6
 x7:An W q 100 c7
theorem Tw.cell{p q:Nat}{ad:Addr}{v:Value}(d:w.cell? ad=some v)(X:Tw w p q c6 c7):X.W.cell? ad=some v:=(X.low.cell (Al d)).trans d
theorem Way.tw{a b:BN}{va vb:Option V3}{p q:Nat}(h:Way w X a b va vb (some p) (some q) c6 c7): ∃Y:Tw w p q c6 c7,X=Y.W:=⟨⟨X,h.low,h.x6 p rfl,h.x7 q rfl⟩,rfl⟩
theorem Eh{ops:Array Oper}{rest:List Oper}{o:Oper}{a:Act}{Q:Exit->Act->World->Prop}(U:o.guard=none)(s x:Operand)
 (V:o.op= .call { callee:= .builtin .append,args:= #[s,x],argTypes:= #[46,46] }) (w:World) (v:Value) (xs:List Nat) (hs:a.eval s=v)
 (J:w.ownsRow 0 23 1 v xs.length (AG xs)) (A:Option Addr) (c:Nat) (d:List Nat) (hx:a.eval x= .slice A d.length c) (O:(A=none/\d= []/\c=0)\/ ∃b,A=some ⟨b,0,none⟩/\ ∀j u,(AG d)[j]? =some u->w.cell? ⟨b,j,none⟩=some u) (hlen:xs.length<=100000) (ah:d.length<=100000)
 (h: ∀v' w',w'.ownsRow 0 23 1 v' (xs++d).length (AG (xs++d))->Rw w w' v.ownBlock v'.ownBlock->wpList prog ops Q rest (a.put o.dst v') w'):
 wpList prog ops Q (o::rest) a w:=by
 obtain⟨i0,hi,aa,ab,ac⟩:=info_parts Tryz.CV;rcases O with ⟨rfl,rfl,rfl⟩|⟨b,rfl,O⟩
 . refine wpList_plain U λK ae=> ?_
   unfold Oper.wp execOp;simp only [V,resolve,invoke,builtin,Sem.run_bind,Sem.run_pure,Result.andThen_ok,List.map_toArray,List.map_cons,List.map_nil,hs,hx,List.length_nil];rw [run_append_owned_none (P:=prog) w 0 46 o.type 23 i0 1 Tryz.BI hi v xs.length (AG xs) J];exact ae _ _ (h v w (by rw [List.append_nil];exact J) (Rw.below (Below.refl _ _) _))
 . refine wpList_append_own_at w U s x 46 V 0 23 i0 (.int .u64 0) 1 8 Tryz.BI hi aa ab ac rfl (by decide) v xs.length (AG xs) hs J ⟨b,0,none⟩ d.length c (AG d) hx (by rw [Da,Nat.mul_one]) (λj u af=>by rw [Addr.add_lit,Nat.zero_add];exact O j u af) Km (by unfold maxLen;omega) (by omega) (Nat.zero_le _) ?_
   intro v' w' h1 ag _ I;refine h v' w' (by rw [List.length_append,IF];exact h1) ⟨ag, ?_⟩;rcases I with I|I
   . exact .inl I
   . exact .inr λk Z=>by rw [I] at Z;cases Z;exact Nat.le_refl _
