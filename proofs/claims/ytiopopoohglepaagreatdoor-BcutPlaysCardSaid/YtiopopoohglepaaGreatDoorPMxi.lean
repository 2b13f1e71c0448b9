/- A part. -/
import Derived.Test.YtiopopoohglepaaGreatDoorPMxh
set_option linter.all false
set_option maxRecDepth 100000
set_option maxHeartbeats 2000000
namespace Go.Proofs.YtiopopoohglepaaGreatDoor
open Go.Proofs.Tryz
open Go.RowKit Go.Shelf
variable {B M m:Nat}{X w:World}{c6 c7:List Value}{l1 l2 l3:List Nat}{u0 u1 u2 u3:Value}
theorem Wx(w:World)(s t:Nat)(key:ByteArray):Calls prog 33 #[.agg #[.pointer (some ⟨s,0,none⟩), .int .i64 t], .string key] w λe w' => ∃I bt:Nat,e= .returned (.func (.func 73) #[] #[.pointer (some ⟨I,0,none⟩), .pointer (some ⟨bt,0,none⟩)])/\w'.cell? ⟨I,0,none⟩=some (.string key)/\w'.cell? ⟨bt,0,none⟩=some (.pointer (some ⟨s,0,none⟩))/\w.heap.size<=I/\w.heap.size<=bt/\Below w.heap.size w w' :=by
 have O:=Zh ((An.new w 77 [.pointer (some ⟨s,0,none⟩), .int .i64 t]).alloc (Obj.cells #[.string key] 9));have U:=Zh (An.new (w.alloc (Obj.cells #[.pointer (some ⟨s,0,none⟩), .int .i64 t] 77)) 9 [.string key]);have V:=Zh (((Below.refl w.heap.size w).alloc (Nat.le_refl _) (Obj.cells #[.pointer (some ⟨s,0,none⟩), .int .i64 t] 77)).alloc (by simp) (Obj.cells #[.string key] 9));go_enter func33,ntmps33;go_wp2;go_ret;have J:=U.at' (i:=0) rfl;rw [show(w.alloc (Obj.cells #[.pointer (some ⟨s,0,none⟩), .int .i64 t] 77)).heap.size=w.heap.size+1 by simp] at J;exact⟨_,_,rfl,J,O.at' (i:=0) rfl,by simp,Nat.le_refl _,V⟩
section
variable {w':World} {s N:Nat} {R:Zr} {nn:Nat}
def YY{P}(h:P:=by
 have I:Below w3.heap.size w3 aD:=by rw [ax];exact(Below.refl _ _).alloc (Nat.le_refl _) _
 exact I):=h
def Zk{P}(h:P:=by
 have J:An O Z 77 [.pointer none, .int .i64 0]:=by rw [U,ac];exact An.new w _ _
 exact J):=h
def Ymm{P}(h:P:=by
 have I:=Zh (show w.heap.size<=Z by omega);exact I):=h
def Ynl{P}(h:P:=by
 have I:=Zh (Lv (h.below V) t aa root hx);have J:=Zh (λW=>Ie aa W);have d2:((6*(t:Int))==0)=false:=by have:=aa.1;simp;omega
 exact And.intro I (And.intro J d2)):=h
def ZZ{P}(h:P:=by
 have ai:=Gx (h.below V) 0 (by decide);exact ai):=h
theorem L7(h:Rd N w s R nn){t:Nat}(aa:BN.A0 t){root:Nat}(hx:root<18446744073709551616){key:ByteArray}(aN:key.size<=1000)(he:root=0\/Bk R t root=0):
 Calls prog 30 #[.pointer (some ⟨s,0,none⟩), .int .i64 t, .int .u64 root, .string key] w λe w' =>e= .returned (.tuple #[.agg #[.pointer (some ⟨s,0,none⟩), .int .i64 t], .int .i64 0])/\Below w.heap.size w w' :=by
 obtain⟨O,U⟩:=Zx (w.alloc (Obj.cells #[.pointer none, .int .i64 0] 77));obtain⟨Z,ac⟩:=Zx w.heap.size;have V:=EI;have J:=Zk;have ai:=ZZ;obtain⟨aO,lb,aj,az⟩:=C9 R 0;rw [aj] at ai;obtain⟨_,al⟩:=Qz;obtain⟨am,aA,_⟩:=Ynl;have d3:decide ((1000:Int)<(key.size:Int))=false:=decide_eq_false (by omega);have ae:=Zh V;obtain⟨aB,af⟩:=K7;have an:=Ymm;obtain⟨er,ao⟩:=Zx (Bk R t root);have aq:=Zh he;have ar:=Zh ao;clear h aa ai aj az U ac V J he ao;go_enter func30,ntmps30;go_wp2_with fail;rw [<-af.1];refine al.mono ?_;rintro e w2 ⟨rfl,rfl⟩;clear al;go_wp2_with fail;refine am.mono ?_;rintro e w3 ⟨v1,v2,v3,rfl,ab,I⟩;obtain⟨aC,k1,rfl⟩:=Ae ab.r1;obtain⟨aE,k2,rfl⟩:=Ae ab.r2;obtain⟨aF,aG,rfl⟩:=Ae ab.r3;have aH:=Zh (aB.below I);have au:=Dt;generalize (Af R t root).keys.length=n1 at*;generalize (Af R t root).Ab.length=n2 at*;generalize (Af R t root).kids.length=n3 at*;generalize (Af R t root).size=n4 at*;rw [<-ar.out] at aq ⊢;clear ab I am ar;obtain⟨aD,ax⟩:=Zx (w3.alloc (Obj.cells #[.slice aC n1 k1, .slice aE n2 k2, .slice aF n3 aG, .int .u64 n4] 100));have ag:=YY;have ah:=aH.below ag;have aJ:=Zh (((au.trans (ag.mono au.size)).setCell (p:=⟨Z,0,none⟩) an (.pointer (some ⟨s,0,none⟩))).setCell (p:=⟨Z,1,none⟩) an (.int .i64 t));have aK:=Zh ((ah.set 0 (.pointer (some ⟨s,0,none⟩))).set 1 (.int .i64 t));obtain⟨⟨d0,aL⟩,f0,f1⟩:=CV ah;have aM:=Zh ax;rw [ax,af.2] at d0 aL f0 f1;clear ax ag ah;rcases aq.out with rfl|rfl
 rotate_left
 cases aQ:((root:Int) !=0)
 all_goals
  go_wp2_with fail;refine(aA _).mono ?_;rintro e aR ⟨rfl,rfl⟩;go_wp2;obtain⟨aw,r1⟩:=AX aK.out;have ay:=aJ.out;rw [aM.out,af.2] at aw r1 ay;exact bodyPost_ret (v:= .tuple #[.agg #[.pointer (some ⟨s,0,none⟩), .int .i64 t], .int .i64 0]) (by simp [results,f30,go_sem,aw,r1]) rfl ⟨rfl,ay⟩
end
abbrev V3:=Value × Value × Value
def By(v:V3)(k:Nat):Prop:=v.1.ownBlock=some k\/v.2.1.ownBlock=some k\/v.2.2.ownBlock=some k
def WG(o:Option V3)(k:Nat):Prop:= ∃v,o=some v/\By v k
def KW(fa fb:Nat->Prop)(p q:Option Nat):Fin 4->Nat->Prop
 |0=>fa
 |1=>fb
 |2=>λk=>p=some k
 |3=>λk=>q=some k
structure UN(m M:Nat)(f:Fin 4->Nat->Prop):Prop where
 ge: ∀i k,f i k->m<=k
 lt: ∀i k,f i k->k<M
 BS: ∀i j k,f i k->f j k->i=j
theorem UN.more{V:Nat}{f f' :Fin 4->Nat->Prop}(h:UN m M f)(i0:Fin 4)(J: ∀i,i≠i0-> ∀k,f' i k->f i k)(hi: ∀k,f' i0 k->f i0 k\/(M<=k/\k<V))(aa:M<=V)(hm:m<=M):UN m V f' :=by
 refine⟨λi k O=> ?_,λi k O=> ?_,λi j k h1 Z=> ?_⟩
 . by_cases e:i=i0
   . subst e
     rcases hi k O with I|I
     . exact h.ge _ _ I
     . omega
   . exact h.ge _ _ (J i e k O)
 . by_cases e:i=i0
   . subst e
     rcases hi k O with I|I
     . exact Nat.lt_of_lt_of_le (h.lt _ _ I) aa
     . omega
   . exact Nat.lt_of_lt_of_le (h.lt _ _ (J i e k O)) aa
 . by_cases e:i=i0
   . subst e
     by_cases U:j=i
     . exact U.symm
     . have g2:=J j U k Z
       rcases hi k h1 with I|I
       . exact h.BS _ _ k I g2
       . have:=h.lt _ _ g2;omega
   . have g1:=J i e k h1
     by_cases U:j=i0
     . subst U
       rcases hi k Z with I|I
       . exact h.BS _ _ k g1 I
       . have:=h.lt _ _ g1;omega
     . exact h.BS _ _ k g1 (J j U k Z)
def z4:List Value:= [.slice none 0 0, .slice none 0 0, .slice none 0 0, .int .u64 0]
structure Way(w X:World)(a b:BN)(va vb:Option V3)(p q:Option Nat)(c6 c7:List Value):Prop where
 low:Below w.heap.size w X
 BS:UN w.heap.size X.heap.size (KW (WG va) (WG vb) p q)
 ra: ∀v,va=some v->AS X 0 v.1 a.keys v.2.1 a.Ab v.2.2 a.kids
 rb: ∀v,vb=some v->AS X 0 v.1 b.keys v.2.1 b.Ab v.2.2 b.kids
 x6: ∀k,p=some k->An X k 100 c6
 x7: ∀k,q=some k->An X k 100 c7
theorem AS.blocks{X':World}{v1 v2 v3:Value}(h:AS X B v1 l1 v2 l2 v3 l3)(J: ∀k,By (v1,v2,v3) k->X'.heap[k]? =X.heap[k]?):AS X' B v1 l1 v2 l2 v3 l3:=
 ⟨CL h.r1 (λb I=>J b (.inl I)),CL h.r2 (λb I=>J b (.inr (.inl I))),CL h.r3 (λb I=>J b (.inr (.inr I))),h.a12,h.Ow,h.a23⟩
theorem AS.Iv{v:V3}(h:AS X B v.1 l1 v.2.1 l2 v.2.2 l3){k:Nat}(I:By v k):B<=k/\k<X.heap.size:=by
 rcases I with I|I|I
 . exact BM h.r1 I
 . exact BM h.r2 I
 . exact BM h.r3 I
section
variable {X':World} {a b a' b':BN} {va vb:Option V3} {p q:Option Nat} 
theorem Way.start(w:World)(a b:BN)(c6 c7:List Value):Way w w a b none none none none c6 c7:=by
 refine⟨Below.refl _ _,⟨λi k h=> ?_,λi k h=> ?_,λi j k h=> ?_⟩,λv h=>(by cases h),λv h=>(by cases h),λv h=>(by cases h),λv h=>(by cases h)⟩<;>
 . match i with
   |0=>obtain⟨_,h,_⟩:=h;cases h
   |1=>obtain⟨_,h,_⟩:=h;cases h
   |2=>cases h
   |3=>cases h
theorem Way.below(h:Way w X a b va vb p q c6 c7)(J:Below X.heap.size X X'):Way w X' a b va vb p q c6 c7:=
 ⟨h.low.trans (J.mono h.low.size),h.BS.more 0 (λ_ _ _ I=>I) (λ_ I=> .inl I) J.size h.low.size,λv O=>(h.ra v O).below J,λv O=>(h.rb v O).below J,λk I=>(h.x6 k I).below J,λk I=>(h.x7 k I).below J⟩
theorem Way.AdZ{v:V3}(h:Way w X a b none vb p q c6 c7)(J:Below X.heap.size X X')(O:AS X' X.heap.size v.1 a.keys v.2.1 a.Ab v.2.2 a.kids):Way w X' a b (some v) vb p q c6 c7:=
 ⟨h.low.trans (J.mono h.low.size),h.BS.more 0 (λi hi k I=>by
  match i,hi with
  |1,_=>exact I
  |2,_=>exact I
  |3,_=>exact I) (λk I=> .inr (by
  obtain⟨_,e,I⟩:=I
  cases e
  exact O.Iv I)) J.size h.low.size,λu hu=>by cases hu;exact O.lower (Nat.zero_le _),λu hu=>(h.rb u hu).below J,λk I=>(h.x6 k I).below J,λk I=>(h.x7 k I).below J⟩
theorem Way.AfU{v:V3}(h:Way w X a b va none p q c6 c7)(J:Below X.heap.size X X')(O:AS X' X.heap.size v.1 b.keys v.2.1 b.Ab v.2.2 b.kids):Way w X' a b va (some v) p q c6 c7:=
 ⟨h.low.trans (J.mono h.low.size),h.BS.more 1 (λi hi k I=>by
  match i,hi with
  |0,_=>exact I
  |2,_=>exact I
  |3,_=>exact I) (λk I=> .inr (by
  obtain⟨_,e,I⟩:=I
  cases e
  exact O.Iv I)) J.size h.low.size,λu hu=>(h.ra u hu).below J,λu hu=>by cases hu;exact O.lower (Nat.zero_le _),λk I=>(h.x6 k I).below J,λk I=>(h.x7 k I).below J⟩
def Ymo{P}(h:P:=by
 have I:=(Below.refl X.heap.size X).alloc (Nat.le_refl _) (Obj.cells #[.slice none 0 0, .slice none 0 0, .slice none 0 0, .int .u64 0] 100);exact I):=h
theorem Way.Kq(h:Way w X a b va vb none q z4 c7): ∃X' k,X.alloc (Obj.cells #[.slice none 0 0, .slice none 0 0, .slice none 0 0, .int .u64 0] 100)=X' /\X.heap.size=k/\Way w X' a b va vb (some k) q z4 c7:=by
 have J:=Ymo;refine⟨_,_,rfl,rfl,⟨h.low.trans (J.mono h.low.size),h.BS.more 2 (λi hi k I=>by
  match i,hi with
  |0,_=>exact I
  |1,_=>exact I
  |3,_=>exact I) (λk I=> .inr (by
  cases I
  exact⟨Nat.le_refl _,by simp⟩)) J.size h.low.size,λu hu=>(h.ra u hu).below J,λu hu=>(h.rb u hu).below J,λk I=> ?_,λk I=>(h.x7 k I).below J⟩⟩
 cases I
 exact An.new X _ _
theorem Way.Lc(h:Way w X a b va vb p none c6 z4): ∃X' k,X.alloc (Obj.cells #[.slice none 0 0, .slice none 0 0, .slice none 0 0, .int .u64 0] 100)=X' /\X.heap.size=k/\Way w X' a b va vb p (some k) c6 z4:=by
 have J:=Ymo;refine⟨_,_,rfl,rfl,⟨h.low.trans (J.mono h.low.size),h.BS.more 3 (λi hi k I=>by
  match i,hi with
  |0,_=>exact I
  |1,_=>exact I
  |2,_=>exact I
  |3,hi=>exact absurd rfl hi) (λk I=> .inr (by
  cases I
  exact⟨Nat.le_refl _,by simp⟩)) J.size h.low.size,λu hu=>(h.ra u hu).below J,λu hu=>(h.rb u hu).below J,λk I=>(h.x6 k I).below J,λk I=> ?_⟩⟩
 cases I
 exact An.new X _ _
end
section
variable {X':World} {a b a' b':BN} {va vb va' vb':V3} {p q:Nat} 
def Ygb{P}(h:P:=by
 cases hu
 exact(h.rb vb rfl).blocks λk J=>I 1 (by decide) k ⟨vb,rfl,J⟩):=h
theorem Way.UY(h:Way w X a b (some va) (some vb) (some p) (some q) c6 c7)(U:Below w.heap.size X X')(V:AS X' 0 va'.1 a'.keys va'.2.1 a'.Ab va'.2.2 a'.kids)(aa: ∀k,By va' k->By va k\/X.heap.size<=k)(J: ∀k,k<X.heap.size-> ¬By va k->X'.heap[k]? =X.heap[k]?):
 Way w X' a' b (some va') (some vb) (some p) (some q) c6 c7:=by
 have I: ∀(i:Fin 4),i≠0-> ∀k,KW (WG (some va)) (WG (some vb)) (some p) (some q) i k->X'.heap[k]? =X.heap[k]? :=λi hi k Z=>
  J k (h.BS.lt i k Z) λha=>hi (h.BS.BS i 0 k Z ⟨va,rfl,ha⟩)
 refine⟨h.low.trans U,h.BS.more 0 (λi hi k J=>by
  match i,hi with
  |1,_=>exact J
  |2,_=>exact J
  |3,_=>exact J) (λk J=>by
  obtain⟨_,e,J⟩:=J
  cases e
  rcases aa k J with O|O
  . exact .inl ⟨va,rfl,O⟩
  . exact .inr ⟨O,(V.Iv J).2⟩) U.size h.low.size,λu hu=>by cases hu;exact V,λu hu=> ?_,λk hp=> ?_,λk hp=> ?_⟩
 . exact Ygb
 . cases hp
   exact(h.x6 p rfl).block (I 2 (by decide) p rfl)
 . cases hp
   exact(h.x7 q rfl).block (I 3 (by decide) q rfl)
theorem UN.swap{J fb:Nat->Prop}{p q:Option Nat}(h:UN m M (KW J fb p q)):UN m M (KW fb J q p):=by
 have hs: ∀(i:Fin 4),∃j:Fin 4,KW fb J q p i=KW J fb p q j/\ ∀U V :Fin 4,KW fb J q p U =KW J fb p q V ->True:=λi=>by
  match i with
  |0=>exact⟨1,rfl,λ_ _ _=>trivial⟩
  |1=>exact⟨0,rfl,λ_ _ _=>trivial⟩
  |2=>exact⟨3,rfl,λ_ _ _=>trivial⟩
  |3=>exact⟨2,rfl,λ_ _ _=>trivial⟩
 refine⟨λi k O=> ?_,λi k O=> ?_,λi j k h1 I=> ?_⟩
 . obtain⟨j,e,_⟩:=hs i
   rw [e] at O;exact h.ge j k O
 . obtain⟨j,e,_⟩:=hs i
   rw [e] at O;exact h.lt j k O
 . match i,j with
   |0,0=>rfl
   |0,1=>exact absurd (h.BS 1 0 k h1 I) (by decide)
   |0,2=>exact absurd (h.BS 1 3 k h1 I) (by decide)
   |0,3=>exact absurd (h.BS 1 2 k h1 I) (by decide)
   |1,0=>exact absurd (h.BS 0 1 k h1 I) (by decide)
   |1,1=>rfl
   |1,2=>exact absurd (h.BS 0 3 k h1 I) (by decide)
   |1,3=>exact absurd (h.BS 0 2 k h1 I) (by decide)
   |2,0=>exact absurd (h.BS 3 1 k h1 I) (by decide)
   |2,1=>exact absurd (h.BS 3 0 k h1 I) (by decide)
   |2,2=>rfl
   |2,3=>exact absurd (h.BS 3 2 k h1 I) (by decide)
   |3,0=>exact absurd (h.BS 2 1 k h1 I) (by decide)
   |3,1=>exact absurd (h.BS 2 0 k h1 I) (by decide)
   |3,2=>exact absurd (h.BS 2 3 k h1 I) (by decide)
   |3,3=>rfl
theorem Way.swap{va vb:Option V3}{p q:Option Nat}(h:Way w X a b va vb p q c6 c7):Way w X b a vb va q p c7 c6:=⟨h.low,h.BS.swap,h.rb,h.ra,h.x7,h.x6⟩
theorem Way.Fy(h:Way w X a b (some va) (some vb) (some p) (some q) c6 c7)(i:Nat)(v:Value):Way w (X.setCell ⟨p,i,none⟩ v) a b (some va) (some vb) (some p) (some q) (c6.set i v) c7:=by
 have U:w.heap.size<=p:=h.BS.ge 2 p rfl;have V: ∀k,k≠p->(X.setCell ⟨p,i,none⟩ v).heap[k]? =X.heap[k]? :=λk O=>Below.heap_setCell X ⟨p,i,none⟩ v k O
 have Z:(X.setCell ⟨p,i,none⟩ v).heap.size=X.heap.size:=by simp [World.setCell]
 have I: ∀(J :Fin 4),J ≠2-> ∀k,KW (WG (some va)) (WG (some vb)) (some p) (some q) J k->(X.setCell ⟨p,i,none⟩ v).heap[k]? =X.heap[k]? :=λJ hi k aa=>
  V k λe=>hi (h.BS.BS J 2 k aa (by rw [e];rfl))
 refine⟨h.low.setCell (p:=⟨p,i,none⟩) U v,by rw [Z];exact h.BS,λu hu=> ?_,λu hu=> ?_,λk hp=> ?_,λk hp=> ?_⟩
 . cases hu
   exact(h.ra va rfl).blocks λk O=>I 0 (by decide) k ⟨va,rfl,O⟩
 . exact Ygb
 . cases hp
   exact(h.x6 p rfl).set i v
 . cases hp
   exact(h.x7 q rfl).block (I 3 (by decide) q rfl)
theorem Way.Ij(h:Way w X a b (some va) (some vb) (some p) (some q) c6 c7)(i:Nat)(v:Value):Way w (X.setCell ⟨q,i,none⟩ v) a b (some va) (some vb) (some p) (some q) c6 (c7.set i v):=(h.swap.Fy i v).swap
theorem Way.Abo(h:Way w X a b (some va) (some vb) (some p) (some q) [u0,u1,u2,u3] c7)(I J O U:Value):Way w ((((X.setCell ⟨p,0,none⟩ I).setCell ⟨p,1,none⟩ J).setCell ⟨p,2,none⟩ O).setCell ⟨p,3,none⟩ U) a b (some va) (some vb) (some p) (some q) [I,J,O,U] c7:=(((h.Fy 0 I).Fy 1 J).Fy 2 O).Fy 3 U
theorem Way.Abz(h:Way w X a b (some va) (some vb) (some p) (some q) c6 [u0,u1,u2,u3])(I J O U:Value):Way w ((((X.setCell ⟨q,0,none⟩ I).setCell ⟨q,1,none⟩ J).setCell ⟨q,2,none⟩ O).setCell ⟨q,3,none⟩ U) a b (some va) (some vb) (some p) (some q) c6 [I,J,O,U]:=(((h.Ij 0 I).Ij 1 J).Ij 2 O).Ij 3 U
variable {v1 v2 v3 v':Value} {l:List Nat}
theorem Way.LF(h:Way w X a b (some (v1,v2,v3)) (some vb) (some p) (some q) c6 c7)(O:X'.ownsRow 0 23 1 v' l.length (AF l))(hw:Rw X X' v1.ownBlock v'.ownBlock):
 Way w X' ⟨l,a.Ab,a.kids,a.size⟩ b (some (v',v2,v3)) (some vb) (some p) (some q) c6 c7:=by
 have U:=h.ra _ rfl;refine h.UY (hw.low h.low.size λk I=>h.BS.ge 0 k ⟨_,rfl, .inl I⟩) (U.K1 O hw) (λk I=> ?_) (λk V Z=>hw.1.block k V λe=>Z (.inl e.symm));rcases I with I|I|I
 . rcases hw.2 with J|J
   . exact .inl (.inl (J▸I))
   . exact .inr (J k I)
 . exact .inl (.inr (.inl I))
 . exact .inl (.inr (.inr I))
theorem Way.LG(h:Way w X a b (some (v1,v2,v3)) (some vb) (some p) (some q) c6 c7)(O:X'.ownsRow 0 23 1 v' l.length (AF l))(hw:Rw X X' v2.ownBlock v'.ownBlock):
 Way w X' ⟨a.keys,l,a.kids,a.size⟩ b (some (v1,v',v3)) (some vb) (some p) (some q) c6 c7:=by
 have U:=h.ra _ rfl;refine h.UY (hw.low h.low.size λk I=>h.BS.ge 0 k ⟨_,rfl, .inr (.inl I)⟩) (U.Aag O hw) (λk I=> ?_) (λk V Z=>hw.1.block k V λe=>Z (.inr (.inl e.symm)));rcases I with I|I|I
 . exact .inl (.inl I)
 . rcases hw.2 with J|J
   . exact .inl (.inr (.inl (J▸I)))
   . exact .inr (J k I)
 . exact .inl (.inr (.inr I))
theorem Way.UR(h:Way w X a b (some (v1,v2,v3)) (some vb) (some p) (some q) c6 c7)(O:X'.ownsRow 0 23 1 v' l.length (AF l))(hw:Rw X X' v3.ownBlock v'.ownBlock):
 Way w X' ⟨a.keys,a.Ab,l,a.size⟩ b (some (v1,v2,v')) (some vb) (some p) (some q) c6 c7:=by
 have U:=h.ra _ rfl;refine h.UY (hw.low h.low.size λk I=>h.BS.ge 0 k ⟨_,rfl, .inr (.inr I)⟩) (U.Aak O hw) (λk I=> ?_) (λk V Z=>hw.1.block k V λe=>Z (.inr (.inr e.symm)));rcases I with I|I|I
 . exact .inl (.inl I)
 . exact .inl (.inr (.inl I))
 . rcases hw.2 with J|J
   . exact .inl (.inr (.inr (J▸I)))
   . exact .inr (J k I)
end
theorem Cc{W:World}{b:Nat}{T:TypeId}(h:An W b T [u0,u1,u2,u3]):(W.cell? ⟨b,0,none⟩=some u0/\W.cell? ⟨b,1,none⟩=some u1/\W.cell? ⟨b,2,none⟩=some u2/\W.cell? ⟨b,3,none⟩=some u3)/\W.frozen? ⟨b,0,none⟩=false/\W.frozen? ⟨b,1,none⟩=false/\W.frozen? ⟨b,2,none⟩=false/\W.frozen? ⟨b,3,none⟩=false:=
 ⟨⟨h.at' rfl,h.at' rfl,h.at' rfl,h.at' rfl⟩,h.free 0,h.free 1,h.free 2,h.free 3⟩
structure Tw(w:World)(p q:Nat)(c6 c7:List Value) where
 W:World
 low:Below w.heap.size w W
 x6:An W p 100 c6
 x7:An W q 100 c7
theorem Tw.cell{p q:Nat}{ad:Addr}{v:Value}(I:w.cell? ad=some v)(X:Tw w p q c6 c7):X.W.cell? ad=some v:=(X.low.cell (Am I)).trans I
theorem Way.tw{a b:BN}{va vb:Option V3}{p q:Nat}(h:Way w X a b va vb (some p) (some q) c6 c7): ∃Y:Tw w p q c6 c7,X=Y.W:=⟨⟨X,h.low,h.x6 p rfl,h.x7 q rfl⟩,rfl⟩
theorem Ej{ops:Array Oper}{rest:List Oper}{o:Oper}{a:Act}{Q:Exit->Act->World->Prop}(V:o.guard=none)(s x:Operand)
 (Z:o.op= .call { callee:= .builtin .append,args:= #[s,x],argTypes:= #[46,46] }) (w:World) (v:Value) (xs:List Nat) (hs:a.eval s=v)
 (O:w.ownsRow 0 23 1 v xs.length (AF xs)) (A:Option Addr) (c:Nat) (I:List Nat) (hx:a.eval x= .slice A I.length c) (U:(A=none/\I= []/\c=0)\/ ∃b,A=some ⟨b,0,none⟩/\ ∀j u,(AF I)[j]? =some u->w.cell? ⟨b,j,none⟩=some u) (hlen:xs.length<=100000) (ai:I.length<=100000)
 (h: ∀v' w',w'.ownsRow 0 23 1 v' (xs++I).length (AF (xs++I))->Rw w w' v.ownBlock v'.ownBlock->wpList prog ops Q rest (a.put o.dst v') w'):
 wpList prog ops Q (o::rest) a w:=by
 obtain⟨i0,hi,ab,ac,ae⟩:=info_parts Tryz.CZ;rcases U with ⟨rfl,rfl,rfl⟩|⟨b,rfl,U⟩
 . refine wpList_plain V λK af=> ?_
   unfold Oper.wp execOp;simp only [Z,resolve,invoke,builtin,Sem.run_bind,Sem.run_pure,Result.andThen_ok,List.map_toArray,List.map_cons,List.map_nil,hs,hx,List.length_nil];rw [run_append_owned_none (P:=prog) w 0 46 o.type 23 i0 1 Tryz.BH hi v xs.length (AF xs) O];exact af _ _ (h v w (by rw [List.append_nil];exact O) (Rw.below (Below.refl _ _) _))
 . refine wpList_append_own_at w V s x 46 Z 0 23 i0 (.int .u64 0) 1 8 Tryz.BH hi ab ac ae rfl (by decide) v xs.length (AF xs) hs O ⟨b,0,none⟩ I.length c (AF I) hx (by rw [Dg,Nat.mul_one]) (λj u ag=>by rw [Addr.add_lit,Nat.zero_add];exact U j u ag) Kn (by unfold maxLen;omega) (by omega) (Nat.zero_le _) ?_
   intro v' w' h1 ah _ J;refine h v' w' (by rw [List.length_append,IA];exact h1) ⟨ah, ?_⟩;rcases J with J|J
   . exact .inl J
   . exact .inr λk aa=>by rw [J] at aa;cases aa;exact Nat.le_refl _
