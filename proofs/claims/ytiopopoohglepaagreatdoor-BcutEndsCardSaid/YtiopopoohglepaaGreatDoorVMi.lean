/- A part. -/
import Derived.Test.YtiopopoohglepaaGreatDoorVMh
set_option linter.all false
set_option maxRecDepth 100000
set_option maxHeartbeats 4000000
namespace Go.Proofs.YtiopopoohglepaaGreatDoor
open Go.Proofs.Tryz
open Go.RowKit Go.Shelf
variable {A:Option Addr}{B a base c f ha i k m mb n n0 p q:Nat}{F:Nat->Prop}{W W' w w':World}{e:TypeId}{mem:Nat->Nat}{r:Addr}{xs:List Value}
theorem BE.perm{D:DW}{ps d :List Nat}(h:BE w ha a mb D ps q mem)(hp:ps.Perm d):BE w ha a mb D d q mem:=
 ⟨h.hs,h.sl.perm hp,h.off,h.tab,h.Ft⟩
structure Bl(w:World)(ha a:Nat)(F:Nat->Prop)(L:HL)(q:Nat)(mem:Nat->Nat):Prop where
 at' : ∃mb D,BE w ha a mb D (runs L) q mem/\F=Bo a mb D
 lay:Lay L
 Af4:Cy L mem
theorem Bl.below{L:HL}(h:Bl w ha a F L q mem)(d:Below w.heap.size w w'):Bl w' ha a F L q mem:=by
 obtain⟨⟨mb,D,h1,I⟩,J,O⟩:=h;exact⟨⟨mb,D,h1.below d,I⟩,J,O⟩
theorem Bl.lt{L:HL}(h:Bl w ha a F L q mem){b:Nat}(d:F b):b<w.heap.size:=by
 obtain⟨⟨mb,D,h1,rfl⟩,I,J⟩:=h;exact h1.sl.lt d
theorem Bl.off{L:HL}(h:Bl w ha a F L q mem): ¬F ha/\ha<w.heap.size/\F a/\ ∀b,F b->1<b:=by
 obtain⟨⟨mb,D,h1,rfl⟩,d,I⟩:=h;exact⟨h1.off,Al h1.hs, .inl rfl,h1.Ft⟩
theorem Bl.Ar{G G':Nat->Prop}{L:HL}(h:Bl w ha a F L q mem)(d:Ad w G w' G')(J: ∀b,F b-> ¬G b)(O: ¬G ha)(U: ¬G 1):Bl w' ha a F L q mem:=by
 obtain⟨⟨mb,D,h1,rfl⟩,V,Z⟩:=h;refine⟨⟨mb,D, ?_,rfl⟩,V,Z⟩;have aa:=Nat.lt_trans (h1.Ft a (.inl rfl)) (h1.sl.lt (.inl rfl))
 exact⟨(World.cell?_of_block (a:=⟨ha,0,none⟩) (d.keep ha (Al h1.hs) O)).trans h1.hs,h1.sl.same (λb I=>d.keep b (h1.sl.lt I) (J b I)),h1.off,
  λj ab=>(World.cell?_of_block (a:=⟨1,j,none⟩) (d.keep _ aa U)).trans (h1.tab j ab),h1.Ft⟩
theorem NJ{L:HL}(h:Bl w ha a F L q mem){b:Nat × Nat}(d:b∈blocks L)(x:Nat)(h1:b.1<=x)(I:x<b.1+b.2):
 Calls prog 53 #[.pointer (some ⟨a,0,none⟩), .int .i64 x] w λe w' =>e= .returned (.tuple #[.int .u64 (mem x:Nat), .int .i64 0])/\w=w' :=by
 obtain⟨⟨mb,D,k1,rfl⟩,J,O⟩:=h;exact ND k1.sl x (G1 J d h1 I)
theorem Lu{L:HL}(h:Bl w ha a F L q mem){b:Nat × Nat}(I:b∈blocks L)(x v:Nat)(h1:b.1<=x)(J:x<b.1+b.2)(U:v<18446744073709551616):
 Calls prog 58 #[.pointer (some ⟨a,0,none⟩), .int .i64 x, .int .u64 v] w λe w' =>e= .returned (.int .i64 0)/\Bl w' ha a F L q (B5 mem x v)/\Ad w F w' F:=by
 obtain⟨⟨mb,D,k1,rfl⟩,d,V⟩:=h;refine(Jm k1.sl x v (G1 d I h1 J) U).mono ?_;rintro e w' ⟨rfl,Z,aa⟩;have O:=Db (a:=a) (mb:=mb) Z;exact⟨rfl,⟨⟨mb,D,k1.Ar aa O,rfl⟩,d,V.write d I h1 J⟩,O⟩
theorem F7(L1 L2:HL)(x:Nat × Hd):(runs (L1++x::L2)).Perm (List.range' x.1 x.2.len++runs (L1++L2)):=by
 simp only [runs,List.flatMap_append,List.flatMap_cons];exact Yfj
theorem Tt{α:Type}{x:α}{l:List α}(h:x∈l): ∃l1 l2,l=l1++x::l2:=List.append_of_mem h
theorem Cy.other{L L' :HL}{mem':Nat->Nat}(h:Cy L mem)(hs: ∀x∈L',x∈L/\mem' (64*x.1)=mem (64*x.1)/\mem' (64*x.1+1)=mem (64*x.1+1)):Cy L' mem' :=by
 intro x hx;obtain⟨h1,d,I⟩:=hs x hx;have:=h x h1;obtain⟨p,hd⟩:=x
 cases hd<;>simp only at this d I ⊢ <;>rw [d,I]<;>exact this
theorem Nt{L1 L2:HL}{x y:Nat × Hd}(h:Lay (L1++x::L2))(I:y∈L1++L2):y.1≠x.1:=by
 have d:=h.Dn;rw [List.pairwise_append,List.pairwise_cons] at d;obtain⟨r1,⟨r2,r3⟩,J⟩:=d;rcases List.mem_append.1 I with h1|h1
 . have:=J y h1 x List.mem_cons_self
   have:=y.2.CZ;omega
 . have:=r2 y h1
   have:=x.2.CZ;omega
def Ybx{P}(h:P:=by
 rcases List.mem_append.1 hx with d|d
 . exact List.mem_append_left _ d
 . exact List.mem_append_right _ (List.mem_cons_of_mem _ d)):=h
def Ygi{P}(h:P:=by
 rw [if_neg (by omega),if_pos trivial,if_pos trivial];exact⟨rfl,rfl⟩):=h
theorem Qt{L1 L2:HL}(J:Lay (L1++(p, .small c m)::L2))(h:Cy (L1++(p, .small c m)::L2) mem):
 Cy (L1++L2) (Fe mem p c m k)/\Cy (L1++(p, .small c (m ^^^ 2^k))::L2) (Fe mem p c m k):=by
 have h1:Cy (L1++L2) (Fe mem p c m k):=by
  refine h.other λx hx=> ?_
  have I:=Nt J hx;refine⟨?_, ?_, ?_⟩
  . exact Ybx
  . simp only [Fe,B5];rw [if_neg (by omega),if_neg (by simp only at I;omega)]
  . simp only [Fe,B5];rw [if_neg (by simp only at I;omega),if_neg (by omega)]
 refine⟨h1,λx hx=> ?_⟩;rcases List.mem_append.1 hx with d|d
 . exact h1 x (List.mem_append_left _ d)
 . rcases List.mem_cons.1 d with rfl|O
   . simp only [Fe,B5]
     exact Ygi
   . exact h1 x (List.mem_append_right _ O)
theorem Nz{L:HL}(d:Lay L)(hx:(p,Hd.small c m)∈L){b:Nat × Nat}(I:b∈blocks L)(h1:b.1<=i)(J:i<b.1+b.2):Fe mem p c m k i=mem i:=by
 have:=Gy d I hx h1 J;simp only at this;simp only [Fe,B5];rw [if_neg this.2,if_neg this.1]
structure TQ(L:HL)(mem:Nat->Nat)(b:Nat × Nat)(L' :HL)(mem' :Nat->Nat):Prop where
 perm:(blocks L).Perm (b::blocks L')
 Cc:(runs L').length<=(runs L).length
 same: ∀c∈blocks L',∀i,c.1<=i->i<c.1+c.2->mem' i=mem i
def OT{P}(h:P:=by
 have d:=Zh au;have I:=Zh ar;have J:=Zh aJ;exact And.intro d (And.intro I J)):=h
theorem Rh{L:HL}(h:Bl w ha a F L q mem)(b:Nat × Nat)(aB:b∈blocks L):
 Calls prog 56 #[.pointer (some ⟨ha,0,none⟩), .int .i64 b.1] w λe w' => ∃F' L' mem',e= .returned (.int .i64 0)/\Bl w' ha a F' L' q mem' /\Ad w F w' F' /\TQ L mem b L' mem' :=by
 obtain⟨y,aa,am⟩:=Ex.1 aB;obtain⟨⟨mb,D,k1,rfl⟩,ah,ai⟩:=h;have hN:=Zh (ED k1);have ac:=Zh (KW k1 ah ai y aa b am);obtain⟨L1,L2,rfl⟩:=Tt aa;have aC:=ah.ok y aa;have an:=ai y aa;have aD:=Zh k1;have U :=Zh ah;have aE:=Zh ai;have aF:=Zh am;clear k1 ah ai aB am aa;obtain⟨p,hd⟩:=y
 cases hd with
 |Bz ww=>
  have au:b=(64*p+2,ww):=by
   have:=aF.out
   simpa [A7] using this
  subst au;obtain⟨bd,be⟩:=aC;have aj:Hid (∀v,LF (p,Hd.Bz ww) (64*p+2) v->v= .tuple #[.int .i64 p, .int .i64 0,IA (.Bz ww), .bool true]):=Zh (λv I=>I.2);have V:=Zh (Je (.Bz ww));simp only [Hy,Hr,Hl] at V;have hlen:(Hd.Bz ww).len=(ww+65)/64:=rfl;have J:=Zh (F7 L1 L2 (p,Hd.Bz ww));obtain⟨nn,ao⟩:=Zx ((ww+65)/64);rw [<-ao] at V;simp only [hlen,<-ao] at J;have aV:1<=nn/\nn<=63:=by omega
  obtain⟨aW,bf⟩:=aV;clear hlen ao an;go_enter func56,ntmps56;go_wp2_with fail;refine hN.mono ?_;rintro e w' ⟨rfl,rfl⟩;go_wp2_with fail;rw [show((64*(p:Int)+2))=((64*p+2:Nat):Int) by push_cast;rfl];refine ac.mono ?_;rintro e w1 ⟨v,rfl,I,O⟩;obtain rfl:=aj.out v I;rw [V.out];go_wp2_with fail;have d:Below w.heap.size w (w1.alloc (Obj.cells #[Value.int IntKind.i64 2,Value.int IntKind.i64 nn,Value.int IntKind.u64 ww] 165)):=O.alloc O.size _;have aG:(w1.alloc (Obj.cells #[Value.int IntKind.i64 2,Value.int IntKind.i64 nn,Value.int IntKind.u64 ww] 165)).cell? ⟨w1.heap.size,1,none⟩=some (.int .i64 nn):=by go_simp
  have al:=Zh (aD.below d);have aq:=Y1;clear O d I ac;generalize (w1.alloc (Obj.cells #[Value.int IntKind.i64 2,Value.int IntKind.i64 nn,Value.int IntKind.u64 ww] 165))=W1 at*;have aH:=al.hs;have aX:=λX:BL W1=>X.cell aH
  have aY:=λX:BL W1=>X.cell aG
  refine CW 7 (by kernel_rfl) (by kernel_rfl) ?_;simp only [List.take_succ_cons,List.take_zero,List.drop_succ_cons,List.drop_zero]
  repeat (go_big_quiet_step (fail))
  refine wpQuiet_nil ?_;rintro _ ⟨X,rfl⟩;have aI:=Zh ((al.below X.h).perm J);have aZ:=Zh (aq.trans (.below X.h));generalize X.W=bg at*;clear aX aY aH aG;go_wp2_with fail;refine(L8 (ps:=runs (L1++L2)) p nn (h:=aI.sl) aW (by omega)).mono ?_;rintro e a0 ⟨D',rfl,aK,aL⟩;have t6:=Sj (a:=a) aL;have a1:=Zh (aI.Ar aK t6);have a2:=Zh (aZ.trans t6);clear aK aL t6;go_wp2;go_ret;refine⟨_,L1++L2,mem,rfl,⟨⟨mb,D',a1,rfl⟩,PM U,aE.other (λx hx=>⟨?_,rfl,rfl⟩)⟩,a2,⟨?_, ?_,λ_ _ _ _ _=>rfl⟩⟩
  . exact Ybx
  . exact FA L1 L2 (p, .Bz ww)
  . have:=J.length_eq
    rw [List.length_append] at this;omega
 |small c m=>
  obtain⟨k,ab,Z,au⟩: ∃k,k<AX c/\m.testBit k=true/\b=(64*p+2+k*sz c,sz c):=by
   have:=aF.out;simp only [A7,List.mem_map] at this;obtain⟨k,h1,aM⟩:=this;rw [FT] at h1;exact⟨k,h1.1,h1.2,aM.symm⟩
  have aj:Hid (∀v,LF (p,Hd.small c m) b.1 v->v= .tuple #[.int .i64 p, .int .i64 (k:Nat),IA (.small c m), .bool true]):=Zh (λv I=>by
   obtain⟨k',h1,aM,ae,a3⟩:=I;have:k' =k:=by
    rw [au] at ae;simp only at ae;have a4:k' *sz c=k*sz c:=(by omega);exact Nat.eq_of_mul_eq_mul_right (by have:=Qx c;omega) a4
   subst this;exact a3)
  obtain⟨aN,a5,aO⟩:=aC;simp only at an;obtain⟨ar,aJ⟩:=an;have V:=Zh (Je (.small c m));simp only [Hy,Hr,Hl] at V;have hlen:(Hd.small c m).len=1:=rfl;have J:=F7 L1 L2 (p,Hd.small c m);simp only [hlen,List.range'_one,List.singleton_append] at J;obtain⟨aw,ax,aP⟩:=EW;obtain⟨a6,a7,a8⟩:=OT;have a9:=Zh aO;obtain⟨addr,bh⟩:=b;dsimp only at aj ac ⊢;clear hlen J ab Z au ar aJ a5 aO;go_enter func56,ntmps56;go_wp2_with fail;refine hN.mono ?_;rintro e w' ⟨rfl,rfl⟩;go_wp2_with fail;refine ac.mono ?_;rintro e w1 ⟨v,rfl,I,O⟩;obtain rfl:=aj.out v I;rw [V.out];go_wp2_with fail;have d:Below w.heap.size w (w1.alloc (Obj.cells #[Value.int IntKind.i64 1,Value.int IntKind.i64 c,Value.int IntKind.u64 m] 165)):=O.alloc O.size _;have al:=Zh ((aD.below d).perm aw);have aq:=Y1;clear O d I ac;generalize (w1.alloc (Obj.cells #[Value.int IntKind.i64 1,Value.int IntKind.i64 c,Value.int IntKind.u64 m] 165))=W1 at*;refine(WQ p c m k (h:=al.out) aN ax aP a7 a8).mono ?_;rintro e a0 ⟨rfl,D',ae,t3⟩;have aQ:=Zh ae;have aR:=Zh (aq.trans t3);clear ae t3;go_wp2;go_ret;have aS:=Qt (k:=k) U aE.out;have aT:(p,Hd.small c m)∈L1++(p,Hd.small c m)::L2:=by simp
  have ba:=a6.out;have af:=OY (L1:=L1) (L2:=L2) (p:=p) ax aP.out;have bb:=aw.length_eq;rw [<-ba] at af;by_cases h0:m ^^^ 2^k=0
  . have ag:=aQ.out
    rw [if_pos h0] at ag;rw [h0] at af;have aU:=af.trans ((GV L1 L2 p c).cons _);refine⟨_,L1++L2,_,rfl,⟨⟨mb,D',ag,rfl⟩,PM U,aS.1⟩,aR,⟨aU, ?_, ?_⟩⟩
    . rw [bb];simp
    . intro b' ay i az aA
      exact Nz U aT (aU.mem_iff.2 (List.mem_cons_of_mem _ ay)) az aA
  . have ag:=aQ.out
    rw [if_neg h0] at ag;have bc :(Hd.small c (m ^^^ 2^k)).Ok:=⟨aN,h0,VF a9 ax⟩;refine⟨_,L1++(p, .small c (m ^^^ 2^k))::L2,_,rfl,⟨⟨mb,D',ag.perm ?_,rfl⟩,Pp U bc rfl,aS.2⟩,aR,⟨af, ?_, ?_⟩⟩
    . rw [HT (p:=p) (hd:=Hd.small c m) (hd' :=Hd.small c (m ^^^ 2^k)) rfl]
      exact aw.symm
    . rw [HT (p:=p) (hd:=Hd.small c m) (hd' :=Hd.small c (m ^^^ 2^k)) rfl]
      exact Nat.le_refl _
    . intro b' ay i az aA
      exact Nz U aT (af.mem_iff.2 (List.mem_cons_of_mem _ ay)) az aA
def Dp(n:Nat):Nat:=if n<=28 then sz (cls n) else n
def CC(n:Nat):Nat:=if n<=28 then 1 else (n+65)/64
theorem Lt(n:Nat)(h:n<=28):cls n<8/\n<=sz (cls n):=by
 unfold cls
 (repeat' split)<;>simp [sz]<;>omega
theorem Fs(n:Nat):n<=Dp n:=by
 unfold Dp
 split
 . exact(Lt n (by assumption)).2
 . exact Nat.le_refl _
theorem G7{L:HL}(h:Lay L):(blocks L).Nodup:=by
 refine List.Pairwise.imp_of_mem (S:=λa b=>a≠b) (λ{a b} ha J O=> ?_) (KC h);rintro rfl;obtain⟨y,d,I⟩:=Ex.1 ha;have:=CI (h.ok y d) I;omega
structure TC(L:HL)(mem:Nat->Nat)(addr n:Nat)(L' :HL)(mem' :Nat->Nat):Prop where
 perm:(blocks L').Perm ((addr,Dp n)::blocks L)
 Cc:(runs L').length<=(runs L).length+CC n
 same: ∀c∈blocks L,∀i,c.1<=i->i<c.1+c.2->mem' i=mem i
 zero: ∀i,addr<=i->i<addr+Dp n->mem' i=0
theorem Mt{L1 L2:HL}(I:Lay (L1++(p, .small c (m ||| 2^k))::L2))(J:k<AX c)(h:Cy (L1++L2) mem):
 Cy (L1++(p, .small c (m ||| 2^k))::L2) (ER mem p c m k):=by
 have hx:(p,Hd.small c (m ||| 2^k))∈L1++(p, .small c (m ||| 2^k))::L2:=by simp
 have O:c<8:=(I.ok _ hx).1;have Z:=E9 c k O J;have h1:Cy (L1++L2) (ER mem p c m k):=by
  refine h.other λx hx=>⟨hx, ?_, ?_⟩
  rotate_left
  all_goals
   have U:=Nt I hx;simp only at U;simp only [ER,E3,B5];rw [if_neg (by omega),if_neg (by omega),if_neg (by omega)]
 intro x hx;rcases List.mem_append.1 hx with d|d
 . exact h1 x (List.mem_append_left _ d)
 . rcases List.mem_cons.1 d with rfl|V
   . simp only [ER,E3,B5]
     rw [if_neg (by omega),if_neg (by omega),if_pos trivial,if_neg (by omega),if_pos trivial];exact⟨rfl,rfl⟩
   . exact h1 x (List.mem_append_right _ V)
theorem HD{L:HL}(J:Lay L)(hx:(p,Hd.small c (m ||| 2^k))∈L)(U:(64*p+2+k*sz c,sz c)∈blocks L){b:Nat × Nat}(O:b∈blocks L)(V:b≠(64*p+2+k*sz c,sz c))(h1:b.1<=i)(Z:i<b.1+b.2):ER mem p c m k i=mem i:=by
 have I:=Gy J O hx h1 Z;simp only at I;have aa:=Fb J O U;simp only [ER,E3,B5];rw [if_neg (by rcases aa with d|d|d;exact absurd d V;all_goals (simp only at d;omega)),if_neg I.2,if_neg I.1]
theorem Vl{L1 L2:HL}(U:Lay (L1++(p, .small c m)::L2))(hh:Cy (L1++(p, .small c m)::L2) mem)(O:k<AX c)(hm:m.testBit k=false)(ac:n<=28)(ae:cls n=c):
 Lay (L1++(p, .small c (m ||| 2^k))::L2)/\Cy (L1++(p, .small c (m ||| 2^k))::L2) (ER mem p c m k)/\
 TC (L1++(p, .small c m)::L2) mem (64*p+2+k*sz c) n (L1++(p, .small c (m ||| 2^k))::L2) (ER mem p c m k):=by
 have V:=U.ok (p, .small c m) (by simp);have d :Lay (L1++(p, .small c (m ||| 2^k))::L2):=Pp U (ZC V.1 V.2.2 O) rfl;have I:=IM (L1:=L1) (L2:=L2) (p:=p) O hm;have Z:Dp n=sz c:=by unfold Dp;rw [if_pos ac,ae]
 refine⟨d,Mt d O (hh.other λx hx=>⟨?_,rfl,rfl⟩), ?_, ?_, ?_, ?_⟩
 . exact Ybx
 . rw [Z];exact I
 . rw [HT (p:=p) (hd:=Hd.small c m) (hd' :=Hd.small c (m ||| 2^k)) rfl];omega
 . intro b aa i h1 J
   have ab:=I.nodup_iff.1 (G7 d);rw [List.nodup_cons] at ab;exact HD d (by simp) (I.mem_iff.2 List.mem_cons_self) (I.mem_iff.2 (List.mem_cons_of_mem _ aa)) (λe=>ab.1 (e▸aa)) h1 J
 . intro i h1 J
   rw [Z] at J;simp only [ER,E3];rw [if_pos ⟨h1,J⟩]
theorem UH{L:HL}(I:Lay L)(d: ∀i,i<n->f+i∉runs L)(hp:p∈runs L)(i:Nat)(hi:i/64=p):Dk mem f n i=mem i:=by
 unfold Dk;rw [if_neg];rintro⟨h1,J⟩;exact d (p-f) (by omega) (by rw [show f+(p-f)=p by omega];exact hp)
def Yew{P}(h:P:=by
 rw [I];simp only [B5];rw [if_neg (by omega),if_neg (by omega)];exact UH d J hp i hi):=h
def Yfh{P}(h:P:=by
 exact O x.1 (CP.2 ⟨x,hx,Nat.le_refl _,by have:=x.2.CZ;omega⟩) _ (by omega)):=h
theorem WB{L:HL}(d:Lay L)(hh:Cy L mem)(ac:f∉runs L)(ae:n<=28)(ah:cls n=c)(V:Nat->Nat)(I:V=B5 (B5 (Dk mem f 1) (64*f) (1+256*c)) (64*f+1) 0):
 ∃L',(runs L++ [f]).Perm (runs L')/\Lay L' /\Cy L' (ER V f c 0 0)/\TC L mem (64*f+2) n L' (ER V f c 0 0):=by
 have Z:=Lt n ae;rw [ah] at Z;have al:(Hd.small c (0 ||| 2^0)).Ok:=by
  refine⟨Z.1,by decide, ?_⟩;have:1<2^AX c:=Nat.one_lt_two_pow (by
   have am:=Z.1;exact Zz)
  simpa using this
 have af:0<AX c:=by
  have am:=Z.1;exact Zz
 obtain⟨L1,L2,rfl,h1,U⟩:=Nh d f 1 (Nat.le_refl _) (λk af=>by have e:k=0:=(by omega);rw [e];exact ac);have aa :Lay (L1++(f, .small c (0 ||| 2^0))::L2):=Mo d al h1 U;have ab:(blocks (L1++(f, .small c (0 ||| 2^0))::L2)).Perm ((64*f+2+0*sz c,sz c)::blocks (L1++L2)):=
  (IM af (Nat.zero_testBit 0)).trans ((GV L1 L2 f c).cons _)
 have ai:Dp n=sz c:=by unfold Dp;rw [if_pos ae,ah]
 have J: ∀i,i<1->f+i∉runs (L1++L2):=λi hi=>by have e:i=0:=(by omega);rw [e];exact ac
 have O : ∀p∈runs (L1++L2),∀i,i/64=p->V i=mem i:=λp hp i hi=>by
  have an:p≠f:=λe=>ac (e▸hp)
  exact Yew
 refine⟨_, ?_,aa,Mt aa af (hh.other λx hx=>⟨hx, ?_, ?_⟩), ?_, ?_, ?_, ?_⟩
 . exact List.perm_append_comm.trans (F7 L1 L2 (f,Hd.small c (0 ||| 2^0))).symm
 . exact Yfh
 . exact Yfh
 . rw [ai]
   simpa using ab
 . have:=(F7 L1 L2 (f,Hd.small c (0 ||| 2^0))).length_eq
   simp [Hd.len] at this;unfold CC;rw [if_pos ae];simp;omega
 . intro b ag i h1 U
   have aj:=ab.nodup_iff.1 (G7 aa);rw [List.nodup_cons] at aj;rw [HD aa (by simp) (ab.mem_iff.2 List.mem_cons_self) (ab.mem_iff.2 (List.mem_cons_of_mem _ ag)) (λe=>aj.1 (e▸ag)) h1 U];exact O _ (G1 d ag h1 U) i rfl
 . intro i h1 U
   rw [ai] at U;simp only [ER,E3];rw [if_pos ⟨by omega,by omega⟩]
theorem Ti{L:HL}(d:Lay L)(hh:Cy L mem)(ac:28<n)(ae:n<=4000)(J: ∀i,i<(n+65)/64->f+i∉runs L)(O:Nat->Nat)(I:O=B5 (B5 (Dk mem f ((n+65)/64)) (64*f) (2+256*((n+65)/64))) (64*f+1) n):
 ∃L',(runs L++List.range' f ((n+65)/64)).Perm (runs L')/\Lay L' /\Cy L' O/\TC L mem (64*f+2) n L' O:=by
 have af:(Hd.Bz n).Ok:=⟨ac,ae⟩;obtain⟨L1,L2,rfl,h1,U⟩:=Nh d f ((n+65)/64) (by omega) J;have ag :Lay (L1++(f, .Bz n)::L2):=Mo d af h1 U;have ah:(blocks (L1++(f, .Bz n)::L2)).Perm ((64*f+2,n)::blocks (L1++L2)):=FA L1 L2 (f, .Bz n);have aa:Dp n=n:=by unfold Dp;rw [if_neg (by omega)]
 have V : ∀p∈runs (L1++L2),∀i,i/64=p->O i=mem i:=λp hp i hi=>by
  have al:p≠f:=λe=>J 0 (by omega) (by rw [Nat.add_zero];exact e▸hp)
  exact Yew
 have ab:Cy (L1++L2) O:=hh.other λx hx=>⟨hx,V x.1 (CP.2 ⟨x,hx,Nat.le_refl _,by have:=x.2.CZ;omega⟩) _ (by omega),V x.1 (CP.2 ⟨x,hx,Nat.le_refl _,by have:=x.2.CZ;omega⟩) _ (by omega)⟩
 refine⟨_, ?_,ag, ?_, ?_, ?_, ?_, ?_⟩
 . exact List.perm_append_comm.trans (F7 L1 L2 (f,Hd.Bz n)).symm
 . intro x hx
   rcases List.mem_append.1 hx with Z|Z
   . exact ab x (List.mem_append_left _ Z)
   . rcases List.mem_cons.1 Z with rfl|ai
     . simp only [I,B5]
       exact Ygi
     . exact ab x (List.mem_append_right _ ai)
 . rw [aa];exact ah
 . have:=(F7 L1 L2 (f,Hd.Bz n)).length_eq
   simp only [List.length_append,List.length_range',Hd.len] at this;unfold CC;rw [if_neg (by omega)];omega
 . intro b aj i h1 U
   exact V _ (G1 d aj h1 U) i rfl
 . intro i h1 U
   rw [aa] at U;rw [I];simp only [B5];rw [if_neg (by omega),if_neg (by omega)];unfold Dk;rw [if_pos (by omega)]
def Ydq{P}(h:P:=by
 simp only [FZ,Ks,MA];rw [if_pos ⟨by omega,by omega⟩,if_neg (by omega),if_pos ⟨by omega,by omega⟩];push_cast;rfl):=h
def Yok{P}(h:P:=by
 have hN:=Zh (ED k1);have d:=Zh (Sg (n:=(n:Nat)) ⟨by omega,by omega⟩ (by omega));exact And.intro hN d):=h
def Yqr{P}(h:P:=by
 have d:Hid (FZ (n:Int)= .tuple #[.int .i64 (((n+65)/64:Nat):Int), .int .i64 0]):=Zh (by
  exact Ydq)
 exact d):=h
theorem QQ{L:HL}(h:Bl w ha a F L q mem)(n:Nat)(ah:28<n)(ai:n<=4000)(O:((runs L).length+(n+65)/64)*64<=q):
 Calls prog 54 #[.pointer (some ⟨ha,0,none⟩), .int .i64 n] w λe w' => ∃addr F' L' mem',e= .returned (.tuple #[.int .i64 (addr:Nat), .int .i64 0])/\Bl w' ha a F' L' q mem' /\Ad w F w' F' /\TC L mem addr n L' mem' /\addr<20000000:=by
 obtain⟨⟨mb,D,k1,rfl⟩,U,V⟩:=h;obtain⟨hN,aj⟩:=Yok;have Z:=Yqr;have aa:=Zh (λ(f:Nat) (al: ∀i,i<(n+65)/64->f+i∉runs L)=>Ti (mem:=mem) U V ah ai al _ rfl);have am:=Zh k1;obtain⟨nn,ab⟩: ∃nn,(n+65)/64=nn:=⟨_,rfl⟩;rw [ab] at Z aa O;have an:nn<=63:=by omega
 have ao:1<=nn:=by omega
 clear k1 U V ab;go_enter func54,ntmps54;go_wp2_with fail;refine hN.mono ?_;rintro e w' ⟨rfl,rfl⟩;go_wp2_with fail;refine(Jg _ _).mono ?_;rintro e w1 ⟨rfl,d⟩;rw [aj.out];have aq:=Zh (am.below d);have ar:=Y1;clear d hN;go_wp2_with fail;refine(Nb _ _).mono ?_;rintro e w2 ⟨rfl,I⟩;rw [Z.out];have J:=Zh (aq.below I);have au:=Zh (ar.trans (Ad.below (F:=Bo a mb D) I));have aw:=J.hs;clear I;go_wp2_with fail;refine(Pw J.sl nn ao an O).mono ?_;rintro e w3 ⟨f,D',rfl,ac,aF,ae,af⟩;have t3:=RU (a:=a) af;have ax:=Zh (J.Ar ae t3);have ay:=Zh (au.trans t3);have az:=Zh ac;clear ae af t3 aw ac;go_wp2_with fail;refine(KT ax.out f 2 nn n (by simp;omega) (by omega) (by omega) (by omega)).mono ?_;rintro e w4 ⟨rfl,ag,t4⟩;have aA:=Zh ag;have aB:=Zh (ay.trans t4);clear ag t4;go_wp2
 go_ret2
 obtain⟨L',aC,aD,aE,ID⟩:=aa.out f az.out;exact⟨64*f+2,_,L',_,by rw [show((64*f+2:Nat):Int)=(f:Int)*64+2 by push_cast;omega];rfl,⟨⟨mb,D',aA.perm aC,rfl⟩,aD,aE⟩,aB,ID,by omega⟩
theorem KJ{L:HL}(h:Bl w ha a F L q mem)(n:Nat)(ai:28<n)(aj:n<=4000)(J:q<((runs L).length+(n+65)/64)*64):
 Calls prog 54 #[.pointer (some ⟨ha,0,none⟩), .int .i64 n] w λe w' =>e= .returned (.tuple #[.int .i64 0, .int .i64 3])/\Below w.heap.size w w' :=by
 obtain⟨⟨mb,D,k1,rfl⟩,aa,ab⟩:=h;obtain⟨hN,ae⟩:=Yok;have O:=Yqr;have af:=Zh k1;obtain⟨nn,U⟩: ∃nn,(n+65)/64=nn:=⟨_,rfl⟩;rw [U] at O J;have al:nn<=63:=by omega
 have ag:1<=nn:=by omega
 clear k1 aa ab U;go_enter func54,ntmps54;go_wp2_with fail;refine hN.mono ?_;rintro e w' ⟨rfl,rfl⟩;go_wp2_with fail;refine(Jg _ _).mono ?_;rintro e w1 ⟨rfl,ac⟩;rw [ae.out];have ah:=Zh (af.below ac);clear hN;go_wp2_with fail;refine(Nb _ _).mono ?_;rintro e w2 ⟨rfl,I⟩;rw [O.out];have V:=Zh (ah.below I);have am:=V.hs;have Z:=DR;clear I ac;go_wp2_with fail;refine(Mw V.sl nn ag (by omega) J).mono ?_;rintro e w3 ⟨rfl,d,rfl⟩;go_wp2
 go_ret2
 exact⟨rfl,Z.trans ((AL w2 d).mono Z.size)⟩
theorem QR{L:HL}(h:Bl w ha a F L q mem)(n:Nat)(aZ:1<=n)(Z:n<=28):
 Calls prog 54 #[.pointer (some ⟨ha,0,none⟩), .int .i64 n] w λe w' =>
  (∃addr F' L' mem',e= .returned (.tuple #[.int .i64 (addr:Nat), .int .i64 0])/\Bl w' ha a F' L' q mem' /\Ad w F w' F' /\TC L mem addr n L' mem' /\addr<40000000)\/
  (e= .returned (.tuple #[.int .i64 0, .int .i64 3])/\Below w.heap.size w w' /\q<((runs L).length+1)*64):=by
 obtain⟨⟨mb,D,k1,rfl⟩,I,J⟩:=h;have hN:=Zh (ED k1);obtain⟨c,O⟩: ∃c,cls n=c:=⟨_,rfl⟩;have af:=Lt n Z;rw [O] at af;have aa:=af.1;have aC:=Zh (Ni (n:=(n:Nat)) ⟨by omega,by omega⟩ (by omega) O);have aD:=Zh (λw' (aE:Below w.heap.size w w')=>Xj (k1.below aE) I J c aa);have aF:=Zh (λ(f:Nat) (aG:f∉runs L)=>WB (mem:=mem) I J aG Z O _ rfl);have aH:=Zh (λ(L1 L2:HL) (p m k:Nat) (e:L=L1++(p, .small c m)::L2) (ab:k<AX c) (hm:m.testBit k=false)=>Vl (mem:=mem) (e▸I) (e▸J) ab hm Z O);have aq:=Zh k1;have a0:=Zh I;have aI:=Zh J;have aJ:0<AX c:=by
  have:c=0\/c=1\/c=2\/c=3\/c=4\/c=5\/c=6\/c=7:=by omega
  rcases this with rfl|rfl|rfl|rfl|rfl|rfl|rfl|rfl<;>decide
 clear k1 I J af O Z;go_enter func54,ntmps54;go_wp2_with fail;refine hN.mono ?_;rintro e w' ⟨rfl,rfl⟩;go_wp2_with fail;refine(Jg _ _).mono ?_;rintro e w1 ⟨rfl,ac⟩;rw [aC.out];go_wp2_with fail;refine(aD _ ac).mono ?_;rintro e w2 ⟨v,rfl,aK,ar⟩;have ae:=Zh (ac.trans (ar.mono ac.size));have U:=Zh (aq.below ae);have au:=Zh (Ad.below (F:=Bo a mb D) ae);have aL:=U.hs;clear ac ar hN;rcases aK with rfl|⟨L1,L2,p,m,k,ag,ab,hm,rfl⟩
 . go_wp2_with fail
   by_cases ah:((runs L).length+1)*64<=q
   . refine(Pw U.sl 1 (by omega) (by omega) ah).mono ?_
     rintro e w3 ⟨f,D',rfl,aw,a1,ax,ay⟩;have t3:=RU (a:=a) ay;have aM:=Zh (U.Ar ax t3);have aN:=Zh (au.trans t3);have aO:Hid (f∉runs L):=Zh (by simpa using aw 0 (by omega));clear ax ay t3 aL aw;go_wp2_with fail;refine(KT aM.out f 1 c 0 (by simp) (by omega) (by omega) (by omega)).mono ?_;rintro e w4 ⟨rfl,az,t4⟩;have aP:=Zh az;have aQ:=Zh (aN.trans t4);clear az t4;go_wp2_with fail;refine(take_at aP.out f c 0 0 (by simp) aa aJ (by simp only [B5];rw [if_neg (by omega),if_pos trivial]) (by simp only [B5];rw [if_pos trivial])).mono ?_;rintro e aR ⟨rfl,V,t5⟩;have ai:=Zh V;have aj:=Zh (aQ.trans t5);clear V t5;go_wp2
     go_ret2
     obtain⟨L',aS,aT,aU,ID⟩:=aF.out f aO.out;exact .inl ⟨64*f+2,_,L',_,by simp,⟨⟨mb,D',ai.perm (by simpa using aS),rfl⟩,aT,aU⟩,aj,ID,by omega⟩
   . refine(Mw U.sl 1 (by omega) (by omega) (by omega)).mono ?_
     rintro e w3 ⟨rfl,d,rfl⟩;have aV:=Zh ah;clear ah;go_wp2
     go_ret2
     exact .inr ⟨rfl,ae.trans ((AL w2 d).mono ae.size),by have:=aV.out;omega⟩
 . have al:=Zh ab
   have aW:=Zh hm;have aA:=Zh ag;have hx:(p,Hd.small c m)∈L:=(by rw [ag];simp);have am:p∈runs L:=CP.2 ⟨_,hx,Nat.le_refl _,by simp [Hd.len]⟩;have an:=aI.out _ hx;simp only at an;have a2:=aq.sl.low _ am;have aX:=Zh am;have aB:=Zh an;clear ab hm ag hx am an;go_wp2_with fail;refine(take_at U.out p c m k aX aa al aB.1 aB.2).mono ?_;rintro e aR ⟨rfl,V,t5⟩;have ai:=Zh V;have aj:=Zh (au.trans t5);clear V t5;go_wp2
   go_ret2
   have a3:=E9 c k aa al.out;have ao:=aH.out L1 L2 p m k aA al aW.out;have aY:=aA.out;subst aY;refine .inl ⟨64*p+2+k*sz c,_,_,_,rfl,⟨⟨mb,D,ai.perm ?_,rfl⟩,ao.1,ao.2.1⟩,aj,ao.2.2,by omega⟩;rw [HT (p:=p) (hd:=Hd.small c m) (hd' :=Hd.small c (m ||| 2^k)) rfl]
attribute [local go_sem] Oper.semAt_some
structure KE(E:World->Nat->Prop)(A B:World):Prop where
 kb:KB (E A) A B
 grow: ∀k,E B k->E A k\/A.heap.size<=k
def Ycy{P}(h:P:=by
 have h1:=h.kb.same i o hi d I;refine k.kb.same i o h1 d (λO=> ?_);rcases h.grow i O with J|J
 . exact I J
 . have:=(Array.getElem?_eq_some_iff.1 hi).1;omega):=h
theorem KE.trans{E:World->Nat->Prop}{A B C:World}(h:KE E A B)(k:KE E B C):KE E A C:=by
 refine⟨⟨Nat.le_trans h.kb.size k.kb.size,λi o hi d I=> ?_⟩,λi hi=> ?_⟩
 . exact Ycy
 . rcases k.grow i hi with h1|h1
   . exact h.grow i h1
   . exact .inr (Nat.le_trans h.kb.size h1)
theorem KE.below{E:World->Nat->Prop}{A B:World}(h:Below A.heap.size A B)(d: ∀k,E B k->E A k):KE E A B:=⟨KB.below h,λk I=> .inl (d k I)⟩
structure NQ(E:World->Nat->Prop)(n0 a mb ha B:Nat)(D:DW)(A:Option Addr)(W:World):Prop where
 size:n0<=W.heap.size
 ok: ∀k,E W k-> ¬Bo a mb D k/\k≠ha/\k≠1/\k≠B/\ ∀r,A=some r->k≠r.block
theorem NQ.below{E:World->Nat->Prop}{D:DW}{X Y:World}(h:NQ E n0 a mb ha B D A X)(I: ∀X Y:World,n0<=X.heap.size->Below X.heap.size X Y-> ∀k,E Y k->E X k)(d:Below X.heap.size X Y):NQ E n0 a mb ha B D A Y:=
 ⟨Nat.le_trans h.size d.size,λk J=>h.ok k (I X Y h.size d k J)⟩
theorem WL(h:w.ownsRow base e 1 (.slice A m c) n xs)(d:A=some r):base<=r.block:=by
 rcases h.2 with ⟨h1,_⟩|⟨g,cap,cur,h1,I,_⟩
 . rw [d] at h1;cases h1
 . rw [d] at h1;cases h1;exact I
theorem Zn(h:w.ownsRow base e 1 (.slice A m c) n xs)(d:A=some r):r.block<w.heap.size:=by
 rcases h.2 with ⟨h1,_⟩|⟨g,cap,cur,h1,J,I,_⟩
 . rw [d] at h1;cases h1
 . rw [d] at h1;cases h1;exact(Array.getElem?_eq_some_iff.1 I).1
theorem EC.kbE{E:World->Nat->Prop}{D:DW}{L:HL}(h:EC w ha a mb D L q mem B base (.slice A n c) W)(d:KE E W W')(I:NQ E n0 a mb ha B D A W):EC w ha a mb D L q mem B base (.slice A n c) W' :=by
 refine⟨h.hp.kb d.kb (λk d=>(I.ok k d).1) (λd=>(I.ok _ d).2.1 rfl) (λd=>(I.ok _ d).2.2.1 rfl),d.kb.cell h.box (λd=>(I.ok _ d).2.2.2.1 rfl), ?_⟩;refine⟨h.row.1, ?_⟩;rcases h.row.2 with h1|⟨g,cap,cur,h1,J,O,U⟩
 . exact .inl h1
 . refine .inr ⟨g,cap,cur,h1,J,d.kb.same g _ O (.inl rfl) (λhh=> ?_),U⟩
   cases h1
   exact(I.ok g hh).2.2.2.2 _ rfl rfl
theorem NQ.step{E:World->Nat->Prop}{D:DW}{L:HL}(d:NQ E n0 a mb ha B D A W)(I:KE E W W')(h:EC w ha a mb D L q mem B base (.slice A n c) W):NQ E n0 a mb ha B D A W' :=by
 refine⟨Nat.le_trans d.size I.kb.size,λk J=> ?_⟩;rcases I.grow k J with h1|h1
 . exact d.ok k h1
 . refine⟨λO=> ?_, ?_, ?_, ?_,λr U=> ?_⟩
   . have:=h.hp.sl.lt O;omega
   . have:=Al h.hp.hs;simp only at this;omega
   . have V:=h.hp.Ft a (.inl rfl);have Z:=h.hp.sl.lt (.inl rfl);omega
   . have:=Al h.box;simp only at this;omega
   . have:=Zn h.row U;omega
theorem OH{D:DW}{L:HL}(h:BE w ha a mb D (runs L) q mem)(az:Lay L)(hh:Cy L mem)(aA:w.cell? ⟨B,0,none⟩=some (.pointer (some ⟨ha,0,none⟩)))
 (E:World->Nat->Prop) (am: ∀X Y:World,w.heap.size<=X.heap.size->Below X.heap.size X Y-> ∀k,E Y k->E X k) (c0:NQ E w.heap.size a mb ha B D none w) (c5: ∀k,E w k->k<w.heap.size):
 SeqStopsK Fence.wide 8 prog 141 #[.pointer (some ⟨B,0,none⟩)] (λx:{y:Nat × Hd // y∈L}=> #[.int .i64 x.1.1,IA x.1.2]) (KE E) (λxs=>xs.map (·.1)=L) (λpre=> ∃t,L=pre.map (·.1)++t) L.length w:=λl a1 bh W an aB bi ao h0=>by
 have aq:BE W ha a mb D (runs L) q mem:=h.kb (Cs:=λ_=>False) (KB.below an) (λ_ h=>h.elim) (λh=>h) (λh=>h);have aC:W.cell? ⟨B,0,none⟩=some (.pointer (some ⟨ha,0,none⟩)):=(an.cell (p:=⟨B,0,none⟩) (Al aA)).trans aA;have hs:=aq.hs;have aP:=Zh ((callsIn_wide (n:=7)).2 (J9 aq.sl (JR az)));have ar:=Zh aq;have aQ:=Zh az;have a2:=Zh hh;have aR:=an.size;have a3:=Zh (λk (aD:E W k)=>am w W (Nat.le_refl _) an k aD);clear aq aA h az hh;refine callsIn_of_wp func141 rfl trivial ?_ rfl;simp only [ntmps141,List.size_toArray,List.length_cons,List.length_nil,Nat.reduceAdd,Nat.reduceSub,Array.replicate_succ,Array.replicate_zero,List.push_toArray,List.append_toArray,List.nil_append,List.cons_append];gi_wp2_with (refine⟨trivial, ?_⟩;gi_at_call 65;refine aP.mono ?_;rintro e w1 ⟨v,rfl,au,O⟩;obtain⟨A,c,rfl⟩:=Bu au);have hlen:(runs L).length<=4096:=by have h1:=ar.sl.room;have bj:=ar.sl.Dw;rw [ar.sl.count] at h1;omega
 have H1:Hid (EC w ha a mb D L q mem B W.heap.size (.slice A (runs L).length c) w1):=Zh ⟨ar.below O,(O.cell (p:=⟨B,0,none⟩) (Al aC)).trans aC,au⟩;have a4:=Zh (Dr aB h0 O);have a5:Hid (NQ E w.heap.size a mb ha B D A w1):=Zh ⟨Nat.le_trans aR O.size,λk aD=>by
  have aS:=a3.out k (am W w1 aR O k aD);obtain⟨q1,a6,a7,a8,_⟩:=c0.ok k aS;refine⟨q1,a6,a7,a8,λr a9=> ?_⟩;have:=WL au a9;have:=c5 k aS;omega⟩
 clear au O aC hs h0 aP
 gi_loopw [3,13] (λba aE wr=> ∃(pre:List {y:Nat × Hd // y∈L}) (i next:Nat),i<=(runs L).length/\aE= .int .i64 i/\ba= .int .i64 next/\next<=1000000/\Hid (O3 L (pre.map (·.1)) i next)/\Hid (EC w ha a mb D L q mem B W.heap.size (.slice A (runs L).length c) wr)/\Hid (NQ E w.heap.size a mb ha B D A wr)/\Hid (a1 pre wr)) (λ_ aE _=>(runs L).length-(intOf aE).toNat)
 case atStart=>exact⟨[],0,0,by omega,rfl,rfl,by omega,Zh (LW L),H1,a5,a4⟩
 case round=>
  obtain⟨pre,i,next,hi,rfl,rfl,hnx,hpos,H,HE,hj⟩:=hrel;rcases LV aQ.out hpos with ⟨p,hp,bk,V⟩|⟨x,rest,I,hp,hle,V⟩|⟨I,bm⟩
  . obtain⟨g,bb,aF,_,_,aT⟩:=Eb H.row (i:=i) (u:= .int .i64 (p:Int)) (by rw [List.getElem?_map,hp];rfl)
    cases aF
    have aG:i<(runs L).length:=(List.getElem?_eq_some_iff.1 hp).1;have hd:decide ((p:Int)<(next:Int))=true:=(by simp;omega);have aw:=Zh V;clear hp V ao;gi_wp2;go_roundw
    case rel=>exact⟨pre,i+1,next,by omega,by go_num,by trivial,hnx,aw,H,HE,hj⟩
    case measure=>simp [intOf];omega
  . obtain⟨g,bb,aF,_,_,aT⟩:=Eb H.row (i:=i) (u:= .int .i64 (x.1:Int)) (by rw [List.getElem?_map,hp];rfl)
    cases aF
    have aG:i<(runs L).length:=(List.getElem?_eq_some_iff.1 hp).1;have Z:x∈L:=I▸List.mem_append_right _ List.mem_cons_self;have ax:x.1∈runs L:=(List.getElem?_eq_some_iff.1 hp).2▸List.getElem_mem _;have bc:=H.hp.sl.low _ ax;have aU:=aQ.ok x Z;have aH:=a2.out x Z;have aV:pre.length<L.length:=(by have bd:=congrArg List.length I;simp only [List.length_append,List.length_map,List.length_cons] at bd;omega);have bo:=H.box;have hd:decide ((x.1:Int)<(next:Int))=false:=(by simp;omega);have aw:=Zh V;have aW:Hid (∃t,L=(pre++ [(⟨x,Z⟩:{y:Nat × Hd // y∈L})]).map (λy=>y.1)++t):=Zh ⟨rest,by rw [List.map_append,List.append_assoc];exact I⟩;have aX:Hid ((pre++ [(⟨x,Z⟩:{y:Nat × Hd // y∈L})]).map (λy=>y.1)=pre.map (λy=>y.1)++ [x]):=Zh (by rw [List.map_append];rfl);obtain⟨p,be⟩:=x;simp only at aT ax bc hd hle aH;have aY:=Zh ao;have aZ:=Zh ax;have ay:=Zh Z;clear hp V I ao ax
    cases be with
    |small cc m=>
     obtain⟨aa,ab⟩:=aH;obtain⟨bp,bq,br⟩:=aU;have ac:=(callsIn_wide (n:=7)).2 (HC H.hp p 1 cc m aZ (by omega) (by omega) aa ab);have aI:=Zh ac;clear ac aa ab;gi_wp2_with (refine⟨trivial, ?_⟩;gi_at_call 142;refine aI.mono ?_;rintro e w2 ⟨rfl,ae⟩);have d:Below wr.heap.size wr (w2.alloc (Obj.cells #[Value.int IntKind.i64 1,Value.int IntKind.i64 cc,Value.int IntKind.u64 m] 165)):=ae.alloc ae.size _;have af:=Dr aB hj d;have ag:=Zh (H.below d);have ah:=Zh (HE.below am d);obtain⟨fn,tmps,assign,body,U,ai⟩:=aY.out pre ⟨(p, .small cc m),ay⟩ _ af aV;dsimp only [IA] at U;have aJ:=Zh ai;clear ai af d;rw [U];gi_wp2;refine(aJ).mono ?_;rintro e bf (⟨rfl,aj,J⟩|⟨rfl,al⟩)
     . have aK:=Zh (ag.kbE J ah)
       have aL:=Zh (ah.step J ag);have aM:=Zh aj;clear aj J;gi_wp2;go_roundw
       case rel=>exact⟨pre++ [⟨(p, .small cc m),ay.out⟩],i+1,next,by omega,by go_num,by trivial,hnx,Zh (by rw [aX.out];exact aw.out _ (.inr ⟨rfl,rfl⟩)),aK,aL,aM⟩
       case measure=>simp [intOf];omega
     . have aN:=Zh al
       clear al;gi_wp2;refine bodyPost_ret (results_none rfl _ _ _) rfl ?_;exact⟨⟨_,rfl⟩, .inr ⟨_,aW,aN⟩⟩
    |Bz ww=>
     obtain⟨aa,ab⟩:=aH;obtain⟨bs,bu⟩:=aU;obtain⟨nn,aO⟩:=Zx ((ww+65)/64);have bv:nn<=63:=(by omega);have ac:=(callsIn_wide (n:=7)).2 (HC H.hp p 2 nn ww aZ (by omega) (by omega) (aO▸aa) ab);have aI:=Zh ac;have a0:=Zh aO;clear ac aa ab aO;gi_wp2_with (refine⟨trivial, ?_⟩;gi_at_call 142;refine aI.mono ?_;rintro e w2 ⟨rfl,ae⟩);have d:Below wr.heap.size wr (w2.alloc (Obj.cells #[Value.int IntKind.i64 2,Value.int IntKind.i64 nn,Value.int IntKind.u64 ww] 165)):=ae.alloc ae.size _;have af:=Dr aB hj d;have ag:=Zh (H.below d);have ah:=Zh (HE.below am d);obtain⟨fn,tmps,assign,body,U,ai⟩:=aY.out pre ⟨(p, .Bz ww),ay⟩ _ af aV;dsimp only [IA] at U;rw [<-a0.out] at U;have aJ:=Zh ai;clear ai af d;rw [U];gi_wp2;refine(aJ).mono ?_;rintro e bf (⟨rfl,aj,J⟩|⟨rfl,al⟩)
     . have aK:=Zh (ag.kbE J ah)
       have aL:=Zh (ah.step J ag);have aM:=Zh aj;clear aj J;gi_wp2;go_roundw
       case rel=>exact⟨pre++ [⟨(p, .Bz ww),ay.out⟩],i+1,p+nn,by omega,by go_num,by go_num,by omega,Zh (by rw [aX.out];exact aw.out _ (.inl (by rw [a0.out];rfl))),aK,aL,aM⟩
       case measure=>simp [intOf];omega
     . have aN:=Zh al
       clear al;gi_wp2;refine bodyPost_ret (results_none rfl _ _ _) rfl ?_;exact⟨⟨_,rfl⟩, .inr ⟨_,aW,aN⟩⟩
  . have bg:=Zh I
    clear I;have aG:i=(runs L).length:=(by omega);subst aG;clear ao;gi_wp2;go_end0;exact⟨⟨_,rfl⟩, .inl ⟨_,bg.symm,hj⟩⟩
end Go.Proofs.YtiopopoohglepaaGreatDoor
namespace Go.Proofs.YtiopopoohglepaaGreatDoor
open Go.Proofs.Tryz
open Go.RowKit Go.Shelf
variable {a q:Nat}{mem:Nat->Nat}{w:World}
attribute [local go_sem] Oper.semAt_some Ea
theorem RX:Lay ([]:HL):=⟨List.Pairwise.nil,by simp⟩
theorem Nq(mem:Nat->Nat):Cy ([]:HL) mem:=by intro x hx;simp at hx
theorem SF{mb:Nat}{D:DW}(h:AW w a mb D [] q mem):
 Calls prog 65 #[.pointer (some ⟨a,0,none⟩)] w λe w' =>e= .returned (.slice none 0 0)/\Below w.heap.size w w' :=
 (O9 h).mono λe w' ⟨v,d,he,hp,O,I,J⟩=>by
  obtain⟨h1,U⟩:=JB h List.Pairwise.nil hp;have:d= []:=List.eq_nil_of_length_eq_zero h1;rw [I.2 this] at he;exact⟨he,J⟩
def Yor{P}(h:P:=by
 have I:=(V.cell (p:=⟨w.heap.size+1,0,none⟩) (Al d)).trans d;exact I):=h
theorem Ql{ha:Nat}{F:Nat->Prop}(h:Bl w ha a F [] q mem):
 Calls prog 66 #[.pointer (some ⟨ha,0,none⟩)] w λe w' =>e= .returned (.int .i64 0)/\Below w.heap.size w w' :=by
 obtain⟨⟨mb,D,k1,rfl⟩,ax,ay⟩:=h;refine(callsIn_wide (n:=9)).1 ?_;have hN:=Zh (λw' (az:Below w.heap.size w w')=>(callsIn_wide (n:=8)).2 (ED (k1.below az)));have aA:=Zl;have aB:=Zh k1;clear k1 ax ay;refine callsIn_of_wp_marks func66 rfl trivial ?_ rfl;simp only [ntmps66,List.size_toArray,List.length_cons,List.length_nil,Nat.reduceAdd,Nat.reduceSub,Array.replicate_succ,Array.replicate_zero,List.push_toArray,List.append_toArray,List.nil_append,List.cons_append];gi_wp2_with fail;have O:Below w.heap.size w ((w.alloc (Obj.cells #[Value.pointer (some { block:=ha,off:=0 })] 71)).alloc (Obj.cells #[Value.int IntKind.i64 0] 25)):=((Below.refl _ w).alloc (Nat.le_refl _) _).alloc (by simp) _;refine(hN _ O).mono ?_;rintro e w' ⟨rfl,rfl⟩;gi_wp2_with fail;have U:Below w.heap.size w (((w.alloc (Obj.cells #[Value.pointer (some { block:=ha,off:=0 })] 71)).alloc (Obj.cells #[Value.int IntKind.i64 0] 25)).alloc (Obj.cells #[Value.int IntKind.i64 0] 3)):=O.alloc (by simp;omega) _;have ah:(((w.alloc (Obj.cells #[Value.pointer (some { block:=ha,off:=0 })] 71)).alloc (Obj.cells #[Value.int IntKind.i64 0] 25)).alloc (Obj.cells #[Value.int IntKind.i64 0] 3)).cell? ⟨w.heap.size,0,none⟩=some (.pointer (some ⟨ha,0,none⟩)):=by go_simp
 have d:(((w.alloc (Obj.cells #[Value.pointer (some { block:=ha,off:=0 })] 71)).alloc (Obj.cells #[Value.int IntKind.i64 0] 25)).alloc (Obj.cells #[Value.int IntKind.i64 0] 3)).cell? ⟨w.heap.size+1,0,none⟩=some (.int .i64 0):=by go_simp
 have af:(((w.alloc (Obj.cells #[Value.pointer (some { block:=ha,off:=0 })] 71)).alloc (Obj.cells #[Value.int IntKind.i64 0] 25)).alloc (Obj.cells #[Value.int IntKind.i64 0] 3)).frozen? ⟨w.heap.size+1,0,none⟩=false:=by go_simp
 have Z:(((w.alloc (Obj.cells #[Value.pointer (some { block:=ha,off:=0 })] 71)).alloc (Obj.cells #[Value.int IntKind.i64 0] 25)).alloc (Obj.cells #[Value.int IntKind.i64 0] 3)).cell? ⟨w.heap.size+1+1,0,none⟩=some (.int .i64 0):=by go_simp
 generalize (((w.alloc (Obj.cells #[Value.pointer (some { block:=ha,off:=0 })] 71)).alloc (Obj.cells #[Value.int IntKind.i64 0] 25)).alloc (Obj.cells #[Value.int IntKind.i64 0] 3))=W0 at*;refine(aA _).mono ?_;rintro e w2 ⟨rfl,aa⟩;have V:Below W0.heap.size W0 w2:=by rw [aa];exact(Below.refl _ _).alloc (Nat.le_refl _) _
 have aC:w2.cell? ⟨W0.heap.size,0,none⟩=some (.pointer (some ⟨ha,0,none⟩)):=by rw [aa];go_simp
 have I:=U.trans (V.mono U.size);have am:=Zu;have ab:=Yor;have aD:=(V.frozen (p:=⟨w.heap.size+1,0,none⟩) (Al d)).trans af;have ag:=(V.cell (p:=⟨w.heap.size+1+1,0,none⟩) (Al Z)).trans Z;clear aa V ah d af Z O U hN;gi_wp2_with fail;have aj:=Zh (aB.below I)
 refine wpIn_rangeFunc_ownH (α:={z:Nat × Hd // z∈([]:HL)}) rfl (by omega) (gf:=141) (lb:= #[.pointer (some ⟨W0.heap.size,0,none⟩)]) rfl trivial (enters_of func141 (by kernel_rfl) rfl)
  (H3 aj RX (Nq _) aC (λ_=>False) (λ_ h=>h.elim) (λh=>h) (λh=>h) (λh=>h) (λ_ h=>h.elim))
  (λh k=>h.trans k) (λW l o aE _ aF h1 aG=>KB.putObj aE aF h1 aG) (Below.refl _ _) (λ_=>rfl)
  (λpre W=>Below w2.heap.size w2 W)
  (λaH pre W=>False)
  (λs A B row hs hg aI=>ownFrom_below (Nat.le_refl _) (by omega) s A B row hs hg aI)
  (λ_ _ _ _ _ hs _ _=>hs)
  (Below.refl _ _)
  (λx a' W=>False)
  (λ_ _ _ _ _ _ hs _ _=>hs)
  ?assign ?body ?done ?stop
 case assign=>
  rintro l pre ⟨x,hx⟩;simp at hx
 case body=>
  rintro l pre ⟨x,hx⟩;simp at hx
 case stop=>
  rintro D' aH pre W aJ aV aK;exact aK.elim
 case done=>
  rintro D' xs W aJ aL hi ac;have al:=ZW;have ae:=(hi.cell (p:=⟨w.heap.size+1,0,none⟩) (Al ab)).trans ab;have an:=(hi.cell (p:=⟨w.heap.size+1+1,0,none⟩) (Al ag)).trans ag;have ao:=(hi.frozen (p:=⟨w.heap.size+1,0,none⟩) (Al ab)).trans aD;have aq:=Zh (aj.kb (Cs:=λ_=>False) (KB.below hi) (λ_ h=>h.elim) (λh=>h) (λh=>h));have hs:=aq.hs;have aM:=λX:BL W=>X.cell al
  have aN:=λX:BL W=>X.cell an
  have aO:=λX:BL W=>X.cell hs
  have aP:=Zh (λX:BL W=>(callsIn_wide (n:=8)).2 (SF (aq.below X.h).sl));have aQ:=OM;have ar:=Zh (I.trans (hi.mono I.size));have aR:=(Array.getElem?_eq_some_iff.1 ac).1;clear aL hi;gi_wp2;refine EL (by kernel_rfl) aQ (by kernel_rfl) ?_
  repeat (gi_big_quiet_step ((gi_at_call 65;exact Fa (aP _))))
  refine wpQuietIn_nil ?_;rintro _ ⟨X,rfl⟩;have aS:=X.cell ae;have aW:X.W.frozen? ⟨w.heap.size+1,0,none⟩=false:=(X.frozen (p:=⟨w.heap.size+1,0,none⟩) (Al ae)).trans ao;have au:=(X.block aR).trans ac;have aT:=Zh (ar.trans (X.h.mono ar.size));generalize X.W=J at*;clear aM aN aO al ae an ao hs ac;have aU:((J.setCell ⟨w.heap.size+1,0,none⟩ (.int .i64 0)).putObj D' (.deferred none)).cell? ⟨w.heap.size+1,0,none⟩=some (.int .i64 0):=by
   have h1:(J.setCell ⟨w.heap.size+1,0,none⟩ (.int .i64 0)).cell? ⟨w.heap.size+1,0,none⟩=some (.int .i64 0):=World.cell?_setCell_same' _ _ _ (by rw [aS];rfl);exact cell_kept h1 (grownBy_putObj' _ D' (.deferred none)) (λr e=>by cases e;exact⟨_,(KeepsOthers.setCell J ⟨w.heap.size+1,0,none⟩ (.int .i64 0)).same D' _ au rfl,rfl⟩)
  have aw:=(KeepsOthers.setCell J ⟨w.heap.size+1,0,none⟩ (.int .i64 0)).same D' _ au rfl;gi_wp2;refine⟨by simp, .inl ⟨_,_,rfl,run_takeDeferred aw, ?_⟩⟩;refine⟨.int .i64 0, ?_,rfl,(aT.setCell (p:=⟨w.heap.size+1,0,none⟩) (by simp) _).trans (belowK_b (w:=w) (Nat.le_refl _) _ D' _ _ (by have:=I.size;omega) aw rfl rfl)⟩;simp [results,f66,go_sem,aU]
end Go.Proofs.YtiopopoohglepaaGreatDoor
namespace Go.Proofs.YtiopopoohglepaaGreatDoor
open Go.Proofs.Tryz
open Go.RowKit Go.Shelf
variable {h k last most t:Nat}{v:Value}{w w':World}
theorem Ry{a mb q:Nat}{D:DW}{mem:Nat->Nat}(h:AW w a mb D [] q mem)(O:Hc w)(U: ∀b,Bo a mb D b->1<b):
 Calls prog 29 #[.pointer (some ⟨a,0,none⟩)] w λe w' => ∃ha,e= .returned (.tuple #[.pointer (some ⟨ha,0,none⟩), .int .i64 0])/\Bl w' ha a (Bo a mb D) [] q mem/\w.heap.size<=ha/\Below w.heap.size w w' :=by
 have V:=Zh (UF h 0 (by omega) (by simp));have d:Below w.heap.size w (w.alloc (.cells #[.pointer (some ⟨a,0,none⟩)] 131)):=(Below.refl _ w).alloc (Nat.le_refl _) _;have Z:=h.lt (.inl rfl:Bo a mb D a);have I:Bl (w.alloc (.cells #[.pointer (some ⟨a,0,none⟩)] 131)) w.heap.size a (Bo a mb D) [] q mem:=by
  refine⟨⟨mb,D,⟨by go_simp,h.alloc _,λaa=>Nat.lt_irrefl _ (h.lt aa),O.below d (Nat.lt_trans (U a (.inl rfl)) Z),U⟩,rfl⟩,RX,Nq _⟩
 have ab:=Zh (Ql I);have ac:=Zh I;have ae:=Zh d;clear h O I d;go_enter func29,ntmps29;go_wp2_with fail;refine V.mono ?_;rintro e w' ⟨rfl,rfl⟩;go_wp2_with fail;refine ab.mono ?_;rintro e w2 ⟨rfl,J⟩;have af:=Zh (ae.trans (J.mono (by simp)));have ag:=Zh (ac.below J);clear J;go_wp2
 go_ret2
 exact⟨_,rfl,ag,Nat.le_refl _,af⟩
structure Sl where
 is:Nat
 gen:Nat
 addr:Nat
abbrev Sl.cells(s:Sl):List Value:= [.int .i64 s.is, .int .u32 s.gen, .int .i64 s.addr]
def BP(sl:List Sl):List Value:=sl.flatMap Sl.cells
structure Sl.Ok(last:Nat)(s:Sl):Prop where
 is:s.is<=2
 lo:1<=s.gen
 hi:s.gen<=last
 free:s.is=0->s.gen<last
 addr:s.addr<1099511627776
structure BV(w:World)(t:Nat)(v:Value)(most last:Nat)(sl:List Sl):Prop where
 c0:w.cell? ⟨t,0,none⟩=some (.int .i64 most)
 c1:w.cell? ⟨t,1,none⟩=some (.int .u32 last)
 c2:w.cell? ⟨t,2,none⟩=some v
 f2:w.frozen? ⟨t,2,none⟩=false
 row:w.ownsRow 0 182 3 v sl.length (BP sl)
 off:v.ownBlock≠some t
 m1:1<=most
 m2:most<=65536
 l1:1<=last
 l2:last<4294967296
 len:sl.length<=most
 ok: ∀s∈sl,s.Ok last
def A6(t:Nat)(v:Value)(b:Nat):Prop:=b=t\/v.ownBlock=some b
theorem HU(sl:List Sl):(BP sl).length=3*sl.length:=by
 induction sl with
 |nil=>rfl
 |cons s t ih=>simp only [BP,List.flatMap_cons,List.length_append,List.length_cons] at *; rw [ih];simp;omega
theorem Fw(sl:List Sl)(k:Nat)(d:k<sl.length)(j:Nat)(I:j<3):(BP sl)[3*k+j]? =(sl[k]).cells[j]? :=by
 induction sl generalizing k with
 |nil=>simp at d
 |cons s t ih=>
  cases k with
  |zero=>
   simp only [BP,List.flatMap_cons,Nat.mul_zero,Nat.zero_add,List.getElem_cons_zero];rw [List.getElem?_append_left (by simpa using I)]
  |succ k=>
   simp only [BP,List.flatMap_cons,List.getElem_cons_succ];rw [List.getElem?_append_right (by simp;omega)];rw [show 3*(k+1)+j-s.cells.length=3*k+j by simp;omega];exact ih k (by simpa using d)
theorem BV.Pe{sl:List Sl}(h:BV w t v most last sl): ∃A c,v= .slice A sl.length c:=by
 rcases h.row.2 with ⟨rfl,h0⟩|⟨g,cap,cur,rfl,_⟩
 . exact⟨none,0,by rw [h0]⟩
 . exact⟨_,_,rfl⟩
theorem BV.slot{sl:List Sl}(h:BV w t v most last sl)(J:k<sl.length):
 ∃g c,v= .slice (some ⟨g,0,none⟩) sl.length c/\g<w.heap.size/\w.cell? ⟨g,k*3,none⟩=some (.int .i64 (sl[k].is:Nat))/\w.cell? ⟨g,k*3+1,none⟩=some (.int .u32 (sl[k].gen:Nat))/\w.cell? ⟨g,k*3+2,none⟩=some (.int .i64 (sl[k].addr:Nat))/\
  w.frozen? ⟨g,k*3,none⟩=false/\w.frozen? ⟨g,k*3+1,none⟩=false/\w.frozen? ⟨g,k*3+2,none⟩=false/\w.ownsRow 0 182 3 (.slice (some ⟨g,0,none⟩) sl.length c) sl.length (BP sl):=by
 have d:=h.row;rcases h.row.2 with ⟨rfl,h0⟩|⟨g,cap,cur,rfl,U,hg,V⟩
 . omega
 . have I:=λj (O:j<3)=>Fw sl k J j O
   refine⟨g,cap,rfl,(Array.getElem?_eq_some_iff.1 hg).1, ?_, ?_, ?_,d.frozenAt _,d.frozenAt _,d.frozenAt _,d⟩
   . rw [d.cellAt _ (by omega),show k*3=3*k+0 by omega,I 0 (by omega)];rfl
   . rw [d.cellAt _ (by omega),show k*3+1=3*k+1 by omega,I 1 (by omega)];rfl
   . rw [d.cellAt _ (by omega),show k*3+2=3*k+2 by omega,I 2 (by omega)];rfl
theorem Lf{sl:List Sl}(h:BV w t v most last sl):Calls prog 106 #[.pointer (some ⟨t,0,none⟩)] w λe w' =>e= .returned (.bool false)/\w=w' :=by
 have h0:=h.c0;have hm:=h.m1;have d1:((most:Int)==0)=false:=by simp;omega
 clear h;go_enter func106,ntmps106;go_wp2;go_ret;exact⟨rfl,rfl⟩
theorem Ae1(g k:Nat)(hg:g<4294967296)(d:k<4294967296):bits BinOp.or IntKind.u64 ((g:Int)*4294967296) (k:Int)=((g*4294967296+k:Nat):Int):=by
 rw [show(g:Int)*4294967296=((g*4294967296:Nat):Int) by omega,bits_or_u64_nat _ _ (by omega) (by omega)];have:=Nat.shiftLeft_add_eq_or_of_lt (i:=32) (b:=k) (by omega) g;rw [Nat.shiftLeft_eq] at this;rw [show(2:Nat)^32=4294967296 by decide] at this;rw [this]
theorem XO(h:Nat)(hh:h<18446744073709551616):bits BinOp.and IntKind.u64 (h:Int) 4294967295=((h%4294967296:Nat):Int):=by
 have h1:(4294967295:Int)=((2^32-1:Nat):Int):=by decide
 rw [h1,bits_and_u64_nat _ _ hh (by decide),Nat.and_two_pow_sub_one_eq_mod]
def Bc(g k:Nat):Nat:=g*4294967296+(k+1)
theorem Rk{sl:List Sl}(h:BV w t v most last sl)(d:k<sl.length):Calls prog 107 #[.pointer (some ⟨t,0,none⟩), .int .i64 k] w λe w' =>e= .returned (.int .u64 (Bc sl[k].gen k:Nat))/\w=w' :=by
 have U:=h.c2;obtain⟨g,c,rfl,hg,V,s1,s2,_⟩:=h.slot d;have I:=h.ok _ (List.getElem_mem d);have Z:=I.hi;have aa:=h.l2;have hlen:=h.len;have ab:=h.m2;generalize J:sl[k].gen=gen at*;have O:Hid (bits BinOp.or IntKind.u64 ((gen:Int)*4294967296) ((k:Int)+1)=((Bc gen k:Nat):Int)):=Zh (by
  have:=Ae1 gen (k+1) (by omega) (by omega);rw [Int.natCast_add] at this;exact this)
 clear h I J;go_enter func107,ntmps107;go_wp2;go_ret;exact⟨by rw [<-O.out];rfl,rfl⟩
structure Names(sl:List Sl)(h k:Nat):Prop where
 lt:k<sl.length
 is: ∀hk:k<sl.length,sl[k].is=1
 gen: ∀hk:k<sl.length,h=Bc sl[k].gen k
def MQ(sl:List Sl)(h:Nat):Prop:= ∀k,¬Names sl h k
theorem UW{sl:List Sl}(d:BV w t v most last sl)(I:Names sl h k):
 Calls prog 131 #[.pointer (some ⟨t,0,none⟩), .int .u64 h] w λe w' => ∃g,v.ownBlock=some g/\e= .returned (.tuple #[.pointer (some ⟨g,k*3,none⟩), .int .i64 0])/\w=w' :=by
 have J:=I.lt;have ae:=d.c2;have hN:=Zh (Lf d);obtain⟨g,c,rfl,hg,ab,s1,s2,_⟩:=d.slot J;have O:=d.ok _ (List.getElem_mem J);have af:=O.hi;have ag:=d.l2;have hlen:=d.len;have ah:=d.m2;have U:=I.is J;have V:=I.gen J;rw [U] at ab;generalize ac:sl[k].gen=gen at*;unfold Bc at V;have Z:=Zh (XO h (by omega));have aa:h%4294967296=k+1:=by omega
 have hdiv:Hid ((h:Int)/4294967296=(gen:Int)):=Zh (by omega);rw [aa] at Z;clear d O ac V I U aa;go_enter func131,ntmps131;go_wp2_with fail;refine hN.mono ?_;rintro e w' ⟨rfl,rfl⟩;have ai :=Z.out;have aj :=hdiv.out;go_wp2_with fail
 go_ret2
 exact⟨g,rfl,rfl,rfl⟩
def Ycr{P}(h:P:=by
 have d:=Zh J;clear I U O J;go_enter func131,ntmps131;go_wp2_with fail;refine hN.mono ?_;rintro e w' ⟨rfl,rfl⟩;have V :=d.out;go_wp2_with fail
 go_ret2
 exact⟨rfl,rfl⟩):=h
theorem Ya{sl:List Sl}(I:BV w t v most last sl)(hh:h<18446744073709551616)(U:MQ sl h):
 Calls prog 131 #[.pointer (some ⟨t,0,none⟩), .int .u64 h] w λe w' =>e= .returned (.tuple #[.pointer none, .int .i64 7])/\w=w' :=by
 have al:=I.c2;have hN:=Zh (Lf I);obtain⟨A,c,rfl⟩:=I.Pe;have hlen:=I.len;have am:=I.m2;have J:=XO h hh;obtain⟨j,O⟩: ∃j,h%4294967296=j:=⟨_,rfl⟩;have an:j<4294967296:=by omega
 rw [O] at J
 cases j with
 |zero=>
  exact Ycr
 |succ k=>
  by_cases Z:k<sl.length
  . obtain⟨g,ao,ae,hg,af,s1,s2,_⟩:=I.slot Z
    cases ae
    have aa:=I.ok _ (List.getElem_mem Z);have ag:=aa.hi;have ah:=aa.is;have V:sl[k].is≠1\/(sl[k].is=1/\sl[k].gen≠h/4294967296):=by
     by_cases h1:sl[k].is=1
     . refine .inr ⟨h1,λaq=>U k ⟨Z,λ_=>h1,λ_=> ?_⟩⟩
       unfold Bc;omega
     . exact .inl h1
    have ai:=Zh J;obtain⟨is,ab⟩: ∃is,sl[k].is=is:=⟨_,rfl⟩;obtain⟨gen,ac⟩: ∃gen,sl[k].gen=gen:=⟨_,rfl⟩;rw [ab] at af V ah;rw [ac] at s1 V ag;obtain⟨d,hd⟩: ∃d,h/4294967296=d:=⟨_,rfl⟩;rw [hd] at V;have ar:d<4294967296:=(by omega);have aj:Hid ((h:Int)/4294967296=(d:Int)):=Zh (by omega);clear I U O aa ab ac J hd s2;rcases V with h1|⟨rfl,h1⟩
    focus
     have d1:((is:Int) !=1)=true:=by simp;omega
    rotate_left
    focus
     have d1:((gen:Int) !=(d:Int))=true:=by simp;omega
    all_goals
     clear h1;go_enter func131,ntmps131;go_wp2_with fail;refine hN.mono ?_;rintro e w' ⟨rfl,rfl⟩;have au :=ai.out;have aw :=aj.out;go_wp2_with fail
     go_ret2
     exact⟨rfl,rfl⟩
  . exact Ycr
theorem FY(sl:List Sl)(i:Nat):(BP sl)[i]? =(sl[i/3]?).bind (λs=>s.cells[i%3]?):=by
 by_cases h:i/3<sl.length
 . rw [List.getElem?_eq_getElem h]
   have:=Fw sl (i/3) h (i%3) (Nat.mod_lt _ (by omega));rw [show 3*(i/3)+i%3=i by omega] at this;exact this
 . have h1:sl[i/3]? =none:=List.getElem?_eq_none (by omega)
   have d:(BP sl)[i]? =none:=List.getElem?_eq_none (by rw [HU];omega);rw [h1,d];rfl
theorem OE(sl:List Sl)(k:Nat)(d:k<sl.length)(n:Nat):BP (sl.set k { sl[k] with is:=n })=(BP sl).set (k*3) (.int .i64 n):=by
 apply List.ext_getElem?;intro i;rw [FY,List.getElem?_set,List.getElem?_set,FY,HU];by_cases h1:k=i/3
 . rw [if_pos h1]
   by_cases I:k*3=i
   . rw [if_pos I,if_pos d,if_pos (by omega)]
     have:i%3=0:=(by omega);rw [this];rfl
   . rw [if_neg I,if_pos d]
     subst h1;rw [List.getElem?_eq_getElem d];have:i%3=1\/i%3=2:=(by omega);rcases this with J|J<;>rw [J]<;>rfl
 . rw [if_neg h1,if_neg (by omega)]
theorem ON(sl:List Sl)(k:Nat)(I:k<sl.length)(s:Sl):BP (sl.set k s)=(((BP sl).set (k*3) (.int .i64 s.is)).set (k*3+1) (.int .u32 s.gen)).set (k*3+2) (.int .i64 s.addr):=by
 apply List.ext_getElem?;intro i;rw [FY,List.getElem?_set,List.getElem?_set,List.getElem?_set,List.getElem?_set,FY,List.length_set,List.length_set,HU];by_cases h1:k=i/3
 . rw [if_pos h1,if_pos I]
   have:i%3=0\/i%3=1\/i%3=2:=(by omega);rcases this with d|d|d
   . rw [if_neg (by omega),if_neg (by omega),if_pos (by omega),if_pos (by omega),d];rfl
   . rw [if_neg (by omega),if_pos (by omega),if_pos (by omega),d];rfl
   . rw [if_pos (by omega),if_pos (by omega),d];rfl
 . rw [if_neg h1,if_neg (by omega),if_neg (by omega),if_neg (by omega)]
theorem Ot(sl:List Sl)(s:Sl):BP (sl++ [s])=BP sl++s.cells:=by simp [BP]
theorem BV.same{sl:List Sl}(h:BV w t v most last sl)(d: ∀b,A6 t v b->w'.heap[b]? =w.heap[b]?):BV w' t v most last sl where
 c0:=(World.cell?_of_block (a:=⟨t,0,none⟩) (d t (.inl rfl))).trans h.c0
 c1:=(World.cell?_of_block (a:=⟨t,1,none⟩) (d t (.inl rfl))).trans h.c1
 c2:=(World.cell?_of_block (a:=⟨t,2,none⟩) (d t (.inl rfl))).trans h.c2
 f2:=(World.frozen?_of_block (a:=⟨t,2,none⟩) (d t (.inl rfl))).trans h.f2
 row:=by
  refine⟨h.row.1, ?_⟩;rcases h.row.2 with h1|⟨g,cap,cur,h1,I,J,O⟩
  . exact .inl h1
  . exact .inr ⟨g,cap,cur,h1,I,(d g (.inr (by rw [h1];rfl))).trans J,O⟩
 off:=h.off
 m1:=h.m1
 m2:=h.m2
 l1:=h.l1
 l2:=h.l2
 len:=h.len
 ok:=h.ok
theorem BV.lt{sl:List Sl}(h:BV w t v most last sl){b:Nat}(d:A6 t v b):b<w.heap.size:=by
 rcases d with rfl|d
 . exact Al (a:=⟨_,0,none⟩) h.c0
 . exact(h.row.lt b d).2
theorem BV.below{sl:List Sl}(h:BV w t v most last sl)(d:Below w.heap.size w w'):BV w' t v most last sl:=
 h.same λb I=>d.block b (h.lt I)
theorem BV.Ar{sl:List Sl}{G G' :Nat->Prop}(h:BV w t v most last sl)(I:Ad w G w' G')(J: ∀b,A6 t v b-> ¬G b):BV w' t v most last sl:=
 h.same λb d=>I.keep b (h.lt d) (J b d)
theorem BV.XE{g c:Nat}{sl:List Sl}(h:BV w t (.slice (some ⟨g,0,none⟩) sl.length c) most last sl)(I:k<sl.length)(n:Nat)(J:n<=2)(O:n=0->sl[k].gen<last)
 (d:w'.heap[t]? =w.heap[t]?) (U:w'.ownsRow 0 182 3 (.slice (some ⟨g,0,none⟩) sl.length c) sl.length ((BP sl).set (k*3) (.int .i64 n))):
 BV w' t (.slice (some ⟨g,0,none⟩) sl.length c) most last (sl.set k { sl[k] with is:=n }):=by
 refine⟨?_, ?_, ?_, ?_, ?_,h.off,h.m1,h.m2,h.l1,h.l2,by rw [List.length_set];exact h.len, ?_⟩
 . exact(World.cell?_of_block (a:=⟨t,0,none⟩) d).trans h.c0
 . exact(World.cell?_of_block (a:=⟨t,1,none⟩) d).trans h.c1
 . exact(World.cell?_of_block (a:=⟨t,2,none⟩) d).trans h.c2
 . exact(World.frozen?_of_block (a:=⟨t,2,none⟩) d).trans h.f2
 . rw [List.length_set,OE sl k I n]
   exact U
 . intro s hs
   rcases List.mem_or_eq_of_mem_set hs with h1|h1
   . exact h.ok s h1
   . subst h1
     have:=h.ok _ (List.getElem_mem I);exact⟨J,this.lo,this.hi,O,this.addr⟩
theorem Gg{base:Nat}{e:TypeId}{size:Nat}{n:Nat}{xs:List Value}(h:w.ownsRow base e size v n xs)(d:Nat):(w.drewN d).ownsRow base e size v n xs:=h
theorem BK{F:Nat->Prop}(p:Addr)(v:Value)(d:F p.block):Ad w F (w.setCell p v) F:=
 ⟨rfl,rfl,rfl,by simp,λk _ I=>Below.heap_setCell _ _ _ k (λe=>I (e▸d)),λ_ h=> .inl h⟩
theorem Yp{sl:List Sl}(d:BV w t v most last sl)(I:Names sl h k)(O:k<sl.length):
 Calls prog 130 #[.pointer (some ⟨t,0,none⟩), .int .u64 h] w λe w' =>e= .returned (.tuple #[.int .i64 (sl[k].addr:Nat), .int .i64 0])/\w=w' :=by
 have U:=Zh (UW d I);obtain⟨g,c,rfl,hg,V,s1,s2,_⟩:=d.slot O;generalize sl[k].addr=addr at*;clear d I;go_enter func130,ntmps130;go_wp2_with fail;refine U.mono ?_;rintro e w' ⟨Z,J,rfl,rfl⟩;simp only [Value.ownBlock,Option.some.injEq] at J;subst J;go_wp2
 go_ret2
 exact⟨rfl,rfl⟩
def Yfd{P}(h:P:=by
 go_wp2_with fail;refine d.mono ?_;rintro e w' ⟨rfl,rfl⟩;go_wp2
 go_ret2
 exact⟨rfl,rfl⟩):=h
theorem Vy{sl:List Sl}(I:BV w t v most last sl)(hh:h<18446744073709551616)(J:MQ sl h):
 Calls prog 130 #[.pointer (some ⟨t,0,none⟩), .int .u64 h] w λe w' =>e= .returned (.tuple #[.int .i64 0, .int .i64 7])/\w=w' :=by
 have d:=Zh (Ya I hh J);clear I J hh;go_enter func130,ntmps130;exact Yfd
def DZ(gen last:Nat):Nat:=if gen=last then 2 else 0
theorem Ri{sl:List Sl}(d:BV w t v most last sl)(ab:Names sl h k)(U:k<sl.length):
 Calls prog 80 #[.pointer (some ⟨t,0,none⟩), .int .u64 h] w λe w' =>e= .returned (.int .i64 0)/\BV w' t v most last (sl.set k { sl[k] with is:=DZ sl[k].gen last })/\Ad w (A6 t v) w' (A6 t v):=by
 have ac:=Zh (UW d ab);obtain⟨g,c,rfl,hg,ai,s1,s2,f0,f1,f2,_⟩:=d.slot U;have aj:=d.c1;have ID:g≠t:=λe=>d.off (by rw [e];rfl)
 have V:=Zh d;have af:=(d.ok _ (List.getElem_mem U)).hi;have Z:A6 t (.slice (some ⟨g,0,none⟩) sl.length c) g:= .inr rfl;obtain⟨gen,aa⟩: ∃gen,sl[k].gen=gen:=⟨_,rfl⟩;rw [aa] at s1 af ⊢;have ag:=Zh aa;clear d ab aa s2;by_cases I:gen=last
 . have d1:((gen:Int)==(last:Int))=true:=by simp [I]
   have J:DZ gen last=2:=if_pos I;rw [J];have ae:=Zh I;clear I J;go_enter func80,ntmps80;go_wp2_with fail;refine ac.mono ?_;rintro e w' ⟨ah,O,rfl,rfl⟩;simp only [Value.ownBlock,Option.some.injEq] at O;subst O;go_wp2_with fail
   go_quiet (fail)
   go_wp2;go_ret;refine⟨rfl, ?_,((BK _ _ Z).trans (.below (AL _ _))).trans (BK _ _ Z)⟩;have r1:=(V.row.stored (k*3) (.int .i64 0)).1;have r2:=((Gg r1 nq).stored (k*3) (.int .i64 2)).1;rw [List.set_set] at r2;exact V.XE U 2 (by omega) (λe=>by omega) ((Below.heap_setCell _ _ _ t (Ne.symm ID)).trans (Below.heap_setCell w _ _ t (Ne.symm ID))) r2
 . have d1:((gen:Int)==(last:Int))=false:=by simp;omega
   have J:DZ gen last=0:=if_neg I;rw [J];have ae:=Zh I;clear I J;go_enter func80,ntmps80;go_wp2_with fail;refine ac.mono ?_;rintro e w' ⟨ah,O,rfl,rfl⟩;simp only [Value.ownBlock,Option.some.injEq] at O;subst O;go_wp2_with fail
   go_quiet (fail)
   go_wp2;go_ret;refine⟨rfl, ?_,(BK _ _ Z).trans (.below (AL _ _))⟩;have r1:=(V.row.stored (k*3) (.int .i64 0)).1;exact V.XE U 0 (by omega) (λe=>by rw [ag.out];have:=ae.out;omega) (Below.heap_setCell w _ _ t (Ne.symm ID)) (Gg r1 nq)
theorem Xh(most last:Nat)(h1:1<=most)(d:most<=65536)(I:1<=last)(J:last<4294967296)(w:World):
 Calls prog 28 #[.int .i64 most, .int .u32 last] w λe w' => ∃t,e= .returned (.tuple #[.pointer (some ⟨t,0,none⟩), .int .i64 0])/\BV w' t (.slice none 0 0) most last []/\w.heap.size<=t/\Below w.heap.size w w' :=by
 have d1:decide ((most:Int)<1)=false:=by simp;omega
 have d2:decide ((65536:Int)<(most:Int))=false:=by simp;omega
 have d3:decide ((last:Int)<1)=false:=by simp;omega
 go_enter func28,ntmps28;go_wp2
 go_ret2
 refine⟨_,rfl,⟨?_, ?_, ?_, ?_,World.ownsRow_nil _ _ _ _,by simp [Value.ownBlock],h1,d,I,J,by simp,by simp⟩,Nat.le_refl _,(Below.refl _ w).alloc (Nat.le_refl _) _⟩<;>go_simp
