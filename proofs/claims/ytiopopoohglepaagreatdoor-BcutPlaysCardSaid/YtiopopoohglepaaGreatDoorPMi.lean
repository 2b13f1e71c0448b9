/- A part. -/
import Derived.Test.YtiopopoohglepaaGreatDoorPMh
set_option linter.all false
set_option maxRecDepth 100000
set_option maxHeartbeats 4000000
namespace Go.Proofs.YtiopopoohglepaaGreatDoor
open Go.Proofs.Tryz
open Go.RowKit Go.Shelf
variable {A:Option Addr}{B a base c f ha i k m mb n n0 p q:Nat}{F:Nat->Prop}{W W' w w':World}{e:TypeId}{mem:Nat->Nat}{r:Addr}{xs:List Value}
theorem BD.perm{D:DW}{ps I :List Nat}(h:BD w ha a mb D ps q mem)(hp:ps.Perm I):BD w ha a mb D I q mem:=
 ⟨h.hs,h.sl.perm hp,h.off,h.tab,h.Fw⟩
structure Bm(w:World)(ha a:Nat)(F:Nat->Prop)(L:HL)(q:Nat)(mem:Nat->Nat):Prop where
 at' : ∃mb D,BD w ha a mb D (runs L) q mem/\F=Bn a mb D
 lay:Lay L
 AgN:Cz L mem
theorem Bm.below{L:HL}(h:Bm w ha a F L q mem)(I:Below w.heap.size w w'):Bm w' ha a F L q mem:=by
 obtain⟨⟨mb,D,h1,J⟩,O,U⟩:=h;exact⟨⟨mb,D,h1.below I,J⟩,O,U⟩
theorem Bm.lt{L:HL}(h:Bm w ha a F L q mem){b:Nat}(I:F b):b<w.heap.size:=by
 obtain⟨⟨mb,D,h1,rfl⟩,J,O⟩:=h;exact h1.sl.lt I
theorem Bm.off{L:HL}(h:Bm w ha a F L q mem): ¬F ha/\ha<w.heap.size/\F a/\ ∀b,F b->1<b:=by
 obtain⟨⟨mb,D,h1,rfl⟩,I,J⟩:=h;exact⟨h1.off,Am h1.hs, .inl rfl,h1.Fw⟩
theorem Bm.Aq{G G':Nat->Prop}{L:HL}(h:Bm w ha a F L q mem)(I:Ad w G w' G')(O: ∀b,F b-> ¬G b)(U: ¬G ha)(V: ¬G 1):Bm w' ha a F L q mem:=by
 obtain⟨⟨mb,D,h1,rfl⟩,Z,aa⟩:=h;refine⟨⟨mb,D, ?_,rfl⟩,Z,aa⟩;have ab:=Nat.lt_trans (h1.Fw a (.inl rfl)) (h1.sl.lt (.inl rfl))
 exact⟨(World.cell?_of_block (a:=⟨ha,0,none⟩) (I.keep ha (Am h1.hs) U)).trans h1.hs,h1.sl.same (λb J=>I.keep b (h1.sl.lt J) (O b J)),h1.off,
  λj ac=>(World.cell?_of_block (a:=⟨1,j,none⟩) (I.keep _ ab V)).trans (h1.tab j ac),h1.Fw⟩
theorem NM{L:HL}(h:Bm w ha a F L q mem){b:Nat × Nat}(I:b∈blocks L)(x:Nat)(h1:b.1<=x)(J:x<b.1+b.2):
 Calls prog 53 #[.pointer (some ⟨a,0,none⟩), .int .i64 x] w λe w' =>e= .returned (.tuple #[.int .u64 (mem x:Nat), .int .i64 0])/\w=w' :=by
 obtain⟨⟨mb,D,k1,rfl⟩,O,U⟩:=h;exact NH k1.sl x (GZ O I h1 J)
theorem LD{L:HL}(h:Bm w ha a F L q mem){b:Nat × Nat}(J:b∈blocks L)(x v:Nat)(h1:b.1<=x)(O:x<b.1+b.2)(V:v<18446744073709551616):
 Calls prog 58 #[.pointer (some ⟨a,0,none⟩), .int .i64 x, .int .u64 v] w λe w' =>e= .returned (.int .i64 0)/\Bm w' ha a F L q (B7 mem x v)/\Ad w F w' F:=by
 obtain⟨⟨mb,D,k1,rfl⟩,I,Z⟩:=h;refine(Jk k1.sl x v (GZ I J h1 O) V).mono ?_;rintro e w' ⟨rfl,aa,ab⟩;have U:=Dh (a:=a) (mb:=mb) aa;exact⟨rfl,⟨⟨mb,D,k1.Aq ab U,rfl⟩,I,Z.write I J h1 O⟩,U⟩
theorem Ga(L1 L2:HL)(x:Nat × Hd):(runs (L1++x::L2)).Perm (List.range' x.1 x.2.len++runs (L1++L2)):=by
 simp only [runs,List.flatMap_append,List.flatMap_cons];exact Yfn
theorem TN{α:Type}{x:α}{l:List α}(h:x∈l): ∃l1 l2,l=l1++x::l2:=List.append_of_mem h
theorem Cz.other{L L' :HL}{mem':Nat->Nat}(h:Cz L mem)(hs: ∀x∈L',x∈L/\mem' (64*x.1)=mem (64*x.1)/\mem' (64*x.1+1)=mem (64*x.1+1)):Cz L' mem' :=by
 intro x hx;obtain⟨h1,I,J⟩:=hs x hx;have:=h x h1;obtain⟨p,hd⟩:=x
 cases hd<;>simp only at this I J ⊢ <;>rw [I,J]<;>exact this
theorem Nw{L1 L2:HL}{x y:Nat × Hd}(h:Lay (L1++x::L2))(J:y∈L1++L2):y.1≠x.1:=by
 have I:=h.CY;rw [List.pairwise_append,List.pairwise_cons] at I;obtain⟨r1,⟨r2,r3⟩,O⟩:=I;rcases List.mem_append.1 J with h1|h1
 . have:=O y h1 x List.mem_cons_self
   have:=y.2.C6;omega
 . have:=r2 y h1
   have:=x.2.C6;omega
def Ybv{P}(h:P:=by
 rcases List.mem_append.1 hx with I|I
 . exact List.mem_append_left _ I
 . exact List.mem_append_right _ (List.mem_cons_of_mem _ I)):=h
def Ygk{P}(h:P:=by
 rw [if_neg (by omega),if_pos trivial,if_pos trivial];exact⟨rfl,rfl⟩):=h
theorem QA{L1 L2:HL}(O:Lay (L1++(p, .small c m)::L2))(h:Cz (L1++(p, .small c m)::L2) mem):
 Cz (L1++L2) (Fg mem p c m k)/\Cz (L1++(p, .small c (m ^^^ 2^k))::L2) (Fg mem p c m k):=by
 have h1:Cz (L1++L2) (Fg mem p c m k):=by
  refine h.other λx hx=> ?_
  have J:=Nw O hx;refine⟨?_, ?_, ?_⟩
  . exact Ybv
  . simp only [Fg,B7];rw [if_neg (by omega),if_neg (by simp only at J;omega)]
  . simp only [Fg,B7];rw [if_neg (by simp only at J;omega),if_neg (by omega)]
 refine⟨h1,λx hx=> ?_⟩;rcases List.mem_append.1 hx with I|I
 . exact h1 x (List.mem_append_left _ I)
 . rcases List.mem_cons.1 I with rfl|U
   . simp only [Fg,B7]
     exact Ygk
   . exact h1 x (List.mem_append_right _ U)
theorem NC{L:HL}(I:Lay L)(hx:(p,Hd.small c m)∈L){b:Nat × Nat}(J:b∈blocks L)(h1:b.1<=i)(O:i<b.1+b.2):Fg mem p c m k i=mem i:=by
 have:=Gy I J hx h1 O;simp only at this;simp only [Fg,B7];rw [if_neg this.2,if_neg this.1]
structure T8(L:HL)(mem:Nat->Nat)(b:Nat × Nat)(L' :HL)(mem' :Nat->Nat):Prop where
 perm:(blocks L).Perm (b::blocks L')
 Cb:(runs L').length<=(runs L).length
 same: ∀c∈blocks L',∀i,c.1<=i->i<c.1+c.2->mem' i=mem i
def OT{P}(h:P:=by
 have I:=Zh au;have J:=Zh ar;have O:=Zh aK;exact And.intro I (And.intro J O)):=h
theorem Ru{L:HL}(h:Bm w ha a F L q mem)(b:Nat × Nat)(aC:b∈blocks L):
 Calls prog 56 #[.pointer (some ⟨ha,0,none⟩), .int .i64 b.1] w λe w' => ∃F' L' mem',e= .returned (.int .i64 0)/\Bm w' ha a F' L' q mem' /\Ad w F w' F' /\T8 L mem b L' mem' :=by
 obtain⟨y,ac,an⟩:=Ey.1 aC;obtain⟨⟨mb,D,k1,rfl⟩,ai,aj⟩:=h;have hN:=Zh (EF k1);have ae:=Zh (KX k1 ai aj y ac b an);obtain⟨L1,L2,rfl⟩:=TN ac;have aD:=ai.ok y ac;have ao:=aj y ac;have aE:=Zh k1;have Z :=Zh ai;have aF:=Zh aj;have aG:=Zh an;clear k1 ai aj aC an ac;obtain⟨p,hd⟩:=y
 cases hd with
 |Bx ww=>
  have au:b=(64*p+2,ww):=by
   have:=aG.out
   simpa [A8] using this
  subst au;obtain⟨be,bf⟩:=aD;have al:Hid (∀v,LL (p,Hd.Bx ww) (64*p+2) v->v= .tuple #[.int .i64 p, .int .i64 0,Is (.Bx ww), .bool true]):=Zh (λv O=>O.2);have aa:=Zh (Jd (.Bx ww));simp only [Hu,Hp,Hi] at aa;have hlen:(Hd.Bx ww).len=(ww+65)/64:=rfl;have J:=Zh (Ga L1 L2 (p,Hd.Bx ww));obtain⟨nn,aq⟩:=Zx ((ww+65)/64);rw [<-aq] at aa;simp only [hlen,<-aq] at J;have aW:1<=nn/\nn<=63:=by omega
  obtain⟨aX,bg⟩:=aW;clear hlen aq ao;go_enter func56,ntmps56;go_wp2_with fail;refine hN.mono ?_;rintro e w' ⟨rfl,rfl⟩;go_wp2_with fail;rw [show((64*(p:Int)+2))=((64*p+2:Nat):Int) by push_cast;rfl];refine ae.mono ?_;rintro e w1 ⟨v,rfl,O,U⟩;obtain rfl:=al.out v O;rw [aa.out];go_wp2_with fail;have I:Below w.heap.size w (w1.alloc (Obj.cells #[Value.int IntKind.i64 2,Value.int IntKind.i64 nn,Value.int IntKind.u64 ww] 165)):=U.alloc U.size _;have aH:(w1.alloc (Obj.cells #[Value.int IntKind.i64 2,Value.int IntKind.i64 nn,Value.int IntKind.u64 ww] 165)).cell? ⟨w1.heap.size,1,none⟩=some (.int .i64 nn):=by go_simp
  have am:=Zh (aE.below I);have aw:=Zf;clear U I O ae;generalize (w1.alloc (Obj.cells #[Value.int IntKind.i64 2,Value.int IntKind.i64 nn,Value.int IntKind.u64 ww] 165))=W1 at*;have aI:=am.hs;have aY:=λX:BK W1=>X.cell aI
  have aZ:=λX:BK W1=>X.cell aH
  refine C2 7 (by kernel_rfl) (by kernel_rfl) ?_;simp only [List.take_succ_cons,List.take_zero,List.drop_succ_cons,List.drop_zero]
  repeat (go_big_quiet_step (fail))
  refine wpQuiet_nil ?_;rintro _ ⟨X,rfl⟩;have aJ:=Zh ((am.below X.h).perm J);have a0:=Zh (aw.trans (.below X.h));generalize X.W=bh at*;clear aY aZ aI aH;go_wp2_with fail;refine(Md (ps:=runs (L1++L2)) p nn (h:=aJ.sl) aX (by omega)).mono ?_;rintro e a1 ⟨D',rfl,aL,aM⟩;have t6:=SG (a:=a) aM;have a2:=Zh (aJ.Aq aL t6);have a3:=Zh (a0.trans t6);clear aL aM t6;go_wp2;go_ret;refine⟨_,L1++L2,mem,rfl,⟨⟨mb,D',a2,rfl⟩,PU Z,aF.other (λx hx=>⟨?_,rfl,rfl⟩)⟩,a3,⟨?_, ?_,λ_ _ _ _ _=>rfl⟩⟩
  . exact Ybv
  . exact FE L1 L2 (p, .Bx ww)
  . have:=J.length_eq
    rw [List.length_append] at this;omega
 |small c m=>
  obtain⟨k,ab,V,au⟩: ∃k,k<AY c/\m.testBit k=true/\b=(64*p+2+k*sz c,sz c):=by
   have:=aG.out;simp only [A8,List.mem_map] at this;obtain⟨k,h1,aN⟩:=this;rw [FV] at h1;exact⟨k,h1.1,h1.2,aN.symm⟩
  have al:Hid (∀v,LL (p,Hd.small c m) b.1 v->v= .tuple #[.int .i64 p, .int .i64 (k:Nat),Is (.small c m), .bool true]):=Zh (λv O=>by
   obtain⟨k',h1,aN,af,a4⟩:=O;have:k' =k:=by
    rw [au] at af;simp only at af;have a5:k' *sz c=k*sz c:=(by omega);exact Nat.eq_of_mul_eq_mul_right (by have:=QE c;omega) a5
   subst this;exact a4)
  obtain⟨aO,a6,aP⟩:=aD;simp only at ao;obtain⟨ar,aK⟩:=ao;have aa:=Zh (Jd (.small c m));simp only [Hu,Hp,Hi] at aa;have hlen:(Hd.small c m).len=1:=rfl;have J:=Ga L1 L2 (p,Hd.small c m);simp only [hlen,List.range'_one,List.singleton_append] at J;obtain⟨ax,ay,aQ⟩:=EA;obtain⟨a7,a8,a9⟩:=OT;have ba:=Zh aP;obtain⟨addr,bi⟩:=b;dsimp only at al ae ⊢;clear hlen J ab V au ar aK a6 aP;go_enter func56,ntmps56;go_wp2_with fail;refine hN.mono ?_;rintro e w' ⟨rfl,rfl⟩;go_wp2_with fail;refine ae.mono ?_;rintro e w1 ⟨v,rfl,O,U⟩;obtain rfl:=al.out v O;rw [aa.out];go_wp2_with fail;have I:Below w.heap.size w (w1.alloc (Obj.cells #[Value.int IntKind.i64 1,Value.int IntKind.i64 c,Value.int IntKind.u64 m] 165)):=U.alloc U.size _;have am:=Zh ((aE.below I).perm ax);have aw:=Zf;clear U I O ae;generalize (w1.alloc (Obj.cells #[Value.int IntKind.i64 1,Value.int IntKind.i64 c,Value.int IntKind.u64 m] 165))=W1 at*;refine(Xj p c m k (h:=am.out) aO ay aQ a8 a9).mono ?_;rintro e a1 ⟨rfl,D',af,t3⟩;have aR:=Zh af;have aS:=Zh (aw.trans t3);clear af t3;go_wp2;go_ret;have aT:=QA (k:=k) Z aF.out;have aU:(p,Hd.small c m)∈L1++(p,Hd.small c m)::L2:=by simp
  have bb:=a7.out;have ag:=O1 (L1:=L1) (L2:=L2) (p:=p) ay aQ.out;have bc:=ax.length_eq;rw [<-bb] at ag;by_cases h0:m ^^^ 2^k=0
  . have ah:=aR.out
    rw [if_pos h0] at ah;rw [h0] at ag;have aV:=ag.trans ((GR L1 L2 p c).cons _);refine⟨_,L1++L2,_,rfl,⟨⟨mb,D',ah,rfl⟩,PU Z,aT.1⟩,aS,⟨aV, ?_, ?_⟩⟩
    . rw [bc];simp
    . intro b' az i aA aB
      exact NC Z aU (aV.mem_iff.2 (List.mem_cons_of_mem _ az)) aA aB
  . have ah:=aR.out
    rw [if_neg h0] at ah;have bd :(Hd.small c (m ^^^ 2^k)).Ok:=⟨aO,h0,V0 ba ay⟩;refine⟨_,L1++(p, .small c (m ^^^ 2^k))::L2,_,rfl,⟨⟨mb,D',ah.perm ?_,rfl⟩,Pv Z bd rfl,aT.2⟩,aS,⟨ag, ?_, ?_⟩⟩
    . rw [HR (p:=p) (hd:=Hd.small c m) (hd' :=Hd.small c (m ^^^ 2^k)) rfl]
      exact ax.symm
    . rw [HR (p:=p) (hd:=Hd.small c m) (hd' :=Hd.small c (m ^^^ 2^k)) rfl]
      exact Nat.le_refl _
    . intro b' az i aA aB
      exact NC Z aU (ag.mem_iff.2 (List.mem_cons_of_mem _ az)) aA aB
def Du(n:Nat):Nat:=if n<=28 then sz (cls n) else n
def CD(n:Nat):Nat:=if n<=28 then 1 else (n+65)/64
theorem LC(n:Nat)(h:n<=28):cls n<8/\n<=sz (cls n):=by
 unfold cls
 (repeat' split)<;>simp [sz]<;>omega
theorem Fv(n:Nat):n<=Du n:=by
 unfold Du
 split
 . exact(LC n (by assumption)).2
 . exact Nat.le_refl _
theorem G5{L:HL}(h:Lay L):(blocks L).Nodup:=by
 refine List.Pairwise.imp_of_mem (S:=λa b=>a≠b) (λ{a b} ha O U=> ?_) (KD h);rintro rfl;obtain⟨y,I,J⟩:=Ey.1 ha;have:=CJ (h.ok y I) J;omega
structure TU(L:HL)(mem:Nat->Nat)(addr n:Nat)(L' :HL)(mem' :Nat->Nat):Prop where
 perm:(blocks L').Perm ((addr,Du n)::blocks L)
 Cb:(runs L').length<=(runs L).length+CD n
 same: ∀c∈blocks L,∀i,c.1<=i->i<c.1+c.2->mem' i=mem i
 zero: ∀i,addr<=i->i<addr+Du n->mem' i=0
theorem Mx{L1 L2:HL}(J:Lay (L1++(p, .small c (m ||| 2^k))::L2))(O:k<AY c)(h:Cz (L1++L2) mem):
 Cz (L1++(p, .small c (m ||| 2^k))::L2) (ET mem p c m k):=by
 have hx:(p,Hd.small c (m ||| 2^k))∈L1++(p, .small c (m ||| 2^k))::L2:=by simp
 have U:c<8:=(J.ok _ hx).1;have aa:=Fb c k U O;have h1:Cz (L1++L2) (ET mem p c m k):=by
  refine h.other λx hx=>⟨hx, ?_, ?_⟩
  rotate_left
  all_goals
   have V:=Nw J hx;simp only at V;simp only [ET,E5,B7];rw [if_neg (by omega),if_neg (by omega),if_neg (by omega)]
 intro x hx;rcases List.mem_append.1 hx with I|I
 . exact h1 x (List.mem_append_left _ I)
 . rcases List.mem_cons.1 I with rfl|Z
   . simp only [ET,E5,B7]
     rw [if_neg (by omega),if_neg (by omega),if_pos trivial,if_neg (by omega),if_pos trivial];exact⟨rfl,rfl⟩
   . exact h1 x (List.mem_append_right _ Z)
theorem HA{L:HL}(O:Lay L)(hx:(p,Hd.small c (m ||| 2^k))∈L)(V:(64*p+2+k*sz c,sz c)∈blocks L){b:Nat × Nat}(U:b∈blocks L)(Z:b≠(64*p+2+k*sz c,sz c))(h1:b.1<=i)(aa:i<b.1+b.2):ET mem p c m k i=mem i:=by
 have J:=Gy O U hx h1 aa;simp only at J;have ab:=Fe O U V;simp only [ET,E5,B7];rw [if_neg (by rcases ab with I|I|I;exact absurd I Z;all_goals (simp only at I;omega)),if_neg J.2,if_neg J.1]
theorem VH{L1 L2:HL}(V:Lay (L1++(p, .small c m)::L2))(hh:Cz (L1++(p, .small c m)::L2) mem)(U:k<AY c)(hm:m.testBit k=false)(ae:n<=28)(af:cls n=c):
 Lay (L1++(p, .small c (m ||| 2^k))::L2)/\Cz (L1++(p, .small c (m ||| 2^k))::L2) (ET mem p c m k)/\
 TU (L1++(p, .small c m)::L2) mem (64*p+2+k*sz c) n (L1++(p, .small c (m ||| 2^k))::L2) (ET mem p c m k):=by
 have Z:=V.ok (p, .small c m) (by simp);have I :Lay (L1++(p, .small c (m ||| 2^k))::L2):=Pv V (Z8 Z.1 Z.2.2 U) rfl;have J:=II (L1:=L1) (L2:=L2) (p:=p) U hm;have aa:Du n=sz c:=by unfold Du;rw [if_pos ae,af]
 refine⟨I,Mx I U (hh.other λx hx=>⟨?_,rfl,rfl⟩), ?_, ?_, ?_, ?_⟩
 . exact Ybv
 . rw [aa];exact J
 . rw [HR (p:=p) (hd:=Hd.small c m) (hd' :=Hd.small c (m ||| 2^k)) rfl];omega
 . intro b ab i h1 O
   have ac:=J.nodup_iff.1 (G5 I);rw [List.nodup_cons] at ac;exact HA I (by simp) (J.mem_iff.2 List.mem_cons_self) (J.mem_iff.2 (List.mem_cons_of_mem _ ab)) (λe=>ac.1 (e▸ab)) h1 O
 . intro i h1 O
   rw [aa] at O;simp only [ET,E5];rw [if_pos ⟨h1,O⟩]
theorem U4{L:HL}(J:Lay L)(I: ∀i,i<n->f+i∉runs L)(hp:p∈runs L)(i:Nat)(hi:i/64=p):Dr mem f n i=mem i:=by
 unfold Dr;rw [if_neg];rintro⟨h1,O⟩;exact I (p-f) (by omega) (by rw [show f+(p-f)=p by omega];exact hp)
def Yfb{P}(h:P:=by
 rw [J];simp only [B7];rw [if_neg (by omega),if_neg (by omega)];exact U4 I O hp i hi):=h
def Yfl{P}(h:P:=by
 exact U x.1 (CS.2 ⟨x,hx,Nat.le_refl _,by have:=x.2.C6;omega⟩) _ (by omega)):=h
theorem WX{L:HL}(I:Lay L)(hh:Cz L mem)(ae:f∉runs L)(af:n<=28)(ai:cls n=c)(Z:Nat->Nat)(J:Z=B7 (B7 (Dr mem f 1) (64*f) (1+256*c)) (64*f+1) 0):
 ∃L',(runs L++ [f]).Perm (runs L')/\Lay L' /\Cz L' (ET Z f c 0 0)/\TU L mem (64*f+2) n L' (ET Z f c 0 0):=by
 have aa:=LC n af;rw [ai] at aa;have am:(Hd.small c (0 ||| 2^0)).Ok:=by
  refine⟨aa.1,by decide, ?_⟩;have:1<2^AY c:=Nat.one_lt_two_pow (by
   have an:=aa.1;exact Zc)
  simpa using this
 have ag:0<AY c:=by
  have an:=aa.1;exact Zc
 obtain⟨L1,L2,rfl,h1,V⟩:=Nj I f 1 (Nat.le_refl _) (λk ag=>by have e:k=0:=(by omega);rw [e];exact ae);have ab :Lay (L1++(f, .small c (0 ||| 2^0))::L2):=Ms I am h1 V;have ac:(blocks (L1++(f, .small c (0 ||| 2^0))::L2)).Perm ((64*f+2+0*sz c,sz c)::blocks (L1++L2)):=
  (II ag (Nat.zero_testBit 0)).trans ((GR L1 L2 f c).cons _)
 have aj:Du n=sz c:=by unfold Du;rw [if_pos af,ai]
 have O: ∀i,i<1->f+i∉runs (L1++L2):=λi hi=>by have e:i=0:=(by omega);rw [e];exact ae
 have U : ∀p∈runs (L1++L2),∀i,i/64=p->Z i=mem i:=λp hp i hi=>by
  have ao:p≠f:=λe=>ae (e▸hp)
  exact Yfb
 refine⟨_, ?_,ab,Mx ab ag (hh.other λx hx=>⟨hx, ?_, ?_⟩), ?_, ?_, ?_, ?_⟩
 . exact List.perm_append_comm.trans (Ga L1 L2 (f,Hd.small c (0 ||| 2^0))).symm
 . exact Yfl
 . exact Yfl
 . rw [aj]
   simpa using ac
 . have:=(Ga L1 L2 (f,Hd.small c (0 ||| 2^0))).length_eq
   simp [Hd.len] at this;unfold CD;rw [if_pos af];simp;omega
 . intro b ah i h1 V
   have al:=ac.nodup_iff.1 (G5 ab);rw [List.nodup_cons] at al;rw [HA ab (by simp) (ac.mem_iff.2 List.mem_cons_self) (ac.mem_iff.2 (List.mem_cons_of_mem _ ah)) (λe=>al.1 (e▸ah)) h1 V];exact U _ (GZ I ah h1 V) i rfl
 . intro i h1 V
   rw [aj] at V;simp only [ET,E5];rw [if_pos ⟨by omega,by omega⟩]
theorem TE{L:HL}(I:Lay L)(hh:Cz L mem)(ae:28<n)(af:n<=4000)(O: ∀i,i<(n+65)/64->f+i∉runs L)(U:Nat->Nat)(J:U=B7 (B7 (Dr mem f ((n+65)/64)) (64*f) (2+256*((n+65)/64))) (64*f+1) n):
 ∃L',(runs L++List.range' f ((n+65)/64)).Perm (runs L')/\Lay L' /\Cz L' U/\TU L mem (64*f+2) n L' U:=by
 have ag:(Hd.Bx n).Ok:=⟨ae,af⟩;obtain⟨L1,L2,rfl,h1,V⟩:=Nj I f ((n+65)/64) (by omega) O;have ah :Lay (L1++(f, .Bx n)::L2):=Ms I ag h1 V;have ai:(blocks (L1++(f, .Bx n)::L2)).Perm ((64*f+2,n)::blocks (L1++L2)):=FE L1 L2 (f, .Bx n);have ab:Du n=n:=by unfold Du;rw [if_neg (by omega)]
 have Z : ∀p∈runs (L1++L2),∀i,i/64=p->U i=mem i:=λp hp i hi=>by
  have am:p≠f:=λe=>O 0 (by omega) (by rw [Nat.add_zero];exact e▸hp)
  exact Yfb
 have ac:Cz (L1++L2) U:=hh.other λx hx=>⟨hx,Z x.1 (CS.2 ⟨x,hx,Nat.le_refl _,by have:=x.2.C6;omega⟩) _ (by omega),Z x.1 (CS.2 ⟨x,hx,Nat.le_refl _,by have:=x.2.C6;omega⟩) _ (by omega)⟩
 refine⟨_, ?_,ah, ?_, ?_, ?_, ?_, ?_⟩
 . exact List.perm_append_comm.trans (Ga L1 L2 (f,Hd.Bx n)).symm
 . intro x hx
   rcases List.mem_append.1 hx with aa|aa
   . exact ac x (List.mem_append_left _ aa)
   . rcases List.mem_cons.1 aa with rfl|aj
     . simp only [J,B7]
       exact Ygk
     . exact ac x (List.mem_append_right _ aj)
 . rw [ab];exact ai
 . have:=(Ga L1 L2 (f,Hd.Bx n)).length_eq
   simp only [List.length_append,List.length_range',Hd.len] at this;unfold CD;rw [if_neg (by omega)];omega
 . intro b al i h1 V
   exact Z _ (GZ I al h1 V) i rfl
 . intro i h1 V
   rw [ab] at V;rw [J];simp only [B7];rw [if_neg (by omega),if_neg (by omega)];unfold Dr;rw [if_pos (by omega)]
def Ydv{P}(h:P:=by
 simp only [F3,Kt,ME];rw [if_pos ⟨by omega,by omega⟩,if_neg (by omega),if_pos ⟨by omega,by omega⟩];push_cast;rfl):=h
def Yoz{P}(h:P:=by
 have hN:=Zh (EF k1);have I:=Zh (SE (n:=(n:Nat)) ⟨by omega,by omega⟩ (by omega));exact And.intro hN I):=h
def Yrl{P}(h:P:=by
 have I:Hid (F3 (n:Int)= .tuple #[.int .i64 (((n+65)/64:Nat):Int), .int .i64 0]):=Zh (by
  exact Ydv)
 exact I):=h
theorem QY{L:HL}(h:Bm w ha a F L q mem)(n:Nat)(ai:28<n)(aj:n<=4000)(U:((runs L).length+(n+65)/64)*64<=q):
 Calls prog 54 #[.pointer (some ⟨ha,0,none⟩), .int .i64 n] w λe w' => ∃addr F' L' mem',e= .returned (.tuple #[.int .i64 (addr:Nat), .int .i64 0])/\Bm w' ha a F' L' q mem' /\Ad w F w' F' /\TU L mem addr n L' mem' /\addr<20000000:=by
 obtain⟨⟨mb,D,k1,rfl⟩,V,Z⟩:=h;obtain⟨hN,al⟩:=Yoz;have aa:=Yrl;have ab:=Zh (λ(f:Nat) (am: ∀i,i<(n+65)/64->f+i∉runs L)=>TE (mem:=mem) V Z ai aj am _ rfl);have an:=Zh k1;obtain⟨nn,ac⟩: ∃nn,(n+65)/64=nn:=⟨_,rfl⟩;rw [ac] at aa ab U;have ao:nn<=63:=by omega
 have aq:1<=nn:=by omega
 clear k1 V Z ac;go_enter func54,ntmps54;go_wp2_with fail;refine hN.mono ?_;rintro e w' ⟨rfl,rfl⟩;go_wp2_with fail;refine(Je _ _).mono ?_;rintro e w1 ⟨rfl,I⟩;rw [al.out];have ar:=Zh (an.below I);have au:=Zf;clear I hN;go_wp2_with fail;refine(Nf _ _).mono ?_;rintro e w2 ⟨rfl,J⟩;rw [aa.out];have O:=Zh (ar.below J);have aw:=Zh (au.trans (Ad.below (F:=Bn a mb D) J));have ax:=O.hs;clear J;go_wp2_with fail;refine(PB O.sl nn aq ao U).mono ?_;rintro e w3 ⟨f,D',rfl,ae,aG,af,ag⟩;have t3:=Sj (a:=a) ag;have ay:=Zh (O.Aq af t3);have az:=Zh (aw.trans t3);have aA:=Zh ae;clear af ag t3 ax ae;go_wp2_with fail;refine(KT ay.out f 2 nn n (by simp;omega) (by omega) (by omega) (by omega)).mono ?_;rintro e w4 ⟨rfl,ah,t4⟩;have aB:=Zh ah;have aC:=Zh (az.trans t4);clear ah t4;go_wp2
 go_ret2
 obtain⟨L',aD,aE,aF,Iw⟩:=ab.out f aA.out;exact⟨64*f+2,_,L',_,by rw [show((64*f+2:Nat):Int)=(f:Int)*64+2 by push_cast;omega];rfl,⟨⟨mb,D',aB.perm aD,rfl⟩,aE,aF⟩,aC,Iw,by omega⟩
theorem KK{L:HL}(h:Bm w ha a F L q mem)(n:Nat)(ai:28<n)(aj:n<=4000)(J:q<((runs L).length+(n+65)/64)*64):
 Calls prog 54 #[.pointer (some ⟨ha,0,none⟩), .int .i64 n] w λe w' =>e= .returned (.tuple #[.int .i64 0, .int .i64 3])/\Below w.heap.size w w' :=by
 obtain⟨⟨mb,D,k1,rfl⟩,aa,ab⟩:=h;obtain⟨hN,ac⟩:=Yoz;have O:=Yrl;have af:=Zh k1;obtain⟨nn,U⟩: ∃nn,(n+65)/64=nn:=⟨_,rfl⟩;rw [U] at O J;have al:nn<=63:=by omega
 have ag:1<=nn:=by omega
 clear k1 aa ab U;go_enter func54,ntmps54;go_wp2_with fail;refine hN.mono ?_;rintro e w' ⟨rfl,rfl⟩;go_wp2_with fail;refine(Je _ _).mono ?_;rintro e w1 ⟨rfl,ae⟩;rw [ac.out];have ah:=Zh (af.below ae);clear hN;go_wp2_with fail;refine(Nf _ _).mono ?_;rintro e w2 ⟨rfl,I⟩;rw [O.out];have V:=Zh (ah.below I);have am:=V.hs;have Z:=Dt;clear I ae;go_wp2_with fail;refine(MA V.sl nn ag (by omega) J).mono ?_;rintro e w3 ⟨rfl,d,rfl⟩;go_wp2
 go_ret2
 exact⟨rfl,Z.trans ((AL w2 d).mono Z.size)⟩
theorem QZ{L:HL}(h:Bm w ha a F L q mem)(n:Nat)(aZ:1<=n)(Z:n<=28):
 Calls prog 54 #[.pointer (some ⟨ha,0,none⟩), .int .i64 n] w λe w' =>
  (∃addr F' L' mem',e= .returned (.tuple #[.int .i64 (addr:Nat), .int .i64 0])/\Bm w' ha a F' L' q mem' /\Ad w F w' F' /\TU L mem addr n L' mem' /\addr<40000000)\/
  (e= .returned (.tuple #[.int .i64 0, .int .i64 3])/\Below w.heap.size w w' /\q<((runs L).length+1)*64):=by
 obtain⟨⟨mb,D,k1,rfl⟩,I,J⟩:=h;have hN:=Zh (EF k1);obtain⟨c,O⟩: ∃c,cls n=c:=⟨_,rfl⟩;have af:=LC n Z;rw [O] at af;have aa:=af.1;have aC:=Zh (Nk (n:=(n:Nat)) ⟨by omega,by omega⟩ (by omega) O);have aD:=Zh (λw' (aE:Below w.heap.size w w')=>XJ (k1.below aE) I J c aa);have aF:=Zh (λ(f:Nat) (aG:f∉runs L)=>WX (mem:=mem) I J aG Z O _ rfl);have aH:=Zh (λ(L1 L2:HL) (p m k:Nat) (e:L=L1++(p, .small c m)::L2) (ab:k<AY c) (hm:m.testBit k=false)=>VH (mem:=mem) (e▸I) (e▸J) ab hm Z O);have aq:=Zh k1;have a0:=Zh I;have aI:=Zh J;have aJ:0<AY c:=by
  have:c=0\/c=1\/c=2\/c=3\/c=4\/c=5\/c=6\/c=7:=by omega
  rcases this with rfl|rfl|rfl|rfl|rfl|rfl|rfl|rfl<;>decide
 clear k1 I J af O Z;go_enter func54,ntmps54;go_wp2_with fail;refine hN.mono ?_;rintro e w' ⟨rfl,rfl⟩;go_wp2_with fail;refine(Je _ _).mono ?_;rintro e w1 ⟨rfl,ac⟩;rw [aC.out];go_wp2_with fail;refine(aD _ ac).mono ?_;rintro e w2 ⟨v,rfl,aK,ar⟩;have ae:=Zh (ac.trans (ar.mono ac.size));have U:=Zh (aq.below ae);have au:=Zh (Ad.below (F:=Bn a mb D) ae);have aL:=U.hs;clear ac ar hN;rcases aK with rfl|⟨L1,L2,p,m,k,ag,ab,hm,rfl⟩
 . go_wp2_with fail
   by_cases ah:((runs L).length+1)*64<=q
   . refine(PB U.sl 1 (by omega) (by omega) ah).mono ?_
     rintro e w3 ⟨f,D',rfl,aw,a1,ax,ay⟩;have t3:=Sj (a:=a) ay;have aM:=Zh (U.Aq ax t3);have aN:=Zh (au.trans t3);have aO:Hid (f∉runs L):=Zh (by simpa using aw 0 (by omega));clear ax ay t3 aL aw;go_wp2_with fail;refine(KT aM.out f 1 c 0 (by simp) (by omega) (by omega) (by omega)).mono ?_;rintro e w4 ⟨rfl,az,t4⟩;have aP:=Zh az;have aQ:=Zh (aN.trans t4);clear az t4;go_wp2_with fail;refine(take_at aP.out f c 0 0 (by simp) aa aJ (by simp only [B7];rw [if_neg (by omega),if_pos trivial]) (by simp only [B7];rw [if_pos trivial])).mono ?_;rintro e aR ⟨rfl,V,t5⟩;have ai:=Zh V;have aj:=Zh (aQ.trans t5);clear V t5;go_wp2
     go_ret2
     obtain⟨L',aS,aT,aU,Iw⟩:=aF.out f aO.out;exact .inl ⟨64*f+2,_,L',_,by simp,⟨⟨mb,D',ai.perm (by simpa using aS),rfl⟩,aT,aU⟩,aj,Iw,by omega⟩
   . refine(MA U.sl 1 (by omega) (by omega) (by omega)).mono ?_
     rintro e w3 ⟨rfl,d,rfl⟩;have aV:=Zh ah;clear ah;go_wp2
     go_ret2
     exact .inr ⟨rfl,ae.trans ((AL w2 d).mono ae.size),by have:=aV.out;omega⟩
 . have al:=Zh ab
   have aW:=Zh hm;have aA:=Zh ag;have hx:(p,Hd.small c m)∈L:=(by rw [ag];simp);have am:p∈runs L:=CS.2 ⟨_,hx,Nat.le_refl _,by simp [Hd.len]⟩;have an:=aI.out _ hx;simp only at an;have a2:=aq.sl.low _ am;have aX:=Zh am;have aB:=Zh an;clear ab hm ag hx am an;go_wp2_with fail;refine(take_at U.out p c m k aX aa al aB.1 aB.2).mono ?_;rintro e aR ⟨rfl,V,t5⟩;have ai:=Zh V;have aj:=Zh (au.trans t5);clear V t5;go_wp2
   go_ret2
   have a3:=Fb c k aa al.out;have ao:=aH.out L1 L2 p m k aA al aW.out;have aY:=aA.out;subst aY;refine .inl ⟨64*p+2+k*sz c,_,_,_,rfl,⟨⟨mb,D,ai.perm ?_,rfl⟩,ao.1,ao.2.1⟩,aj,ao.2.2,by omega⟩;rw [HR (p:=p) (hd:=Hd.small c m) (hd' :=Hd.small c (m ||| 2^k)) rfl]
attribute [local go_sem] Oper.semAt_some
structure KE(E:World->Nat->Prop)(A B:World):Prop where
 kb:KB (E A) A B
 grow: ∀k,E B k->E A k\/A.heap.size<=k
def Ydb{P}(h:P:=by
 have h1:=h.kb.same i o hi I J;refine k.kb.same i o h1 I (λU=> ?_);rcases h.grow i U with O|O
 . exact J O
 . have:=(Array.getElem?_eq_some_iff.1 hi).1;omega):=h
theorem KE.trans{E:World->Nat->Prop}{A B C:World}(h:KE E A B)(k:KE E B C):KE E A C:=by
 refine⟨⟨Nat.le_trans h.kb.size k.kb.size,λi o hi I J=> ?_⟩,λi hi=> ?_⟩
 . exact Ydb
 . rcases k.grow i hi with h1|h1
   . exact h.grow i h1
   . exact .inr (Nat.le_trans h.kb.size h1)
theorem KE.below{E:World->Nat->Prop}{A B:World}(h:Below A.heap.size A B)(I: ∀k,E B k->E A k):KE E A B:=⟨KB.below h,λk J=> .inl (I k J)⟩
structure NU(E:World->Nat->Prop)(n0 a mb ha B:Nat)(D:DW)(A:Option Addr)(W:World):Prop where
 size:n0<=W.heap.size
 ok: ∀k,E W k-> ¬Bn a mb D k/\k≠ha/\k≠1/\k≠B/\ ∀r,A=some r->k≠r.block
theorem NU.below{E:World->Nat->Prop}{D:DW}{X Y:World}(h:NU E n0 a mb ha B D A X)(J: ∀X Y:World,n0<=X.heap.size->Below X.heap.size X Y-> ∀k,E Y k->E X k)(I:Below X.heap.size X Y):NU E n0 a mb ha B D A Y:=
 ⟨Nat.le_trans h.size I.size,λk O=>h.ok k (J X Y h.size I k O)⟩
theorem Xd(h:w.ownsRow base e 1 (.slice A m c) n xs)(I:A=some r):base<=r.block:=by
 rcases h.2 with ⟨h1,_⟩|⟨g,cap,cur,h1,J,_⟩
 . rw [I] at h1;cases h1
 . rw [I] at h1;cases h1;exact J
theorem ZU(h:w.ownsRow base e 1 (.slice A m c) n xs)(I:A=some r):r.block<w.heap.size:=by
 rcases h.2 with ⟨h1,_⟩|⟨g,cap,cur,h1,O,J,_⟩
 . rw [I] at h1;cases h1
 . rw [I] at h1;cases h1;exact(Array.getElem?_eq_some_iff.1 J).1
theorem EE.kbE{E:World->Nat->Prop}{D:DW}{L:HL}(h:EE w ha a mb D L q mem B base (.slice A n c) W)(I:KE E W W')(J:NU E n0 a mb ha B D A W):EE w ha a mb D L q mem B base (.slice A n c) W' :=by
 refine⟨h.hp.kb I.kb (λk I=>(J.ok k I).1) (λI=>(J.ok _ I).2.1 rfl) (λI=>(J.ok _ I).2.2.1 rfl),I.kb.cell h.box (λI=>(J.ok _ I).2.2.2.1 rfl), ?_⟩;refine⟨h.row.1, ?_⟩;rcases h.row.2 with h1|⟨g,cap,cur,h1,O,U,V⟩
 . exact .inl h1
 . refine .inr ⟨g,cap,cur,h1,O,I.kb.same g _ U (.inl rfl) (λhh=> ?_),V⟩
   cases h1
   exact(J.ok g hh).2.2.2.2 _ rfl rfl
theorem NU.step{E:World->Nat->Prop}{D:DW}{L:HL}(I:NU E n0 a mb ha B D A W)(J:KE E W W')(h:EE w ha a mb D L q mem B base (.slice A n c) W):NU E n0 a mb ha B D A W' :=by
 refine⟨Nat.le_trans I.size J.kb.size,λk O=> ?_⟩;rcases J.grow k O with h1|h1
 . exact I.ok k h1
 . refine⟨λU=> ?_, ?_, ?_, ?_,λr V=> ?_⟩
   . have:=h.hp.sl.lt U;omega
   . have:=Am h.hp.hs;simp only at this;omega
   . have Z:=h.hp.Fw a (.inl rfl);have aa:=h.hp.sl.lt (.inl rfl);omega
   . have:=Am h.box;simp only at this;omega
   . have:=ZU h.row V;omega
theorem OK{D:DW}{L:HL}(h:BD w ha a mb D (runs L) q mem)(aA:Lay L)(hh:Cz L mem)(aB:w.cell? ⟨B,0,none⟩=some (.pointer (some ⟨ha,0,none⟩)))
 (E:World->Nat->Prop) (an: ∀X Y:World,w.heap.size<=X.heap.size->Below X.heap.size X Y-> ∀k,E Y k->E X k) (c0:NU E w.heap.size a mb ha B D none w) (c5: ∀k,E w k->k<w.heap.size):
 SeqStopsK Fence.wide 8 prog 141 #[.pointer (some ⟨B,0,none⟩)] (λx:{y:Nat × Hd // y∈L}=> #[.int .i64 x.1.1,Is x.1.2]) (KE E) (λxs=>xs.map (·.1)=L) (λpre=> ∃t,L=pre.map (·.1)++t) L.length w:=λl a2 bi W ao aC bj aq h0=>by
 have ar:BD W ha a mb D (runs L) q mem:=h.kb (Cs:=λ_=>False) (KB.below ao) (λ_ h=>h.elim) (λh=>h) (λh=>h);have aD:W.cell? ⟨B,0,none⟩=some (.pointer (some ⟨ha,0,none⟩)):=(ao.cell (p:=⟨B,0,none⟩) (Am aB)).trans aB;have hs:=ar.hs;have aQ:=Zh ((callsIn_wide (n:=7)).2 (Kb ar.sl (JS aA)));have au:=Zh ar;have aR:=Zh aA;have a3:=Zh hh;have aS:=ao.size;have a4:=Zh (λk (aE:E W k)=>an w W (Nat.le_refl _) ao k aE);clear ar aB h aA hh;refine callsIn_of_wp func141 rfl trivial ?_ rfl;simp only [ntmps141,List.size_toArray,List.length_cons,List.length_nil,Nat.reduceAdd,Nat.reduceSub,Array.replicate_succ,Array.replicate_zero,List.push_toArray,List.append_toArray,List.nil_append,List.cons_append];gi_wp2_with (refine⟨trivial, ?_⟩;gi_at_call 65;refine aQ.mono ?_;rintro e w1 ⟨v,rfl,aw,U⟩;obtain⟨A,c,rfl⟩:=Bs aw);have hlen:(runs L).length<=4096:=by have h1:=au.sl.room;have bk:=au.sl.DA;rw [au.sl.count] at h1;omega
 have H1:Hid (EE w ha a mb D L q mem B W.heap.size (.slice A (runs L).length c) w1):=Zh ⟨au.below U,(U.cell (p:=⟨B,0,none⟩) (Am aD)).trans aD,aw⟩;have a5:=Zh (Dw aC h0 U);have a6:Hid (NU E w.heap.size a mb ha B D A w1):=Zh ⟨Nat.le_trans aS U.size,λk aE=>by
  have aT:=a4.out k (an W w1 aS U k aE);obtain⟨q1,a7,a8,a9,_⟩:=c0.ok k aT;refine⟨q1,a7,a8,a9,λr ba=> ?_⟩;have:=Xd aw ba;have:=c5 k aT;omega⟩
 clear aw U aD hs h0 aQ
 gi_loopw [3,13] (λbb aF wr=> ∃(pre:List {y:Nat × Hd // y∈L}) (i next:Nat),i<=(runs L).length/\aF= .int .i64 i/\bb= .int .i64 next/\next<=1000000/\Hid (O5 L (pre.map (·.1)) i next)/\Hid (EE w ha a mb D L q mem B W.heap.size (.slice A (runs L).length c) wr)/\Hid (NU E w.heap.size a mb ha B D A wr)/\Hid (a2 pre wr)) (λ_ aF _=>(runs L).length-(intOf aF).toNat)
 case atStart=>exact⟨[],0,0,by omega,rfl,rfl,by omega,Zh (L0 L),H1,a6,a5⟩
 case round=>
  obtain⟨pre,i,next,hi,rfl,rfl,hnx,hpos,H,HE,hj⟩:=hrel;rcases LZ aR.out hpos with ⟨p,hp,bm,Z⟩|⟨x,rest,J,hp,hle,Z⟩|⟨J,bo⟩
  . obtain⟨g,bc,aG,_,_,aU⟩:=Ed H.row (i:=i) (u:= .int .i64 (p:Int)) (by rw [List.getElem?_map,hp];rfl)
    cases aG
    have aH:i<(runs L).length:=(List.getElem?_eq_some_iff.1 hp).1;have hd:decide ((p:Int)<(next:Int))=true:=(by simp;omega);have ax:=Zh Z;clear hp Z aq;gi_wp2;go_roundw
    case rel=>exact⟨pre,i+1,next,by omega,by go_num,by trivial,hnx,ax,H,HE,hj⟩
    case measure=>simp [intOf];omega
  . obtain⟨g,bc,aG,_,_,aU⟩:=Ed H.row (i:=i) (u:= .int .i64 (x.1:Int)) (by rw [List.getElem?_map,hp];rfl)
    cases aG
    have aH:i<(runs L).length:=(List.getElem?_eq_some_iff.1 hp).1;have aa:x∈L:=J▸List.mem_append_right _ List.mem_cons_self;have ay:x.1∈runs L:=(List.getElem?_eq_some_iff.1 hp).2▸List.getElem_mem _;have bd:=H.hp.sl.low _ ay;have aV:=aR.ok x aa;have aI:=a3.out x aa;have aW:pre.length<L.length:=(by have be:=congrArg List.length J;simp only [List.length_append,List.length_map,List.length_cons] at be;omega);have bp:=H.box;have hd:decide ((x.1:Int)<(next:Int))=false:=(by simp;omega);have ax:=Zh Z;have aX:Hid (∃t,L=(pre++ [(⟨x,aa⟩:{y:Nat × Hd // y∈L})]).map (λy=>y.1)++t):=Zh ⟨rest,by rw [List.map_append,List.append_assoc];exact J⟩;have aY:Hid ((pre++ [(⟨x,aa⟩:{y:Nat × Hd // y∈L})]).map (λy=>y.1)=pre.map (λy=>y.1)++ [x]):=Zh (by rw [List.map_append];rfl);obtain⟨p,bf⟩:=x;simp only at aU ay bd hd hle aI;have aZ:=Zh aq;have a0:=Zh ay;have az:=Zh aa;clear hp Z J aq ay
    cases bf with
    |small cc m=>
     obtain⟨ab,ac⟩:=aI;obtain⟨bq,br,bs⟩:=aV;have ae:=(callsIn_wide (n:=7)).2 (Hz H.hp p 1 cc m a0 (by omega) (by omega) ab ac);have aJ:=Zh ae;clear ae ab ac;gi_wp2_with (refine⟨trivial, ?_⟩;gi_at_call 142;refine aJ.mono ?_;rintro e w2 ⟨rfl,af⟩);have I:Below wr.heap.size wr (w2.alloc (Obj.cells #[Value.int IntKind.i64 1,Value.int IntKind.i64 cc,Value.int IntKind.u64 m] 165)):=af.alloc af.size _;have ag:=Dw aC hj I;have ah:=Zh (H.below I);have ai:=Zh (HE.below an I);obtain⟨fn,tmps,assign,body,V,aj⟩:=aZ.out pre ⟨(p, .small cc m),az⟩ _ ag aW;dsimp only [Is] at V;have aK:=Zh aj;clear aj ag I;rw [V];gi_wp2;refine(aK).mono ?_;rintro e bg (⟨rfl,al,O⟩|⟨rfl,am⟩)
     . have aL:=Zh (ah.kbE O ai)
       have aM:=Zh (ai.step O ah);have aN:=Zh al;clear al O;gi_wp2;go_roundw
       case rel=>exact⟨pre++ [⟨(p, .small cc m),az.out⟩],i+1,next,by omega,by go_num,by trivial,hnx,Zh (by rw [aY.out];exact ax.out _ (.inr ⟨rfl,rfl⟩)),aL,aM,aN⟩
       case measure=>simp [intOf];omega
     . have aO:=Zh am
       clear am;gi_wp2;refine bodyPost_ret (results_none rfl _ _ _) rfl ?_;exact⟨⟨_,rfl⟩, .inr ⟨_,aX,aO⟩⟩
    |Bx ww=>
     obtain⟨ab,ac⟩:=aI;obtain⟨bu,bv⟩:=aV;obtain⟨nn,aP⟩:=Zx ((ww+65)/64);have bw:nn<=63:=(by omega);have ae:=(callsIn_wide (n:=7)).2 (Hz H.hp p 2 nn ww a0 (by omega) (by omega) (aP▸ab) ac);have aJ:=Zh ae;have a1:=Zh aP;clear ae ab ac aP;gi_wp2_with (refine⟨trivial, ?_⟩;gi_at_call 142;refine aJ.mono ?_;rintro e w2 ⟨rfl,af⟩);have I:Below wr.heap.size wr (w2.alloc (Obj.cells #[Value.int IntKind.i64 2,Value.int IntKind.i64 nn,Value.int IntKind.u64 ww] 165)):=af.alloc af.size _;have ag:=Dw aC hj I;have ah:=Zh (H.below I);have ai:=Zh (HE.below an I);obtain⟨fn,tmps,assign,body,V,aj⟩:=aZ.out pre ⟨(p, .Bx ww),az⟩ _ ag aW;dsimp only [Is] at V;rw [<-a1.out] at V;have aK:=Zh aj;clear aj ag I;rw [V];gi_wp2;refine(aK).mono ?_;rintro e bg (⟨rfl,al,O⟩|⟨rfl,am⟩)
     . have aL:=Zh (ah.kbE O ai)
       have aM:=Zh (ai.step O ah);have aN:=Zh al;clear al O;gi_wp2;go_roundw
       case rel=>exact⟨pre++ [⟨(p, .Bx ww),az.out⟩],i+1,p+nn,by omega,by go_num,by go_num,by omega,Zh (by rw [aY.out];exact ax.out _ (.inl (by rw [a1.out];rfl))),aL,aM,aN⟩
       case measure=>simp [intOf];omega
     . have aO:=Zh am
       clear am;gi_wp2;refine bodyPost_ret (results_none rfl _ _ _) rfl ?_;exact⟨⟨_,rfl⟩, .inr ⟨_,aX,aO⟩⟩
  . have bh:=Zh J
    clear J;have aH:i=(runs L).length:=(by omega);subst aH;clear aq;gi_wp2;go_end0;exact⟨⟨_,rfl⟩, .inl ⟨_,bh.symm,hj⟩⟩
end Go.Proofs.YtiopopoohglepaaGreatDoor
namespace Go.Proofs.YtiopopoohglepaaGreatDoor
open Go.Proofs.Tryz
open Go.RowKit Go.Shelf
variable {a q:Nat}{mem:Nat->Nat}{w:World}
attribute [local go_sem] Oper.semAt_some Ec
theorem Sn:Lay ([]:HL):=⟨List.Pairwise.nil,by simp⟩
theorem Nt(mem:Nat->Nat):Cz ([]:HL) mem:=by intro x hx;simp at hx
theorem SZ{mb:Nat}{D:DW}(h:AW w a mb D [] q mem):
 Calls prog 65 #[.pointer (some ⟨a,0,none⟩)] w λe w' =>e= .returned (.slice none 0 0)/\Below w.heap.size w w' :=
 (Pd h).mono λe w' ⟨v,I,he,hp,U,J,O⟩=>by
  obtain⟨h1,V⟩:=Jz h List.Pairwise.nil hp;have:I= []:=List.eq_nil_of_length_eq_zero h1;rw [J.2 this] at he;exact⟨he,O⟩
def Ypg{P}(h:P:=by
 have I:=(aa.cell (p:=⟨w.heap.size+1,0,none⟩) (Am J)).trans J;exact I):=h
theorem Qt{ha:Nat}{F:Nat->Prop}(h:Bm w ha a F [] q mem):
 Calls prog 66 #[.pointer (some ⟨ha,0,none⟩)] w λe w' =>e= .returned (.int .i64 0)/\Below w.heap.size w w' :=by
 obtain⟨⟨mb,D,k1,rfl⟩,ay,az⟩:=h;refine(callsIn_wide (n:=9)).1 ?_;have hN:=Zh (λw' (aA:Below w.heap.size w w')=>(callsIn_wide (n:=8)).2 (EF (k1.below aA)));have aB:=Z0;have aC:=Zh k1;clear k1 ay az;refine callsIn_of_wp_marks func66 rfl trivial ?_ rfl;simp only [ntmps66,List.size_toArray,List.length_cons,List.length_nil,Nat.reduceAdd,Nat.reduceSub,Array.replicate_succ,Array.replicate_zero,List.push_toArray,List.append_toArray,List.nil_append,List.cons_append];gi_wp2_with fail;have U:Below w.heap.size w ((w.alloc (Obj.cells #[Value.pointer (some { block:=ha,off:=0 })] 71)).alloc (Obj.cells #[Value.int IntKind.i64 0] 25)):=((Below.refl _ w).alloc (Nat.le_refl _) _).alloc (by simp) _;refine(hN _ U).mono ?_;rintro e w' ⟨rfl,rfl⟩;gi_wp2_with fail;have V:Below w.heap.size w (((w.alloc (Obj.cells #[Value.pointer (some { block:=ha,off:=0 })] 71)).alloc (Obj.cells #[Value.int IntKind.i64 0] 25)).alloc (Obj.cells #[Value.int IntKind.i64 0] 3)):=U.alloc (by simp;omega) _;have aj:(((w.alloc (Obj.cells #[Value.pointer (some { block:=ha,off:=0 })] 71)).alloc (Obj.cells #[Value.int IntKind.i64 0] 25)).alloc (Obj.cells #[Value.int IntKind.i64 0] 3)).cell? ⟨w.heap.size,0,none⟩=some (.pointer (some ⟨ha,0,none⟩)):=by go_simp
 have J:(((w.alloc (Obj.cells #[Value.pointer (some { block:=ha,off:=0 })] 71)).alloc (Obj.cells #[Value.int IntKind.i64 0] 25)).alloc (Obj.cells #[Value.int IntKind.i64 0] 3)).cell? ⟨w.heap.size+1,0,none⟩=some (.int .i64 0):=by go_simp
 have ag:(((w.alloc (Obj.cells #[Value.pointer (some { block:=ha,off:=0 })] 71)).alloc (Obj.cells #[Value.int IntKind.i64 0] 25)).alloc (Obj.cells #[Value.int IntKind.i64 0] 3)).frozen? ⟨w.heap.size+1,0,none⟩=false:=by go_simp
 have Z:(((w.alloc (Obj.cells #[Value.pointer (some { block:=ha,off:=0 })] 71)).alloc (Obj.cells #[Value.int IntKind.i64 0] 25)).alloc (Obj.cells #[Value.int IntKind.i64 0] 3)).cell? ⟨w.heap.size+1+1,0,none⟩=some (.int .i64 0):=by go_simp
 generalize (((w.alloc (Obj.cells #[Value.pointer (some { block:=ha,off:=0 })] 71)).alloc (Obj.cells #[Value.int IntKind.i64 0] 25)).alloc (Obj.cells #[Value.int IntKind.i64 0] 3))=W0 at*;refine(aB _).mono ?_;rintro e w2 ⟨rfl,ab⟩;have aa:Below W0.heap.size W0 w2:=by rw [ab];exact(Below.refl _ _).alloc (Nat.le_refl _) _
 have aD:w2.cell? ⟨W0.heap.size,0,none⟩=some (.pointer (some ⟨ha,0,none⟩)):=by rw [ab];go_simp
 have I:=V.trans (aa.mono V.size);have ai:=Y2;have ac:=Ypg;have aE:=(aa.frozen (p:=⟨w.heap.size+1,0,none⟩) (Am J)).trans ag;have ah:=(aa.cell (p:=⟨w.heap.size+1+1,0,none⟩) (Am Z)).trans Z;clear ab aa aj J ag Z U V hN;gi_wp2_with fail;have al:=Zh (aC.below I)
 refine wpIn_rangeFunc_ownH (α:={z:Nat × Hd // z∈([]:HL)}) rfl (by omega) (gf:=141) (lb:= #[.pointer (some ⟨W0.heap.size,0,none⟩)]) rfl trivial (enters_of func141 (by kernel_rfl) rfl)
  (H0 al Sn (Nt _) aD (λ_=>False) (λ_ h=>h.elim) (λh=>h) (λh=>h) (λh=>h) (λ_ h=>h.elim))
  (λh k=>h.trans k) (λW l o aF _ aG h1 aH=>KB.putObj aF aG h1 aH) (Below.refl _ _) (λ_=>rfl)
  (λpre W=>Below w2.heap.size w2 W)
  (λaI pre W=>False)
  (λs A B row hs hg aJ=>ownFrom_below (Nat.le_refl _) (by omega) s A B row hs hg aJ)
  (λ_ _ _ _ _ hs _ _=>hs)
  (Below.refl _ _)
  (λx a' W=>False)
  (λ_ _ _ _ _ _ hs _ _=>hs)
  ?assign ?body ?done ?stop
 case assign=>
  rintro l pre ⟨x,hx⟩;simp at hx
 case body=>
  rintro l pre ⟨x,hx⟩;simp at hx
 case stop=>
  rintro D' aI pre W aK aW aL;exact aL.elim
 case done=>
  rintro D' xs W aK aM hi ae;have an:=Yms;have af:=(hi.cell (p:=⟨w.heap.size+1,0,none⟩) (Am ac)).trans ac;have ao:=(hi.cell (p:=⟨w.heap.size+1+1,0,none⟩) (Am ah)).trans ah;have aq:=(hi.frozen (p:=⟨w.heap.size+1,0,none⟩) (Am ac)).trans aE;have ar:=Zh (al.kb (Cs:=λ_=>False) (KB.below hi) (λ_ h=>h.elim) (λh=>h) (λh=>h));have hs:=ar.hs;have aN:=λX:BK W=>X.cell an
  have aO:=λX:BK W=>X.cell ao
  have aP:=λX:BK W=>X.cell hs
  have aQ:=Zh (λX:BK W=>(callsIn_wide (n:=8)).2 (SZ (ar.below X.h).sl));have aR:=OO;have au:=Zh (I.trans (hi.mono I.size));have aS:=(Array.getElem?_eq_some_iff.1 ae).1;clear aM hi;gi_wp2;refine EN (by kernel_rfl) aR (by kernel_rfl) ?_
  repeat (gi_big_quiet_step ((gi_at_call 65;exact Fc (aQ _))))
  refine wpQuietIn_nil ?_;rintro _ ⟨X,rfl⟩;have aT:=X.cell af;have aX:X.W.frozen? ⟨w.heap.size+1,0,none⟩=false:=(X.frozen (p:=⟨w.heap.size+1,0,none⟩) (Am af)).trans aq;have aw:=(X.block aS).trans ae;have aU:=Zh (au.trans (X.h.mono au.size));generalize X.W=O at*;clear aN aO aP an af ao aq hs ae;have aV:((O.setCell ⟨w.heap.size+1,0,none⟩ (.int .i64 0)).putObj D' (.deferred none)).cell? ⟨w.heap.size+1,0,none⟩=some (.int .i64 0):=by
   have h1:(O.setCell ⟨w.heap.size+1,0,none⟩ (.int .i64 0)).cell? ⟨w.heap.size+1,0,none⟩=some (.int .i64 0):=World.cell?_setCell_same' _ _ _ (by rw [aT];rfl);exact cell_kept h1 (grownBy_putObj' _ D' (.deferred none)) (λr e=>by cases e;exact⟨_,(KeepsOthers.setCell O ⟨w.heap.size+1,0,none⟩ (.int .i64 0)).same D' _ aw rfl,rfl⟩)
  have ax:=(KeepsOthers.setCell O ⟨w.heap.size+1,0,none⟩ (.int .i64 0)).same D' _ aw rfl;gi_wp2;refine⟨by simp, .inl ⟨_,_,rfl,run_takeDeferred ax, ?_⟩⟩;refine⟨.int .i64 0, ?_,rfl,(aU.setCell (p:=⟨w.heap.size+1,0,none⟩) (by simp) _).trans (belowK_b (w:=w) (Nat.le_refl _) _ D' _ _ (by have:=I.size;omega) ax rfl rfl)⟩;simp [results,f66,go_sem,aV]
end Go.Proofs.YtiopopoohglepaaGreatDoor
namespace Go.Proofs.YtiopopoohglepaaGreatDoor
open Go.Proofs.Tryz
open Go.RowKit Go.Shelf
variable {h k last most t:Nat}{v:Value}{w w':World}
theorem RL{a mb q:Nat}{D:DW}{mem:Nat->Nat}(h:AW w a mb D [] q mem)(U:Ix w)(V: ∀b,Bn a mb D b->1<b):
 Calls prog 29 #[.pointer (some ⟨a,0,none⟩)] w λe w' => ∃ha,e= .returned (.tuple #[.pointer (some ⟨ha,0,none⟩), .int .i64 0])/\Bm w' ha a (Bn a mb D) [] q mem/\w.heap.size<=ha/\Below w.heap.size w w' :=by
 have Z:=Zh (U2 h 0 (by omega) (by simp));have I:Below w.heap.size w (w.alloc (.cells #[.pointer (some ⟨a,0,none⟩)] 131)):=(Below.refl _ w).alloc (Nat.le_refl _) _;have aa:=h.lt (.inl rfl:Bn a mb D a);have J:Bm (w.alloc (.cells #[.pointer (some ⟨a,0,none⟩)] 131)) w.heap.size a (Bn a mb D) [] q mem:=by
  refine⟨⟨mb,D,⟨by go_simp,h.alloc _,λab=>Nat.lt_irrefl _ (h.lt ab),U.below I (Nat.lt_trans (V a (.inl rfl)) aa),V⟩,rfl⟩,Sn,Nt _⟩
 have hA:=Zh (Qt J);have ac:=Zh J;have ae:=Zh I;clear h U J I;go_enter func29,ntmps29;go_wp2_with fail;refine Z.mono ?_;rintro e w' ⟨rfl,rfl⟩;go_wp2_with fail;refine hA.mono ?_;rintro e w2 ⟨rfl,O⟩;have af:=Zh (ae.trans (O.mono (by simp)));have ag:=Zh (ac.below O);clear O;go_wp2
 go_ret2
 exact⟨_,rfl,ag,Nat.le_refl _,af⟩
structure Sl where
 is:Nat
 gen:Nat
 addr:Nat
abbrev Sl.cells(s:Sl):List Value:= [.int .i64 s.is, .int .u32 s.gen, .int .i64 s.addr]
def BP(sl:List Sl):List Value:=sl.flatMap Sl.cells
structure Sl.Ok(last:Nat)(s:Sl):Prop where
 is:s.is<=2
 lo:1<=s.gen
 hi:s.gen<=last
 free:s.is=0->s.gen<last
 addr:s.addr<1099511627776
structure BV(w:World)(t:Nat)(v:Value)(most last:Nat)(sl:List Sl):Prop where
 c0:w.cell? ⟨t,0,none⟩=some (.int .i64 most)
 c1:w.cell? ⟨t,1,none⟩=some (.int .u32 last)
 c2:w.cell? ⟨t,2,none⟩=some v
 f2:w.frozen? ⟨t,2,none⟩=false
 row:w.ownsRow 0 182 3 v sl.length (BP sl)
 off:v.ownBlock≠some t
 m1:1<=most
 m2:most<=65536
 l1:1<=last
 l2:last<4294967296
 len:sl.length<=most
 ok: ∀s∈sl,s.Ok last
def A7(t:Nat)(v:Value)(b:Nat):Prop:=b=t\/v.ownBlock=some b
theorem HS(sl:List Sl):(BP sl).length=3*sl.length:=by
 induction sl with
 |nil=>rfl
 |cons s t ih=>simp only [BP,List.flatMap_cons,List.length_append,List.length_cons] at *; rw [ih];simp;omega
theorem Fz(sl:List Sl)(k:Nat)(I:k<sl.length)(j:Nat)(J:j<3):(BP sl)[3*k+j]? =(sl[k]).cells[j]? :=by
 induction sl generalizing k with
 |nil=>simp at I
 |cons s t ih=>
  cases k with
  |zero=>
   simp only [BP,List.flatMap_cons,Nat.mul_zero,Nat.zero_add,List.getElem_cons_zero];rw [List.getElem?_append_left (by simpa using J)]
  |succ k=>
   simp only [BP,List.flatMap_cons,List.getElem_cons_succ];rw [List.getElem?_append_right (by simp;omega)];rw [show 3*(k+1)+j-s.cells.length=3*k+j by simp;omega];exact ih k (by simpa using I)
theorem BV.Pg{sl:List Sl}(h:BV w t v most last sl): ∃A c,v= .slice A sl.length c:=by
 rcases h.row.2 with ⟨rfl,h0⟩|⟨g,cap,cur,rfl,_⟩
 . exact⟨none,0,by rw [h0]⟩
 . exact⟨_,_,rfl⟩
theorem BV.slot{sl:List Sl}(h:BV w t v most last sl)(O:k<sl.length):
 ∃g c,v= .slice (some ⟨g,0,none⟩) sl.length c/\g<w.heap.size/\w.cell? ⟨g,k*3,none⟩=some (.int .i64 (sl[k].is:Nat))/\w.cell? ⟨g,k*3+1,none⟩=some (.int .u32 (sl[k].gen:Nat))/\w.cell? ⟨g,k*3+2,none⟩=some (.int .i64 (sl[k].addr:Nat))/\
  w.frozen? ⟨g,k*3,none⟩=false/\w.frozen? ⟨g,k*3+1,none⟩=false/\w.frozen? ⟨g,k*3+2,none⟩=false/\w.ownsRow 0 182 3 (.slice (some ⟨g,0,none⟩) sl.length c) sl.length (BP sl):=by
 have I:=h.row;rcases h.row.2 with ⟨rfl,h0⟩|⟨g,cap,cur,rfl,V,hg,Z⟩
 . omega
 . have J:=λj (U:j<3)=>Fz sl k O j U
   refine⟨g,cap,rfl,(Array.getElem?_eq_some_iff.1 hg).1, ?_, ?_, ?_,I.frozenAt _,I.frozenAt _,I.frozenAt _,I⟩
   . rw [I.cellAt _ (by omega),show k*3=3*k+0 by omega,J 0 (by omega)];rfl
   . rw [I.cellAt _ (by omega),show k*3+1=3*k+1 by omega,J 1 (by omega)];rfl
   . rw [I.cellAt _ (by omega),show k*3+2=3*k+2 by omega,J 2 (by omega)];rfl
theorem Ll{sl:List Sl}(h:BV w t v most last sl):Calls prog 106 #[.pointer (some ⟨t,0,none⟩)] w λe w' =>e= .returned (.bool false)/\w=w' :=by
 have h0:=h.c0;have hm:=h.m1;have d1:((most:Int)==0)=false:=by simp;omega
 clear h;go_enter func106,ntmps106;go_wp2;go_ret;exact⟨rfl,rfl⟩
theorem AfI(g k:Nat)(hg:g<4294967296)(I:k<4294967296):bits BinOp.or IntKind.u64 ((g:Int)*4294967296) (k:Int)=((g*4294967296+k:Nat):Int):=by
 rw [show(g:Int)*4294967296=((g*4294967296:Nat):Int) by omega,bits_or_u64_nat _ _ (by omega) (by omega)];have:=Nat.shiftLeft_add_eq_or_of_lt (i:=32) (b:=k) (by omega) g;rw [Nat.shiftLeft_eq] at this;rw [show(2:Nat)^32=4294967296 by decide] at this;rw [this]
theorem Yj(h:Nat)(hh:h<18446744073709551616):bits BinOp.and IntKind.u64 (h:Int) 4294967295=((h%4294967296:Nat):Int):=by
 have h1:(4294967295:Int)=((2^32-1:Nat):Int):=by decide
 rw [h1,bits_and_u64_nat _ _ hh (by decide),Nat.and_two_pow_sub_one_eq_mod]
def Bd(g k:Nat):Nat:=g*4294967296+(k+1)
theorem Ry{sl:List Sl}(h:BV w t v most last sl)(I:k<sl.length):Calls prog 107 #[.pointer (some ⟨t,0,none⟩), .int .i64 k] w λe w' =>e= .returned (.int .u64 (Bd sl[k].gen k:Nat))/\w=w' :=by
 have V:=h.c2;obtain⟨g,c,rfl,hg,Z,s1,s2,_⟩:=h.slot I;have J:=h.ok _ (List.getElem_mem I);have aa:=J.hi;have ab:=h.l2;have hlen:=h.len;have ac:=h.m2;generalize O:sl[k].gen=gen at*;have U:Hid (bits BinOp.or IntKind.u64 ((gen:Int)*4294967296) ((k:Int)+1)=((Bd gen k:Nat):Int)):=Zh (by
  have:=AfI gen (k+1) (by omega) (by omega);rw [Int.natCast_add] at this;exact this)
 clear h J O;go_enter func107,ntmps107;go_wp2;go_ret;exact⟨by rw [<-U.out];rfl,rfl⟩
structure Names(sl:List Sl)(h k:Nat):Prop where
 lt:k<sl.length
 is: ∀hk:k<sl.length,sl[k].is=1
 gen: ∀hk:k<sl.length,h=Bd sl[k].gen k
def MT(sl:List Sl)(h:Nat):Prop:= ∀k,¬Names sl h k
theorem Vj{sl:List Sl}(I:BV w t v most last sl)(J:Names sl h k):
 Calls prog 131 #[.pointer (some ⟨t,0,none⟩), .int .u64 h] w λe w' => ∃g,v.ownBlock=some g/\e= .returned (.tuple #[.pointer (some ⟨g,k*3,none⟩), .int .i64 0])/\w=w' :=by
 have O:=J.lt;have ae:=I.c2;have hN:=Zh (Ll I);obtain⟨g,c,rfl,hg,ab,s1,s2,_⟩:=I.slot O;have U:=I.ok _ (List.getElem_mem O);have af:=U.hi;have ag:=I.l2;have hlen:=I.len;have ah:=I.m2;have V:=J.is O;have Z:=J.gen O;rw [V] at ab;generalize ac:sl[k].gen=gen at*;unfold Bd at Z;have hA:=Zh (Yj h (by omega));have aa:h%4294967296=k+1:=by omega
 have hdiv:Hid ((h:Int)/4294967296=(gen:Int)):=Zh (by omega);rw [aa] at hA;clear I U ac Z J V aa;go_enter func131,ntmps131;go_wp2_with fail;refine hN.mono ?_;rintro e w' ⟨rfl,rfl⟩;have ai :=hA.out;have aj :=hdiv.out;go_wp2_with fail
 go_ret2
 exact⟨g,rfl,rfl,rfl⟩
def Ycs{P}(h:P:=by
 have U:=Zh hA;clear I O J hA;go_enter func131,ntmps131;go_wp2_with fail;refine hN.mono ?_;rintro e w' ⟨rfl,rfl⟩;have V :=U.out;go_wp2_with fail
 go_ret2
 exact⟨rfl,rfl⟩):=h
theorem Yz{sl:List Sl}(I:BV w t v most last sl)(hh:h<18446744073709551616)(O:MT sl h):
 Calls prog 131 #[.pointer (some ⟨t,0,none⟩), .int .u64 h] w λe w' =>e= .returned (.tuple #[.pointer none, .int .i64 7])/\w=w' :=by
 have aj:=I.c2;have hN:=Zh (Ll I);obtain⟨A,c,rfl⟩:=I.Pg;have hlen:=I.len;have al:=I.m2;have hA:=Yj h hh;obtain⟨j,J⟩: ∃j,h%4294967296=j:=⟨_,rfl⟩;have am:j<4294967296:=by omega
 rw [J] at hA
 cases j with
 |zero=>
  exact Ycs
 |succ k=>
  by_cases V:k<sl.length
  . obtain⟨g,an,ac,hg,ae,s1,s2,_⟩:=I.slot V
    cases ac
    have Z:=I.ok _ (List.getElem_mem V);have af:=Z.hi;have ag:=Z.is;have U:sl[k].is≠1\/(sl[k].is=1/\sl[k].gen≠h/4294967296):=by
     by_cases h1:sl[k].is=1
     . refine .inr ⟨h1,λao=>O k ⟨V,λ_=>h1,λ_=> ?_⟩⟩
       unfold Bd;omega
     . exact .inl h1
    have ah:=Zh hA;obtain⟨is,aa⟩: ∃is,sl[k].is=is:=⟨_,rfl⟩;obtain⟨gen,ab⟩: ∃gen,sl[k].gen=gen:=⟨_,rfl⟩;rw [aa] at ae U ag;rw [ab] at s1 U af;obtain⟨d,hd⟩: ∃d,h/4294967296=d:=⟨_,rfl⟩;rw [hd] at U;have aq:d<4294967296:=(by omega);have ai:Hid ((h:Int)/4294967296=(d:Int)):=Zh (by omega);clear I O J Z aa ab hA hd s2;rcases U with h1|⟨rfl,h1⟩
    focus
     have d1:((is:Int) !=1)=true:=by simp;omega
    rotate_left
    focus
     have d1:((gen:Int) !=(d:Int))=true:=by simp;omega
    all_goals
     clear h1;go_enter func131,ntmps131;go_wp2_with fail;refine hN.mono ?_;rintro e w' ⟨rfl,rfl⟩;have ar :=ah.out;have au :=ai.out;go_wp2_with fail
     go_ret2
     exact⟨rfl,rfl⟩
  . exact Ycs
theorem F1(sl:List Sl)(i:Nat):(BP sl)[i]? =(sl[i/3]?).bind (λs=>s.cells[i%3]?):=by
 by_cases h:i/3<sl.length
 . rw [List.getElem?_eq_getElem h]
   have:=Fz sl (i/3) h (i%3) (Nat.mod_lt _ (by omega));rw [show 3*(i/3)+i%3=i by omega] at this;exact this
 . have h1:sl[i/3]? =none:=List.getElem?_eq_none (by omega)
   have I:(BP sl)[i]? =none:=List.getElem?_eq_none (by rw [HS];omega);rw [h1,I];rfl
theorem OH(sl:List Sl)(k:Nat)(I:k<sl.length)(n:Nat):BP (sl.set k { sl[k] with is:=n })=(BP sl).set (k*3) (.int .i64 n):=by
 apply List.ext_getElem?;intro i;rw [F1,List.getElem?_set,List.getElem?_set,F1,HS];by_cases h1:k=i/3
 . rw [if_pos h1]
   by_cases J:k*3=i
   . rw [if_pos J,if_pos I,if_pos (by omega)]
     have:i%3=0:=(by omega);rw [this];rfl
   . rw [if_neg J,if_pos I]
     subst h1;rw [List.getElem?_eq_getElem I];have:i%3=1\/i%3=2:=(by omega);rcases this with O|O<;>rw [O]<;>rfl
 . rw [if_neg h1,if_neg (by omega)]
theorem OP(sl:List Sl)(k:Nat)(J:k<sl.length)(s:Sl):BP (sl.set k s)=(((BP sl).set (k*3) (.int .i64 s.is)).set (k*3+1) (.int .u32 s.gen)).set (k*3+2) (.int .i64 s.addr):=by
 apply List.ext_getElem?;intro i;rw [F1,List.getElem?_set,List.getElem?_set,List.getElem?_set,List.getElem?_set,F1,List.length_set,List.length_set,HS];by_cases h1:k=i/3
 . rw [if_pos h1,if_pos J]
   have:i%3=0\/i%3=1\/i%3=2:=(by omega);rcases this with I|I|I
   . rw [if_neg (by omega),if_neg (by omega),if_pos (by omega),if_pos (by omega),I];rfl
   . rw [if_neg (by omega),if_pos (by omega),if_pos (by omega),I];rfl
   . rw [if_pos (by omega),if_pos (by omega),I];rfl
 . rw [if_neg h1,if_neg (by omega),if_neg (by omega),if_neg (by omega)]
theorem Ox(sl:List Sl)(s:Sl):BP (sl++ [s])=BP sl++s.cells:=by simp [BP]
theorem BV.same{sl:List Sl}(h:BV w t v most last sl)(I: ∀b,A7 t v b->w'.heap[b]? =w.heap[b]?):BV w' t v most last sl where
 c0:=(World.cell?_of_block (a:=⟨t,0,none⟩) (I t (.inl rfl))).trans h.c0
 c1:=(World.cell?_of_block (a:=⟨t,1,none⟩) (I t (.inl rfl))).trans h.c1
 c2:=(World.cell?_of_block (a:=⟨t,2,none⟩) (I t (.inl rfl))).trans h.c2
 f2:=(World.frozen?_of_block (a:=⟨t,2,none⟩) (I t (.inl rfl))).trans h.f2
 row:=by
  refine⟨h.row.1, ?_⟩;rcases h.row.2 with h1|⟨g,cap,cur,h1,J,O,U⟩
  . exact .inl h1
  . exact .inr ⟨g,cap,cur,h1,J,(I g (.inr (by rw [h1];rfl))).trans O,U⟩
 off:=h.off
 m1:=h.m1
 m2:=h.m2
 l1:=h.l1
 l2:=h.l2
 len:=h.len
 ok:=h.ok
theorem BV.lt{sl:List Sl}(h:BV w t v most last sl){b:Nat}(I:A7 t v b):b<w.heap.size:=by
 rcases I with rfl|I
 . exact Am (a:=⟨_,0,none⟩) h.c0
 . exact(h.row.lt b I).2
theorem BV.below{sl:List Sl}(h:BV w t v most last sl)(I:Below w.heap.size w w'):BV w' t v most last sl:=
 h.same λb J=>I.block b (h.lt J)
theorem BV.Aq{sl:List Sl}{G G' :Nat->Prop}(h:BV w t v most last sl)(J:Ad w G w' G')(O: ∀b,A7 t v b-> ¬G b):BV w' t v most last sl:=
 h.same λb I=>J.keep b (h.lt I) (O b I)
theorem BV.X5{g c:Nat}{sl:List Sl}(h:BV w t (.slice (some ⟨g,0,none⟩) sl.length c) most last sl)(J:k<sl.length)(n:Nat)(O:n<=2)(U:n=0->sl[k].gen<last)
 (I:w'.heap[t]? =w.heap[t]?) (V:w'.ownsRow 0 182 3 (.slice (some ⟨g,0,none⟩) sl.length c) sl.length ((BP sl).set (k*3) (.int .i64 n))):
 BV w' t (.slice (some ⟨g,0,none⟩) sl.length c) most last (sl.set k { sl[k] with is:=n }):=by
 refine⟨?_, ?_, ?_, ?_, ?_,h.off,h.m1,h.m2,h.l1,h.l2,by rw [List.length_set];exact h.len, ?_⟩
 . exact(World.cell?_of_block (a:=⟨t,0,none⟩) I).trans h.c0
 . exact(World.cell?_of_block (a:=⟨t,1,none⟩) I).trans h.c1
 . exact(World.cell?_of_block (a:=⟨t,2,none⟩) I).trans h.c2
 . exact(World.frozen?_of_block (a:=⟨t,2,none⟩) I).trans h.f2
 . rw [List.length_set,OH sl k J n]
   exact V
 . intro s hs
   rcases List.mem_or_eq_of_mem_set hs with h1|h1
   . exact h.ok s h1
   . subst h1
     have:=h.ok _ (List.getElem_mem J);exact⟨O,this.lo,this.hi,U,this.addr⟩
theorem Gj{base:Nat}{e:TypeId}{size:Nat}{n:Nat}{xs:List Value}(h:w.ownsRow base e size v n xs)(d:Nat):(w.drewN d).ownsRow base e size v n xs:=h
theorem BJ{F:Nat->Prop}(p:Addr)(v:Value)(I:F p.block):Ad w F (w.setCell p v) F:=
 ⟨rfl,rfl,rfl,by simp,λk _ J=>Below.heap_setCell _ _ _ k (λe=>J (e▸I)),λ_ h=> .inl h⟩
theorem YL{sl:List Sl}(I:BV w t v most last sl)(J:Names sl h k)(U:k<sl.length):
 Calls prog 130 #[.pointer (some ⟨t,0,none⟩), .int .u64 h] w λe w' =>e= .returned (.tuple #[.int .i64 (sl[k].addr:Nat), .int .i64 0])/\w=w' :=by
 have V:=Zh (Vj I J);obtain⟨g,c,rfl,hg,Z,s1,s2,_⟩:=I.slot U;generalize sl[k].addr=addr at*;clear I J;go_enter func130,ntmps130;go_wp2_with fail;refine V.mono ?_;rintro e w' ⟨aa,O,rfl,rfl⟩;simp only [Value.ownBlock,Option.some.injEq] at O;subst O;go_wp2
 go_ret2
 exact⟨rfl,rfl⟩
def Yfi{P}(h:P:=by
 go_wp2_with fail;refine I.mono ?_;rintro e w' ⟨rfl,rfl⟩;go_wp2
 go_ret2
 exact⟨rfl,rfl⟩):=h
theorem VU{sl:List Sl}(J:BV w t v most last sl)(hh:h<18446744073709551616)(O:MT sl h):
 Calls prog 130 #[.pointer (some ⟨t,0,none⟩), .int .u64 h] w λe w' =>e= .returned (.tuple #[.int .i64 0, .int .i64 7])/\w=w' :=by
 have I:=Zh (Yz J hh O);clear J O hh;go_enter func130,ntmps130;exact Yfi
def D3(gen last:Nat):Nat:=if gen=last then 2 else 0
theorem Rv{sl:List Sl}(I:BV w t v most last sl)(ac:Names sl h k)(V:k<sl.length):
 Calls prog 80 #[.pointer (some ⟨t,0,none⟩), .int .u64 h] w λe w' =>e= .returned (.int .i64 0)/\BV w' t v most last (sl.set k { sl[k] with is:=D3 sl[k].gen last })/\Ad w (A7 t v) w' (A7 t v):=by
 have ae:=Zh (Vj I ac);obtain⟨g,c,rfl,hg,aj,s1,s2,f0,f1,f2,_⟩:=I.slot V;have al:=I.c1;have Iw:g≠t:=λe=>I.off (by rw [e];rfl)
 have Z:=Zh I;have ag:=(I.ok _ (List.getElem_mem V)).hi;have aa:A7 t (.slice (some ⟨g,0,none⟩) sl.length c) g:= .inr rfl;obtain⟨gen,ab⟩: ∃gen,sl[k].gen=gen:=⟨_,rfl⟩;rw [ab] at s1 ag ⊢;have ah:=Zh ab;clear I ac ab s2;by_cases J:gen=last
 . have d1:((gen:Int)==(last:Int))=true:=by simp [J]
   have O:D3 gen last=2:=if_pos J;rw [O];have af:=Zh J;clear J O;go_enter func80,ntmps80;go_wp2_with fail;refine ae.mono ?_;rintro e w' ⟨ai,U,rfl,rfl⟩;simp only [Value.ownBlock,Option.some.injEq] at U;subst U;go_wp2_with fail
   go_quiet (fail)
   go_wp2;go_ret;refine⟨rfl, ?_,((BJ _ _ aa).trans (.below (AL _ _))).trans (BJ _ _ aa)⟩;have r1:=(Z.row.stored (k*3) (.int .i64 0)).1;have r2:=((Gj r1 nq).stored (k*3) (.int .i64 2)).1;rw [List.set_set] at r2;exact Z.X5 V 2 (by omega) (λe=>by omega) ((Below.heap_setCell _ _ _ t (Ne.symm Iw)).trans (Below.heap_setCell w _ _ t (Ne.symm Iw))) r2
 . have d1:((gen:Int)==(last:Int))=false:=by simp;omega
   have O:D3 gen last=0:=if_neg J;rw [O];have af:=Zh J;clear J O;go_enter func80,ntmps80;go_wp2_with fail;refine ae.mono ?_;rintro e w' ⟨ai,U,rfl,rfl⟩;simp only [Value.ownBlock,Option.some.injEq] at U;subst U;go_wp2_with fail
   go_quiet (fail)
   go_wp2;go_ret;refine⟨rfl, ?_,(BJ _ _ aa).trans (.below (AL _ _))⟩;have r1:=(Z.row.stored (k*3) (.int .i64 0)).1;exact Z.X5 V 0 (by omega) (λe=>by rw [ah.out];have:=af.out;omega) (Below.heap_setCell w _ _ t (Ne.symm Iw)) (Gj r1 nq)
theorem XH(most last:Nat)(h1:1<=most)(I:most<=65536)(J:1<=last)(O:last<4294967296)(w:World):
 Calls prog 28 #[.int .i64 most, .int .u32 last] w λe w' => ∃t,e= .returned (.tuple #[.pointer (some ⟨t,0,none⟩), .int .i64 0])/\BV w' t (.slice none 0 0) most last []/\w.heap.size<=t/\Below w.heap.size w w' :=by
 have d1:decide ((most:Int)<1)=false:=by simp;omega
 have d2:decide ((65536:Int)<(most:Int))=false:=by simp;omega
 have d3:decide ((last:Int)<1)=false:=by simp;omega
 go_enter func28,ntmps28;go_wp2
 go_ret2
 refine⟨_,rfl,⟨?_, ?_, ?_, ?_,World.ownsRow_nil _ _ _ _,by simp [Value.ownBlock],h1,I,J,O,by simp,by simp⟩,Nat.le_refl _,(Below.refl _ w).alloc (Nat.le_refl _) _⟩<;>go_simp
