/- A part. -/
import Derived.Test.YtiopopoohglepaaGreatDoorPMxk
set_option linter.all false
set_option maxRecDepth 100000
set_option maxHeartbeats 8000000
namespace Go.Proofs.YtiopopoohglepaaGreatDoor
open Go.Proofs.Tryz
open Go.RowKit Go.Shelf
variable {F F':Nat->Prop}{M bn k s t:Nat}{n:BN}{v:Value}{w:World}
section
variable {w':World}   {R:Zr} {H:List Nat} {P q most last G:Nat}
def Ykh{P}(h:P:=by
 have U:=I.out;have J:=Zh (Kd (U.rb _ rfl).r2 (by show b.Ab.length<=100000;omega) aw.N (λe=>aw.off (.inr<| .inl e)) bv);exact And.intro U J):=h
def Ykn{P}(h:P:=by
 have U:=I.out;have J:=Zh (Kd (U.rb _ rfl).r1 (by show b.keys.length<=100000;omega) a8.N (λe=>a8.off (.inl e)) cd);exact And.intro U J):=h
end
section
variable {w':World}   
theorem Ol(aq:C3 w F v n)(k:Nat)(ar:k<n.keys.length)(au:k<n.Ab.length):
 Calls prog 124 #[v, .int .i64 k] w λe w' =>e= .returned (.agg #[.int .u64 (n.keys[k]:Nat), .int .u64 (n.Ab[k]:Nat)])/\Below w.heap.size w w' :=by
 obtain⟨⟨U,V,Z,aa,ac,ci,rfl,k1,k2,aw⟩,l1,l2,l3⟩:=aq;obtain⟨O,J⟩:=Zx ((w.alloc (Obj.cells #[.slice U n.keys.length V, .slice Z n.Ab.length aa, .slice ac n.kids.length ci, .int .u64 n.size] 100)).alloc (Obj.cells #[.int .u64 0, .int .u64 0] 31));obtain⟨b2,af⟩:=Zx w.heap.size;obtain⟨I,ag⟩:=Zx (w.heap.size+1);have ae:=Yc;have ah:An O b2 100 [.slice U n.keys.length V, .slice Z n.Ab.length aa, .slice ac n.kids.length ci, .int .u64 n.size]:=by rw [J,af];exact(An.new w 100 [.slice U n.keys.length V, .slice Z n.Ab.length aa, .slice ac n.kids.length ci, .int .u64 n.size]).alloc _
 have al:An O I 31 [.int .u64 0, .int .u64 0]:=by
  rw [J,ag];have:=An.new (w.alloc (Obj.cells #[.slice U n.keys.length V, .slice Z n.Ab.length aa, .slice ac n.kids.length ci, .int .u64 n.size] 100)) 31 [.int .u64 0, .int .u64 0]
  rwa [show(w.alloc (Obj.cells #[.slice U n.keys.length V, .slice Z n.Ab.length aa, .slice ac n.kids.length ci, .int .u64 n.size] 100)).heap.size=w.heap.size+1 by simp] at this
 obtain⟨g1,aH,rfl,h1,c1⟩:=k1.num ar;obtain⟨g2,aI,rfl,ax,c2⟩:=k2.num au;have q1:=c1 O ae;have am:=c2 O ae;have n1: ¬(g1=I):=by omega
 have n2: ¬(g2=I):=by omega
 have n3: ¬(b2=I):=by omega
 generalize n.keys[k]=ai at*;generalize n.Ab[k]=vv at*;have ay:=λX:Au (λb=>b=I) O=>X.cell (ah.at' (i:=0) rfl) n3
 have az:=λX:Au (λb=>b=I) O=>X.cell (ah.at' (i:=1) rfl) n3
 have aA:=λX:Au (λb=>b=I) O=>X.cell q1 n1
 have aB:=λX:Au (λb=>b=I) O=>X.cell am n2
 have aj:=Zh (And.intro J (And.intro af ag));have aC:=Zh ae;have an:=Zh al;have g4:Hid (w.heap.size<=I):=Zh (by omega);clear k1 k2 aw c1 c2 q1 am ah al J ae n1 n2 n3 af ag h1 ax;go_enter func124,ntmps124;go_wp2;rw [<-aj.1,<-aj.2.2,<-aj.2.1];refine As (λw' => ∃X:Au (λb=>b=I) O,w' =X.W) [.r 0, .r 1, .r 2, .r 3, .r 4, .r 5, .r 6, .r 7, .r 8, .r 9, .r 10, .a 11] (Ay _ _) ?_
 iterate 11 (refine AH ?_;go_simp)
 clear ay az aA aB;obtain⟨⟨u0,u1⟩,f0,f1⟩:=CV an.out;refine AI _ rfl (λaD ao=> ?_);go_wp2;refine ao _ _ (Ck (Bj (B:=λb=>b=I) (p:=⟨I,1,none⟩) (Bj (B:=λb=>b=I) (p:=⟨I,0,none⟩) (Ag (Below.refl _ _)) rfl _) rfl _) (Ac _)) (AP ?_);clear ao aD;have aE:=Zh (BE ((an.set 0 (.int .u64 ai)).set 1 (.int .u64 vv)));have aF:=Zh (((aC.setCell (p:=⟨I,0,none⟩) g4 (.int .u64 ai)).setCell (p:=⟨I,1,none⟩) g4 (.int .u64 vv)).drew);clear u0 u1 f0 f1;go_wp2;obtain⟨aG,r1⟩:=AX aE.out;exact bodyPost_ret (v:= .agg #[.int .u64 ai, .int .u64 vv]) (by simp [results,f124,go_sem,aG,r1]) rfl ⟨rfl,aF⟩
end
section
variable {w':World} {N:Nat} {R:Zr} {nn:Nat}
def CB(R:Zr)(t:Nat)(l:List Nat)(k:Int):Bool:=decide (0<=k)&&(decide (k<l.length)&&decide (t<=(Af R t (l.getD k.toNat 0)).keys.length))
def Yca{P}(h:P:=by
 clear h J ae ac ab;have O :=a7;rw [U] at O;clear U aa I a7;go_enter func127,ntmps127;go_wp2
 go_quiet (fail)
 go_wp2;go_ret;refine⟨by rw [Z.out];rfl, ?_⟩;rw [<-af.out];exact V.trans ((Tx.AL _ nq).mono V.size)):=h
theorem Oj(h:Rd N w s R nn)(ab:BN.A0 t){u0 u1 u3:Value}{A:Option Addr}{c:Nat}{l:List Nat}(ac:An w bn 100 [u0,u1, .slice A l.length c,u3])(J:AK w F A (AF l))(ae: ∀x∈l,x<18446744073709551616)(aA:l.length<=100)(k:Int):
 Calls prog 127 #[.agg #[.pointer (some ⟨s,0,none⟩), .int .i64 t], .pointer (some ⟨bn,0,none⟩), .int .i64 k] w λe w' =>e= .returned (.bool (CB R t l k))/\Below w.heap.size w w' :=by
 obtain⟨O,U⟩:=Zx (w.alloc (Obj.cells #[.pointer (some ⟨s,0,none⟩), .int .i64 t] 77));have aa:=EI;have a7:=(ac.below aa).at' (i:=2) rfl;have I:An O w.heap.size 77 [.pointer (some ⟨s,0,none⟩), .int .i64 t]:=by rw [U];exact An.new w _ _
 have V:=Zh aa;have af:=Zh U;by_cases h0:0<=k
 . have d0:decide (0<=k)=true:=decide_eq_true h0
   by_cases h1:k<(l.length:Int)
   . have d1:decide (k<(l.length:Int))=true:=decide_eq_true h1
     obtain⟨i,rfl⟩:=Int.eq_ofNat_of_zero_le h0;have hi:i<l.length:=(by omega);obtain⟨g,o,rfl,hg,ai⟩:=J.num hi;have be:=ai O aa;have hx:=ae _ (List.getElem_mem hi);have Z:Hid (CB R t l (i:Int)=decide (t<=(Af R t l[i]).keys.length)):=Zh (by
      unfold CB;rw [d0,d1,Bool.true_and,Bool.true_and];simp [hi])
     generalize l[i]=x at*;have aj:=Zh (λW (aq:Below w.heap.size w W)=>F9 (h.below aq) t ab x hx);obtain⟨ar,au⟩:=Yip;obtain⟨aw,ax⟩:=Y7;have aB:Hid (∀m:Nat,decide ((t:Int)<=(m:Int))=decide (t<=m)):=Zh (λm=>by simp);clear h J ae ai U aa a7 be I ac h0 h1 ab;go_enter func127,ntmps127;go_wp2;rw [<-af.out];refine As (λw' => ∃X:Au (λ_=>False) O,w' =X.W) [.r 0, .r 1, .r 2, .r 3, .r 4, .r 5, .r 6, .r 7, .r 8, .r 9, .r 10, .r 11, .r 12, .r 13, .r 14, .r 15, .r 16, .r 17, .r 18, .r 19, .r 23, .r 24, .a 20, .r 21, .r 22, .r 25, .r 26, .r 27] (Ay _ _) ?_
     iterate 22 (refine AH ?_;go_simp)
     clear ar au aw ax;refine AI _ rfl (λay al=> ?_);go_wp2_with fail;refine(aj _ (V.trans ((Ac O).mono V.size))).mono ?_;rintro e aC ⟨v1,v2,v3,rfl,ag,am⟩;have an:=Zh ((Ac O).trans am);obtain⟨aD,k1,rfl⟩:=Ae ag.r1;obtain⟨aE,k2,rfl⟩:=Ae ag.r2;obtain⟨aF,aG,rfl⟩:=Ae ag.r3;clear ag am aj;generalize (Af R t x).keys.length=m at*;generalize (Af R t x).Ab.length=m2 at*;generalize (Af R t x).kids.length=m3 at*;go_wp2;refine al _ _ (Ag an) ?_;clear al ay;by_cases J:(t:Int)<=(m:Int)
     focus
      have az:decide ((t:Int)<=(m:Int))=true:=decide_eq_true J;have ah:decide (t<=m)=true:=decide_eq_true (by omega);have ao:Hid (true=CB R t l (i:Int)):=Zh (by rw [Z.out,ah])
     rotate_left
     focus
      have az:decide ((t:Int)<=(m:Int))=false:=decide_eq_false J;have ah:decide (t<=m)=false:=decide_eq_false (by omega);have ao:Hid (false=CB R t l (i:Int)):=Zh (by rw [Z.out,ah])
     all_goals
      iterate 5 (refine AH ?_;go_simp)
      refine AP ?_;go_wp2;go_ret;exact⟨by rw [<-ao.out];rfl,V.trans (an.mono V.size)⟩
   . have d1:decide (k<(l.length:Int))=false:=decide_eq_false h1
     have Z:Hid (CB R t l k=false):=Zh (by unfold CB;rw [d1];simp);exact Yca
 . have d0:decide (0<=k)=false:=decide_eq_false h0
   have Z:Hid (CB R t l k=false):=Zh (by unfold CB;rw [d0];simp);exact Yca
end
section
variable {R:Zr} 
theorem Mu(h:A6 R)(x:Nat):A6 (AQ R x none):=h.B7 x _ λws hw=>by cases hw
theorem HM(I:BN.A0 t)(h:A6 R)(n:BN)(k:Nat):A6 (BO R t n k).1:=by
 unfold BO;exact Mu (Ct I h) _
theorem QP(I:BN.A0 t)(h:A6 R)(n:BN)(k:Nat):A6 (DF R t n k).1:=by
 unfold DF;exact Ct I (Ct I h)
theorem Sz(I:BN.A0 t)(h:A6 R)(n:BN)(k:Nat):A6 (E1 R t n k).1:=by
 unfold E1;exact Ct I (Ct I h)
theorem RE(I:BN.A0 t)(h:A6 R)(n:BN)(k:Nat):A6 (Bw R t n k).1:=by
 unfold Bw
 split
 . exact h
 split
 . exact Sz I h _ _
 split
 . exact QP I h _ _
 split
 . exact HM I h _ _
 split
 . exact HM I h _ _
 . exact h
theorem R8(R:Zr)(t:Nat)(n:BN)(k:Nat):(BO R t n k).2.kids=n.kids.eraseIdx (k+1):=rfl
def Yfm{P}(h:P:=by
 rw [R8,List.length_eraseIdx]
 split<;>omega):=h
theorem VI(J:n.kids.length=n.keys.length+1)(I:k<n.kids.length):(Bw R t n k).2.2.2<(Bw R t n k).2.1.kids.length:=by
 unfold Bw
 split
 . exact I
 split
 . exact I
 split
 . exact I
 split
 . next h0=>
   dsimp only;exact Yfm
 split
 . next h0=>
   dsimp only;exact Yfm
 . exact I
theorem T0(I:n.kids.length=n.keys.length+1)(J:k<n.keys.length):k<(BO R t n k).2.kids.length:=by
 exact Yfm
end
def JF(w:World)(s:Nat)(F:Nat->Prop)(v:Value)(g:Wh):Prop:=
 (v= .func (.func 35) #[] #[]/\g=Cv)\/(v= .func (.func 36) #[] #[]/\g=Ci)\/
 ∃(bk bt:Nat) (key:ByteArray),v= .func (.func 73) #[] #[.pointer (some ⟨bk,0,none⟩), .pointer (some ⟨bt,0,none⟩)]/\g=Ha key/\w.cell? ⟨bk,0,none⟩=some (.string key)/\w.cell? ⟨bt,0,none⟩=some (.pointer (some ⟨s,0,none⟩))/\ ¬F bk/\ ¬F bt
theorem JF.Aq{w':World}{g:Wh}(h:JF w s F v g)(I:Ad w F w' F'):JF w' s F' v g:=by
 rcases h with h|h|⟨Z,bt,key,h1,aa,J,O,U,V⟩
 . exact .inl h
 . exact .inr (.inl h)
 . exact .inr (.inr ⟨Z,bt,key,h1,aa,I.cell J U,I.cell O V,I.not (Am J) U,I.not (Am O) V⟩)
theorem X3{g:Wh}(h:JF w s F v g)(R:Zr)(n:BN):((g R n).2=true->(g R n).1<n.keys.length)/\(g R n).1<=n.keys.length:=by
 rcases h with ⟨_,rfl⟩|⟨_,rfl⟩|⟨_,_,key,_,rfl,_⟩
 . unfold Cv
   refine⟨λh=> ?_,Nat.zero_le _⟩;simp only [Bool.and_eq_true,decide_eq_true_eq] at h;exact h.2
 . unfold Ci
   split
   . refine⟨λh=> ?_,by dsimp only;omega⟩
     have:=of_decide_eq_true h;dsimp only;omega
   . exact⟨λh=>(by cases h),Nat.le_refl _⟩
 . unfold Ha Gw
   refine⟨λh=> ?_,(MN _ _ _ _ (Nat.zero_le _)).2⟩;simp only [Bool.and_eq_true,decide_eq_true_eq] at h;exact h.1
section
variable {w' X:World}   {R:Zr} {H:List Nat} {P q most last G:Nat}
theorem Dz.new(U:Ah w s F R H P q most last G){v1 v2 v3:Value}(J:AS X w.heap.size v1 n.keys v2 n.Ab v3 n.kids)(Z:w.heap.size<=X.heap.size)(V:n.Ok):
 Dz (X.alloc (Obj.cells #[v1,v2,v3, .int .u64 n.size] 100)) F w.heap.size X.heap.size n (v1,v2,v3):=
 ⟨λk I=>by
  rcases I with I|I
  . omega
  . exact(J.Iv I).1,An.new X _ [v1,v2,v3, .int .u64 n.size],(J.lower (Nat.zero_le _)).below ((Below.refl X.heap.size X).alloc (Nat.le_refl _) _),λI=>by have:=(J.Iv I).2;omega,λO=>by have:=U.lt O;omega,λk I O=>by have:=U.lt O;have:=(J.Iv I).1;omega,V⟩
theorem Dz.sz{v:V3}(I:Dz X F M bn n v){sz:Nat}(J:sz<18446744073709551616):Dz (X.setCell ⟨bn,3,none⟩ (.int .u64 sz)) F M bn ⟨n.keys,n.Ab,n.kids,sz⟩ v:=
 { ge:=I.ge
   box:=I.box.set 3 (.int .u64 sz)
   own:=I.own.blocks λk O=>Below.heap_setCell X ⟨bn,3,none⟩ _ k λe=>I.ob (by rw [<-(show k=bn from e)];exact O)
   ob:=I.ob
   nF:=I.nF
   off:=I.off
   ok:=⟨I.ok.keys,I.ok.Ab,I.ok.kids,J⟩ }
theorem Dz.Zb{v:V3}(I:Dz X F M bn n v)(i:Nat)(u:Value):Below M X (X.setCell ⟨bn,i,none⟩ u):=
 ⟨rfl,rfl,rfl,by simp [World.setCell],λk J=>Below.heap_setCell X ⟨bn,i,none⟩ u k (by have:=I.ge bn (.inl rfl);show k≠bn;omega)⟩
theorem Dz.MD{v:V3}(I:Dz X F M bn n v)(h1:n.keys.length<=1000)(J:n.Ab.length<=1000)(O:n.kids.length<=1000):C3 X F (.agg #[v.1,v.2.1,v.2.2, .int .u64 n.size]) n:=
 I.own.Kw I.off n.size h1 J O
theorem Ad.Qe{X:World}{v v' :V3}(h:Ad w (λk=>F k\/DH bn v k) X (λk=>F' k\/DH bn v' k))(V: ∀k,DH bn v k->w.heap.size<=k):Ad w F X F' :=
 ⟨h.os,h.tape,h.output,h.size,λk J Z=>h.keep k J λI=>by
  rcases I with I|I
  . exact Z I
  . have:=V k I;omega,λk J=>by
  rcases h.grow k (.inl J) with O|O
  . rcases O with U|U
    . exact .inl U
    . exact .inr (V k U)
  . exact .inr O⟩
end
section
variable {w':World}   {R:Zr} {H:List Nat} {P q most last G:Nat}
def Tg(w:World)(s:Nat)(F:Nat->Prop)(P q most last G M bn:Nat)(v:V3)(p:(Zr) × BN × List Nat × Nat)(e:Ending)(w' :World):Prop:=
 ∃(F' :Nat->Prop) (H' :List Nat) (v' :V3),e= .returned (.int .i64 p.2.2.2)/\Ah w' s F' p.1 H' P q most last G/\Dz w' F' M bn p.2.1 v' /\Ad w (λk=>F k\/DH bn v k) w' (λk=>F' k\/DH bn v' k)
theorem DG(R:Zr)(t:Nat)(n:BN)(k:Nat):CB R t n.kids (k:Int)=Bl R t n k:=by
 unfold CB Bl;have h1:decide ((0:Int)<=(k:Int))=true:=decide_eq_true (by omega);have I:decide ((k:Int)<(n.kids.length:Int))=decide (k<n.kids.length):=decide_eq_decide.2 (by omega);rw [h1,I,Bool.true_and];rfl
theorem Lj(R:Zr)(t:Nat)(l:List Nat):CB R t l (-1)=false:=by
 unfold CB;rfl
def Ybh{P}(h:P:=by
 rw [an.out,c0] at I;have J:=Zh I;clear I;go_wp2_with fail;rw [<-al.1,<-al.2];refine J.mono ?_;rintro e O ⟨rfl,Z⟩;clear J;have ah:=Below.trans aw (Z.mono aw.size);obtain⟨ac,aa⟩:=AX (ag.below (Z));have au:=Zh (aA _ _ ah rfl (by
  unfold Bw;rw [if_pos c0]))
 go_wp2;go_ret;exact au.out):=h
def YK{P}(h:P:=by
 clear ao aq az ax ay ac aa;go_wp2;go_ret;exact au.out):=h
def Yex{P}(h:P:=by
 have ae:=c2;unfold Bl at ae;simp only [Bool.and_eq_true,decide_eq_true_eq] at ae;have:=am.2;omega):=h
def Yge{P}(h:P:=by
 unfold Bl at ae;simp only [Bool.and_eq_true,decide_eq_true_eq] at ae;omega):=h
def VD{P}(h:P:=by
 have ah:=Below.trans aw (Z.mono aw.size);exact ah):=h
def Xb{P}(h:P:=by
 have ai:=Below.trans ah (af.mono ah.size);exact ai):=h
def XL{P}(h:P:=by
 have I:=Below.trans ai (ar.mono ai.size);exact I):=h
def Zl{P}(h:P:=by
 have I:=aj.out O aw ((j:Int)+1);exact I):=h
end
