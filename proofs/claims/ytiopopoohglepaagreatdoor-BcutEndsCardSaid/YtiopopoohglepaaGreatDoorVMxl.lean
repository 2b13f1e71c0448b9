/- A part. -/
import Derived.Test.YtiopopoohglepaaGreatDoorVMxk
set_option linter.all false
set_option maxRecDepth 100000
set_option maxHeartbeats 8000000
namespace Go.Proofs.YtiopopoohglepaaGreatDoor
open Go.Proofs.Tryz
open Go.RowKit Go.Shelf
variable {F F':Nat->Prop}{M bn k s t:Nat}{n:BN}{v:Value}{w:World}
section
variable {w':World}   {R:Zr} {H:List Nat} {P q most last G:Nat}
def Yka{P}(h:P:=by
 have U:=I.out;have d:=Zh (Kc (U.rb _ rfl).r2 (by show b.Ab.length<=100000;omega) aw.N (λe=>aw.off (.inr<| .inl e)) bv);exact And.intro U d):=h
def ZY{P}(h:P:=by
 have U:=I.out;have d:=Zh (Kc (U.rb _ rfl).r1 (by show b.keys.length<=100000;omega) a7.N (λe=>a7.off (.inl e)) ce);exact And.intro U d):=h
end
section
variable {w':World}   
theorem Oh(ao:CX w F v n)(k:Nat)(aq:k<n.keys.length)(ar:k<n.Ab.length):
 Calls prog 124 #[v, .int .i64 k] w λe w' =>e= .returned (.agg #[.int .u64 (n.keys[k]:Nat), .int .u64 (n.Ab[k]:Nat)])/\Below w.heap.size w w' :=by
 obtain⟨⟨O,U,V,Z,aa,ci,rfl,k1,k2,au⟩,l1,l2,l3⟩:=ao;obtain⟨d,J⟩:=Zx ((w.alloc (Obj.cells #[.slice O n.keys.length U, .slice V n.Ab.length Z, .slice aa n.kids.length ci, .int .u64 n.size] 100)).alloc (Obj.cells #[.int .u64 0, .int .u64 0] 31));obtain⟨b2,ae⟩:=Zx w.heap.size;obtain⟨I,af⟩:=Zx (w.heap.size+1);have ac:=Xb;have ag:An d b2 100 [.slice O n.keys.length U, .slice V n.Ab.length Z, .slice aa n.kids.length ci, .int .u64 n.size]:=by rw [J,ae];exact(An.new w 100 [.slice O n.keys.length U, .slice V n.Ab.length Z, .slice aa n.kids.length ci, .int .u64 n.size]).alloc _
 have aj:An d I 31 [.int .u64 0, .int .u64 0]:=by
  rw [J,af];have:=An.new (w.alloc (Obj.cells #[.slice O n.keys.length U, .slice V n.Ab.length Z, .slice aa n.kids.length ci, .int .u64 n.size] 100)) 31 [.int .u64 0, .int .u64 0]
  rwa [show(w.alloc (Obj.cells #[.slice O n.keys.length U, .slice V n.Ab.length Z, .slice aa n.kids.length ci, .int .u64 n.size] 100)).heap.size=w.heap.size+1 by simp] at this
 obtain⟨g1,aG,rfl,h1,c1⟩:=k1.num aq;obtain⟨g2,aH,rfl,aw,c2⟩:=k2.num ar;have q1:=c1 d ac;have al:=c2 d ac;have n1: ¬(g1=I):=by omega
 have n2: ¬(g2=I):=by omega
 have n3: ¬(b2=I):=by omega
 generalize n.keys[k]=ah at*;generalize n.Ab[k]=vv at*;have ax:=λX:Au (λb=>b=I) d=>X.cell (ag.at' (i:=0) rfl) n3
 have ay:=λX:Au (λb=>b=I) d=>X.cell (ag.at' (i:=1) rfl) n3
 have az:=λX:Au (λb=>b=I) d=>X.cell q1 n1
 have aA:=λX:Au (λb=>b=I) d=>X.cell al n2
 have ai:=Zh (And.intro J (And.intro ae af));have aB:=Zh ac;have am:=Zh aj;have g4:Hid (w.heap.size<=I):=Zh (by omega);clear k1 k2 au c1 c2 q1 al ag aj J ac n1 n2 n3 ae af h1 aw;go_enter func124,ntmps124;go_wp2;rw [<-ai.1,<-ai.2.2,<-ai.2.1];refine Aw (λw' => ∃X:Au (λb=>b=I) d,w' =X.W) [.r 0, .r 1, .r 2, .r 3, .r 4, .r 5, .r 6, .r 7, .r 8, .r 9, .r 10, .a 11] (Ay _ _) ?_
 iterate 11 (refine AE ?_;go_simp)
 clear ax ay az aA;obtain⟨⟨u0,u1⟩,f0,f1⟩:=Dl am.out;refine AK _ rfl (λaC an=> ?_);go_wp2;refine an _ _ (Cl (Bi (B:=λb=>b=I) (p:=⟨I,1,none⟩) (Bi (B:=λb=>b=I) (p:=⟨I,0,none⟩) (Af (Below.refl _ _)) rfl _) rfl _) (Ac _)) (AO ?_);clear an aC;have aD:=Zh (BG ((am.set 0 (.int .u64 ah)).set 1 (.int .u64 vv)));have aE:=Zh (((aB.setCell (p:=⟨I,0,none⟩) g4 (.int .u64 ah)).setCell (p:=⟨I,1,none⟩) g4 (.int .u64 vv)).drew);clear u0 u1 f0 f1;go_wp2;obtain⟨aF,r1⟩:=A2 aD.out;exact bodyPost_ret (v:= .agg #[.int .u64 ah, .int .u64 vv]) (by simp [results,f124,go_sem,aF,r1]) rfl ⟨rfl,aE⟩
end
section
variable {w':World} {N:Nat} {R:Zr} {nn:Nat}
def CA(R:Zr)(t:Nat)(l:List Nat)(k:Int):Bool:=decide (0<=k)&&(decide (k<l.length)&&decide (t<=(Ag R t (l.getD k.toNat 0)).keys.length))
def Ycb{P}(h:P:=by
 clear h d ab Z V;have aa :=aA;rw [a1] at aa;clear a1 J U aA;go_enter func127,ntmps127;go_wp2
 go_quiet (fail)
 go_wp2;go_ret;refine⟨by rw [O.out];rfl, ?_⟩;rw [<-ac.out];exact I.trans ((Tx.AL _ nq).mono I.size)):=h
theorem Og(h:Rd N w s R nn)(V:BN.A1 t){u0 u1 u3:Value}{A:Option Addr}{c:Nat}{l:List Nat}(Z:An w bn 100 [u0,u1, .slice A l.length c,u3])(d:AJ w F A (AG l))(ab: ∀x∈l,x<18446744073709551616)(az:l.length<=100)(k:Int):
 Calls prog 127 #[.agg #[.pointer (some ⟨s,0,none⟩), .int .i64 t], .pointer (some ⟨bn,0,none⟩), .int .i64 k] w λe w' =>e= .returned (.bool (CA R t l k))/\Below w.heap.size w w' :=by
 obtain⟨aa,a1⟩:=Zx (w.alloc (Obj.cells #[.pointer (some ⟨s,0,none⟩), .int .i64 t] 77));have J:=YZ;have aA:=(Z.below J).at' (i:=2) rfl;have U:An aa w.heap.size 77 [.pointer (some ⟨s,0,none⟩), .int .i64 t]:=by rw [a1];exact An.new w _ _
 have I:=Zh J;have ac:=Zh a1;by_cases h0:0<=k
 . have d0:decide (0<=k)=true:=decide_eq_true h0
   by_cases h1:k<(l.length:Int)
   . have d1:decide (k<(l.length:Int))=true:=decide_eq_true h1
     obtain⟨i,rfl⟩:=Int.eq_ofNat_of_zero_le h0;have hi:i<l.length:=(by omega);obtain⟨g,o,rfl,hg,ag⟩:=d.num hi;have aD:=ag aa J;have hx:=ab _ (List.getElem_mem hi);have O:Hid (CA R t l (i:Int)=decide (t<=(Ag R t l[i]).keys.length)):=Zh (by
      unfold CA;rw [d0,d1,Bool.true_and,Bool.true_and];simp [hi])
     generalize l[i]=x at*;have ah:=Zh (λW (an:Below w.heap.size w W)=>F6 (h.below an) t V x hx);have ao:=(λX:Au (λ_=>False) aa=>X.cell (U.at' (i:=0) rfl) (λh=>h));have aq:=(λX:Au (λ_=>False) aa=>X.cell (U.at' (i:=1) rfl) (λh=>h));obtain⟨ar,aw⟩:=X8;have aB:Hid (∀m:Nat,decide ((t:Int)<=(m:Int))=decide (t<=m)):=Zh (λm=>by simp);clear h d ab ag a1 J aA aD U Z h0 h1 V;go_enter func127,ntmps127;go_wp2;rw [<-ac.out];refine Aw (λw' => ∃X:Au (λ_=>False) aa,w' =X.W) [.r 0, .r 1, .r 2, .r 3, .r 4, .r 5, .r 6, .r 7, .r 8, .r 9, .r 10, .r 11, .r 12, .r 13, .r 14, .r 15, .r 16, .r 17, .r 18, .r 19, .r 23, .r 24, .a 20, .r 21, .r 22, .r 25, .r 26, .r 27] (Ay _ _) ?_
     iterate 22 (refine AE ?_;go_simp)
     clear ao aq ar aw;refine AK _ rfl (λax ai=> ?_);go_wp2_with fail;refine(ah _ (I.trans ((Ac aa).mono I.size))).mono ?_;rintro e aC ⟨v1,v2,v3,rfl,ae,aj⟩;have al:=Zh ((Ac aa).trans aj);obtain⟨aE,k1,rfl⟩:=Ae ae.r1;obtain⟨aF,k2,rfl⟩:=Ae ae.r2;obtain⟨aG,aH,rfl⟩:=Ae ae.r3;clear ae aj ah;generalize (Ag R t x).keys.length=m at*;generalize (Ag R t x).Ab.length=m2 at*;generalize (Ag R t x).kids.length=m3 at*;go_wp2;refine ai _ _ (Af al) ?_;clear ai ax;by_cases d:(t:Int)<=(m:Int)
     focus
      have ay:decide ((t:Int)<=(m:Int))=true:=decide_eq_true d;have af:decide (t<=m)=true:=decide_eq_true (by omega);have am:Hid (true=CA R t l (i:Int)):=Zh (by rw [O.out,af])
     rotate_left
     focus
      have ay:decide ((t:Int)<=(m:Int))=false:=decide_eq_false d;have af:decide (t<=m)=false:=decide_eq_false (by omega);have am:Hid (false=CA R t l (i:Int)):=Zh (by rw [O.out,af])
     all_goals
      iterate 5 (refine AE ?_;go_simp)
      refine AO ?_;go_wp2;go_ret;exact⟨by rw [<-am.out];rfl,I.trans (al.mono I.size)⟩
   . have d1:decide (k<(l.length:Int))=false:=decide_eq_false h1
     have O:Hid (CA R t l k=false):=Zh (by unfold CA;rw [d1];simp);exact Ycb
 . have d0:decide (0<=k)=false:=decide_eq_false h0
   have O:Hid (CA R t l k=false):=Zh (by unfold CA;rw [d0];simp);exact Ycb
end
section
variable {R:Zr} 
theorem Mq(h:Ba R)(x:Nat):Ba (AT R x none):=h.B5 x _ λws hw=>by cases hw
theorem HO(d:BN.A1 t)(h:Ba R)(n:BN)(k:Nat):Ba (BO R t n k).1:=by
 unfold BO;exact Mq (Cr d h) _
theorem QH(d:BN.A1 t)(h:Ba R)(n:BN)(k:Nat):Ba (DB R t n k).1:=by
 unfold DB;exact Cr d (Cr d h)
theorem Sc(d:BN.A1 t)(h:Ba R)(n:BN)(k:Nat):Ba (EZ R t n k).1:=by
 unfold EZ;exact Cr d (Cr d h)
theorem Rq(d:BN.A1 t)(h:Ba R)(n:BN)(k:Nat):Ba (By R t n k).1:=by
 unfold By
 split
 . exact h
 split
 . exact Sc d h _ _
 split
 . exact QH d h _ _
 split
 . exact HO d h _ _
 split
 . exact HO d h _ _
 . exact h
theorem RO(R:Zr)(t:Nat)(n:BN)(k:Nat):(BO R t n k).2.kids=n.kids.eraseIdx (k+1):=rfl
def Yfi{P}(h:P:=by
 rw [RO,List.length_eraseIdx]
 split<;>omega):=h
theorem Vm(I:n.kids.length=n.keys.length+1)(d:k<n.kids.length):(By R t n k).2.2.2<(By R t n k).2.1.kids.length:=by
 unfold By
 split
 . exact d
 split
 . exact d
 split
 . exact d
 split
 . next h0=>
   dsimp only;exact Yfi
 split
 . next h0=>
   dsimp only;exact Yfi
 . exact d
theorem TI(d:n.kids.length=n.keys.length+1)(I:k<n.keys.length):k<(BO R t n k).2.kids.length:=by
 exact Yfi
end
def JH(w:World)(s:Nat)(F:Nat->Prop)(v:Value)(g:Wh):Prop:=
 (v= .func (.func 35) #[] #[]/\g=Cu)\/(v= .func (.func 36) #[] #[]/\g=Ci)\/
 ∃(bk bt:Nat) (key:ByteArray),v= .func (.func 73) #[] #[.pointer (some ⟨bk,0,none⟩), .pointer (some ⟨bt,0,none⟩)]/\g=He key/\w.cell? ⟨bk,0,none⟩=some (.string key)/\w.cell? ⟨bt,0,none⟩=some (.pointer (some ⟨s,0,none⟩))/\ ¬F bk/\ ¬F bt
theorem JH.Ar{w':World}{g:Wh}(h:JH w s F v g)(d:Ad w F w' F'):JH w' s F' v g:=by
 rcases h with h|h|⟨V,bt,key,h1,Z,I,J,O,U⟩
 . exact .inl h
 . exact .inr (.inl h)
 . exact .inr (.inr ⟨V,bt,key,h1,Z,d.cell I O,d.cell J U,d.not (Al I) O,d.not (Al J) U⟩)
theorem XC{g:Wh}(h:JH w s F v g)(R:Zr)(n:BN):((g R n).2=true->(g R n).1<n.keys.length)/\(g R n).1<=n.keys.length:=by
 rcases h with ⟨_,rfl⟩|⟨_,rfl⟩|⟨_,_,key,_,rfl,_⟩
 . unfold Cu
   refine⟨λh=> ?_,Nat.zero_le _⟩;simp only [Bool.and_eq_true,decide_eq_true_eq] at h;exact h.2
 . unfold Ci
   split
   . refine⟨λh=> ?_,by dsimp only;omega⟩
     have:=of_decide_eq_true h;dsimp only;omega
   . exact⟨λh=>(by cases h),Nat.le_refl _⟩
 . unfold He Gx
   refine⟨λh=> ?_,(MJ _ _ _ _ (Nat.zero_le _)).2⟩;simp only [Bool.and_eq_true,decide_eq_true_eq] at h;exact h.1
section
variable {w' X:World}   {R:Zr} {H:List Nat} {P q most last G:Nat}
theorem Dv.new(O:Am w s F R H P q most last G){v1 v2 v3:Value}(I:AQ X w.heap.size v1 n.keys v2 n.Ab v3 n.kids)(V:w.heap.size<=X.heap.size)(U:n.Ok):
 Dv (X.alloc (Obj.cells #[v1,v2,v3, .int .u64 n.size] 100)) F w.heap.size X.heap.size n (v1,v2,v3):=
 ⟨λk d=>by
  rcases d with d|d
  . omega
  . exact(I.IC d).1,An.new X _ [v1,v2,v3, .int .u64 n.size],(I.lower (Nat.zero_le _)).below ((Below.refl X.heap.size X).alloc (Nat.le_refl _) _),λd=>by have:=(I.IC d).2;omega,λJ=>by have:=O.lt J;omega,λk d J=>by have:=O.lt J;have:=(I.IC d).1;omega,U⟩
theorem Dv.sz{v:V3}(d:Dv X F M bn n v){sz:Nat}(I:sz<18446744073709551616):Dv (X.setCell ⟨bn,3,none⟩ (.int .u64 sz)) F M bn ⟨n.keys,n.Ab,n.kids,sz⟩ v:=
 { ge:=d.ge
   box:=d.box.set 3 (.int .u64 sz)
   own:=d.own.blocks λk J=>Below.heap_setCell X ⟨bn,3,none⟩ _ k λe=>d.ob (by rw [<-(show k=bn from e)];exact J)
   ob:=d.ob
   nF:=d.nF
   off:=d.off
   ok:=⟨d.ok.keys,d.ok.Ab,d.ok.kids,I⟩ }
theorem Dv.YN{v:V3}(d:Dv X F M bn n v)(i:Nat)(u:Value):Below M X (X.setCell ⟨bn,i,none⟩ u):=
 ⟨rfl,rfl,rfl,by simp [World.setCell],λk I=>Below.heap_setCell X ⟨bn,i,none⟩ u k (by have:=d.ge bn (.inl rfl);show k≠bn;omega)⟩
theorem Dv.Mz{v:V3}(d:Dv X F M bn n v)(h1:n.keys.length<=1000)(I:n.Ab.length<=1000)(J:n.kids.length<=1000):CX X F (.agg #[v.1,v.2.1,v.2.2, .int .u64 n.size]) n:=
 d.own.Kv d.off n.size h1 I J
theorem Ad.P6{X:World}{v v' :V3}(h:Ad w (λk=>F k\/DD bn v k) X (λk=>F' k\/DD bn v' k))(U: ∀k,DD bn v k->w.heap.size<=k):Ad w F X F' :=
 ⟨h.os,h.tape,h.output,h.size,λk I V=>h.keep k I λd=>by
  rcases d with d|d
  . exact V d
  . have:=U k d;omega,λk I=>by
  rcases h.grow k (.inl I) with J|J
  . rcases J with O|O
    . exact .inl O
    . exact .inr (U k O)
  . exact .inr J⟩
end
section
variable {w':World}   {R:Zr} {H:List Nat} {P q most last G:Nat}
def SY(w:World)(s:Nat)(F:Nat->Prop)(P q most last G M bn:Nat)(v:V3)(p:(Zr) × BN × List Nat × Nat)(e:Ending)(w' :World):Prop:=
 ∃(F' :Nat->Prop) (H' :List Nat) (v' :V3),e= .returned (.int .i64 p.2.2.2)/\Am w' s F' p.1 H' P q most last G/\Dv w' F' M bn p.2.1 v' /\Ad w (λk=>F k\/DD bn v k) w' (λk=>F' k\/DD bn v' k)
theorem DC(R:Zr)(t:Nat)(n:BN)(k:Nat):CA R t n.kids (k:Int)=Bk R t n k:=by
 unfold CA Bk;have h1:decide ((0:Int)<=(k:Int))=true:=decide_eq_true (by omega);have d:decide ((k:Int)<(n.kids.length:Int))=decide (k<n.kids.length):=decide_eq_decide.2 (by omega);rw [h1,d,Bool.true_and];rfl
theorem Le(R:Zr)(t:Nat)(l:List Nat):CA R t l (-1)=false:=by
 unfold CA;rfl
def Ybi{P}(h:P:=by
 rw [an.out,c0] at I;have d:=Zh I;clear I;go_wp2_with fail;rw [<-al.1,<-al.2];refine d.mono ?_;rintro e J ⟨rfl,U⟩;clear d;have ah:=Below.trans aw (U.mono aw.size);obtain⟨aa,V⟩:=A2 (ag.below (U));have au:=Zh (aA _ _ ah rfl (by
  unfold By;rw [if_pos c0]))
 go_wp2;go_ret;exact au.out):=h
def Yo{P}(h:P:=by
 clear aq ao ax ay az aa V;go_wp2;go_ret;exact au.out):=h
def Yet{P}(h:P:=by
 have ac:=c2;unfold Bk at ac;simp only [Bool.and_eq_true,decide_eq_true_eq] at ac;have:=am.2;omega):=h
def Ygb{P}(h:P:=by
 unfold Bk at ac;simp only [Bool.and_eq_true,decide_eq_true_eq] at ac;omega):=h
def Vw{P}(h:P:=by
 have ah:=Below.trans aw (U.mono aw.size);exact ah):=h
def Wx{P}(h:P:=by
 have ai:=Below.trans ah (af.mono ah.size);exact ai):=h
def Yf{P}(h:P:=by
 have d:=Below.trans ai (ar.mono ai.size);exact d):=h
def Ze{P}(h:P:=by
 have I:=aj.out O aw ((j:Int)+1);exact I):=h
end
