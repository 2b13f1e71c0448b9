/- A part. -/
import Derived.Test.YtiopopoohglepaaGreatDoorPMxo
import Derived.Laws.BytesArg
import Derived.Test.YtiopopoohglepaaGreatDoorRows
import Derived.LaidMore
import Derived.OpenShut
import Derived.ShutString
import Derived.ChangeOld
import Derived.Stop.Joined
import Derived.Deep.Slices
import Derived.Deep.Fields
import Derived.ChangeSame
import Derived.Deep.SlicePairs
import Derived.ChangeSlices
set_option linter.all false
set_option maxRecDepth 100000
set_option maxHeartbeats 8000000
namespace Go.Proofs.YtiopopoohglepaaGreatDoor
open Go.Proofs.Tryz
open Go.RowKit Go.Shelf
variable {N nn s:Nat}{R:Zr}{w:World}
theorem QX(t:Int)(w:World):Calls prog 42 #[.pointer none, .int .i64 t] w λe w' =>e= .returned (.int .i64 1)/\w=w' :=by
 go_enter func42,ntmps42;go_wp2_with fail;refine(Pj 0 w).mono ?_;rintro e w2 ⟨rfl,rfl⟩;go_wp2;go_ret;exact⟨rfl,rfl⟩
theorem P6(h:Rd N w s R nn){t:Int}(O:t<2\/16<t):
 Calls prog 42 #[.pointer (some ⟨s,0,none⟩), .int .i64 t] w λe w' =>e= .returned (.int .i64 2)/\w=w' :=by
 have ai:=Gx h 0 (by decide);obtain⟨Z,lb,U,V⟩:=C9 R 0;rw [U] at ai;obtain⟨_,I⟩:=Qz;have J:=Zh (L6 O w);clear h ai U V O;exact Yct
section
variable  {p:Option Addr} {t:Int} {er:Nat} (hA:Calls prog 42 #[.pointer p, .int .i64 t] w λe w' =>e= .returned (.int .i64 er)/\w=w')
include hA
theorem Me(h0:er≠0)(x:Nat):Calls prog 21 #[.pointer p, .int .i64 t, .int .u64 x] w λe w' =>e= .returned (.int .i64 er)/\w' =w:=by
 have I:=Zh hA;have d0:((er:Int) !=0)=true:=by simp;omega
 clear hA;go_enter func21,ntmps21;exact Ycv
end
theorem Uo(h:Rd N w s R nn){t:Int}(aa:t<2\/16<t)(x:Nat):Calls prog 68 #[.pointer (some ⟨s,0,none⟩), .int .i64 t, .int .u64 x] w λe w' =>e= .returned (.tuple #[.agg #[.slice none 0 0, .slice none 0 0, .slice none 0 0, .int .u64 0], .int .i64 2])/\Below w.heap.size w w' :=by
 obtain⟨O,aA⟩:=Zx ((((w.alloc (Obj.cells #[.pointer (some ⟨s,0,none⟩)] 24)).alloc (Obj.cells #[.int .u64 x] 23)).alloc (Obj.cells #[.slice none 0 0, .slice none 0 0, .slice none 0 0, .int .u64 0] 100)).alloc (Obj.cells #[.int .i64 0] 25));have V:=Ymc;obtain⟨x6,x7⟩:=Yrf;obtain⟨b6,J⟩:=Zx (w.heap.size+1+1);obtain⟨b7,U⟩:=Zx (w.heap.size+1+1+1);rw [<-U] at x7;rw [<-J] at x6;have ah:b6≠b7:=by omega
 have g6:w.heap.size<=b6:=by omega
 have g7:w.heap.size<=b7:=by omega
 have ai:=ZZ;obtain⟨ao,lb,ab,aj⟩:=C9 R 0;rw [ab] at ai;obtain⟨_,al⟩:=Qz;have am:=Zh (Sp aa O);have ac:=Zh (Dk x6 x7 ah (.slice none 0 0) (.slice none 0 0) (.slice none 0 0) (.int .u64 0) (.int .i64 2));have an:=Zh (EO V g6 g7 (.slice none 0 0) (.slice none 0 0) (.slice none 0 0) (.int .u64 0) (.int .i64 2));have I:=Zh x6;have ae:=Zh x7;have Z:=Zh (And.intro aA (And.intro J U));clear h aa ai ab aj aA J U x6 x7 V g6 g7;go_enter func68,ntmps68;go_wp2_with fail;rw [<-Z.1,<-Z.2.2,<-Z.2.1];refine al.mono ?_;rintro e w1 ⟨rfl,rfl⟩;go_wp2_with fail;refine am.mono ?_;rintro e w1 ⟨rfl,rfl⟩;obtain⟨aq,ar,au,aw⟩:=C5 I.out;have ax:=ae.at' (i:=0) rfl;have ay:=I.free 0;have az:=I.free 1;have aB:=I.free 2;have aC:=I.free 3;have aD:=ae.free 0;go_wp2;obtain⟨af,r1,r2,r3⟩:=C5 ac.1;have ag:=ac.2.at' (i:=0) rfl;unfold Cd at af r1 r2 r3 ag;refine bodyPost_ret (v:= .tuple #[.agg #[.slice none 0 0, .slice none 0 0, .slice none 0 0, .int .u64 0], .int .i64 2]) (by simp [results,f68,go_sem,af,r1,r2,r3,ag]) rfl ⟨rfl,an⟩
def EY(p:Option Addr)(t:Int)(root:Nat)(key:ByteArray)(er:Nat)(w:World):Prop:=Calls prog 30 #[.pointer p, .int .i64 t, .int .u64 root, .string key] w λe w' =>e= .returned (.tuple #[.agg #[.pointer none, .int .i64 0], .int .i64 er])/\Below w.heap.size w w'
theorem HK(t:Int)(root:Nat)(key:ByteArray)(w:World):EY none t root key 1 w:=by
 unfold EY;obtain⟨O,U⟩:=Zx (w.alloc (Obj.cells #[.pointer none, .int .i64 0] 77));obtain⟨Z,ac⟩:=Zx w.heap.size;have ab:=EI;have I:=Zk;have V:w.heap.size<=Z:=by omega
 obtain⟨⟨d0,ag⟩,f0,f1⟩:=CV I;have ah:=Zh ((ab.setCell (p:=⟨Z,0,none⟩) V (.pointer none)).setCell (p:=⟨Z,1,none⟩) V (.int .i64 0));have ai:=Zh ((I.set 0 (.pointer none)).set 1 (.int .i64 0));have aa:=Zh (And.intro U ac);clear U ac ab I V;go_enter func30,ntmps30;go_wp2_with fail;rw [<-aa.1];refine(Pj 0 O).mono ?_;rintro e w2 ⟨rfl,rfl⟩;rw [aa.2] at d0 ag f0 f1;go_wp2;obtain⟨ae,r1⟩:=AX ai.out;have af:=ah.out;rw [aa.2] at ae r1 af;exact bodyPost_ret (v:= .tuple #[.agg #[.pointer none, .int .i64 0], .int .i64 1]) (by simp [results,f30,go_sem,ae,r1]) rfl ⟨rfl,af⟩
section
variable {w':World}   
def Ykx{P}(h:P:=by
 have I:=ah.below ab;have J:=Zh (((af.trans (ab.mono af.size)).setCell (p:=⟨Z,0,none⟩) ag (.pointer none)).setCell (p:=⟨Z,1,none⟩) ag (.int .i64 0));have O:=Zh ((I.set 0 (.pointer none)).set 1 (.int .i64 0));exact And.intro I (And.intro J O)):=h
theorem QQ(h:Rd N w s R nn){t:Int}(I:t<2\/16<t)(root:Nat)(key:ByteArray):EY (some ⟨s,0,none⟩) t root key 2 w:=by
 unfold EY;obtain⟨O,U⟩:=Zx (w.alloc (Obj.cells #[.pointer none, .int .i64 0] 77));obtain⟨Z,ac⟩:=Zx w.heap.size;have V:=EI;have J:=Zk;have ai:=ZZ;obtain⟨az,lb,aj,ar⟩:=C9 R 0;rw [aj] at ai;obtain⟨_,al⟩:=Qz;have am:=Zh (Uo (h.below V) I root);have au:=Zh (λW=>L6 I W);have af:=Zh V;obtain⟨ah,aa⟩:=K7;have ag:=Ymm;clear h I ai aj ar U ac V J;go_enter func30,ntmps30;go_wp2_with fail;rw [<-aa.1];refine al.mono ?_;rintro e w2 ⟨rfl,rfl⟩;clear al;go_wp2_with fail;refine am.mono ?_;rintro e w3 ⟨rfl,ae⟩;have ab:Below O.heap.size O (w3.alloc (Obj.cells #[.slice none 0 0, .slice none 0 0, .slice none 0 0, .int .u64 0] 100)):=ae.alloc ae.size _;obtain⟨an,aw,ax⟩:=Ykx;obtain⟨⟨d0,ay⟩,f0,f1⟩:=CV an;rw [aa.2] at d0 ay f0 f1;clear ab ae an am;go_wp2_with fail;refine(au _).mono ?_;rintro e aA ⟨rfl,rfl⟩;go_wp2;obtain⟨ao,r1⟩:=AX ax.out;have aq:=aw.out;rw [aa.2] at ao r1 aq;exact bodyPost_ret (v:= .tuple #[.agg #[.pointer none, .int .i64 0], .int .i64 2]) (by simp [results,f30,go_sem,ao,r1]) rfl ⟨rfl,aq⟩
theorem Ma(h:Rd N w s R nn){t:Nat}(aa:BN.A0 t){root:Nat}(hx:root<18446744073709551616){key:ByteArray}{er:Nat}(he:(1000<key.size/\er=4)\/(key.size<=1000/\root≠0/\Bk R t root≠0/\er=8)):
 EY (some ⟨s,0,none⟩) (t:Nat) root key er w:=by
 unfold EY;obtain⟨O,U⟩:=Zx (w.alloc (Obj.cells #[.pointer none, .int .i64 0] 77));obtain⟨Z,ac⟩:=Zx w.heap.size;have V:=EI;have J:=Zk;have ai:=ZZ;obtain⟨aQ,lb,aq,aA⟩:=C9 R 0;rw [aq] at ai;obtain⟨_,ar⟩:=Qz;obtain⟨au,aB,_⟩:=Ynl;have ae:=Zh V;obtain⟨aC,al⟩:=K7;have ag:=Ymm;obtain⟨aE,am⟩:=Zx (Bk R t root);have aw:=Zh am;have aF:Hid ((decide ((1000:Int)<(key.size:Int))=true/\er=4)\/(decide ((1000:Int)<(key.size:Int))=false/\((root:Int) !=0)=true/\((aE:Int) !=0)=true/\er=8)):=Zh (by
  rw [am];rcases he with ⟨h1,ay⟩|⟨h1,ay,aR,aG⟩
  . exact .inl ⟨decide_eq_true (by omega),ay⟩
  . exact .inr ⟨decide_eq_false (by omega),by simp;omega,by simp;omega,aG⟩)
 clear h aa ai aq aA U ac V J he am;go_enter func30,ntmps30;go_wp2_with fail;rw [<-al.1];refine ar.mono ?_;rintro e w2 ⟨rfl,rfl⟩;clear ar;go_wp2_with fail;refine au.mono ?_;rintro e w3 ⟨v1,v2,v3,rfl,aj,I⟩;obtain⟨aH,k1,rfl⟩:=Ae aj.r1;obtain⟨aJ,k2,rfl⟩:=Ae aj.r2;obtain⟨aK,aL,rfl⟩:=Ae aj.r3;have ah:=Zh (aC.below I);have af:=Dt;generalize (Af R t root).keys.length=n1 at*;generalize (Af R t root).Ab.length=n2 at*;generalize (Af R t root).kids.length=n3 at*;generalize (Af R t root).size=n4 at*;rw [<-aw.out];clear aj I au aw;obtain⟨aD,ax⟩:=Zx (w3.alloc (Obj.cells #[.slice aH n1 k1, .slice aJ n2 k2, .slice aK n3 aL, .int .u64 n4] 100));have ab:=YY;obtain⟨az,aM,aN⟩:=Ykx;obtain⟨⟨d0,aO⟩,f0,f1⟩:=CV az;have aP:=Zh ax;rw [ax,al.2] at d0 aO f0 f1;clear ax ab az;rcases aF.out with ⟨q1,rfl⟩|⟨q1,aS,aT,rfl⟩
 all_goals
  go_wp2_with fail;refine(aB _).mono ?_;rintro e aU ⟨rfl,rfl⟩;go_wp2;obtain⟨an,r1⟩:=AX aN.out;have ao:=aM.out;rw [aP.out,al.2] at an r1 ao
  first
   |exact bodyPost_ret (v:= .tuple #[.agg #[.pointer none, .int .i64 0], .int .i64 4]) (by simp [results,f30,go_sem,an,r1]) rfl ⟨rfl,ao⟩
   |exact bodyPost_ret (v:= .tuple #[.agg #[.pointer none, .int .i64 0], .int .i64 8]) (by simp [results,f30,go_sem,an,r1]) rfl ⟨rfl,ao⟩
end
def Cr(er:Nat)(w:World)(e:Ending)(w' :World):Prop:=e= .returned (.tuple #[.int .u64 0, .agg #[.int .u64 0, .int .u64 0], .bool false, .int .i64 er])/\Below w.heap.size w w'
section
variable  {p:Option Addr} {t:Int} {root er:Nat}
def Yjj{P}(h:P:=by
 have ab:An O Z 31 [.int .u64 0, .int .u64 0]:=by rw [U,aa];exact An.new w _ _
 exact ab):=h
def Yku{P}(h:P:=by
 have I:=Zh (Lm af);have J:=Zh (IY af);have O:=Zh (BE ((af.set 0 (.int .u64 0)).set 1 (.int .u64 0)));have U:=Zh (((ai.setCell (p:=⟨Z,0,none⟩) ag (.int .u64 0)).setCell (p:=⟨Z,1,none⟩) ag (.int .u64 0)).drew);exact And.intro I (And.intro J (And.intro O U))):=h
def Yrw{P}(h:P:=by
 have V:=EI;have ab:=Yjj;have ag:=Zh (show w.heap.size<=Z by omega);have J:=ah O V;exact And.intro V (And.intro ab (And.intro ag J))):=h
theorem PK(ah: ∀W,Below w.heap.size w W->EY p t root ⟨#[]⟩ er W)(h0:er≠0)(v:Value):
 Calls prog 34 #[.pointer p, .int .i64 t, .int .u64 root,v] w (Cr er w):=by
 unfold Cr;have d0:((er:Int) !=0)=true:=by simp;omega
 obtain⟨O,U⟩:=Zx (w.alloc (Obj.cells #[.int .u64 0, .int .u64 0] 31));obtain⟨Z,aa⟩:=Zx w.heap.size;obtain⟨V,ab,ag,J⟩:=Yrw;unfold EY at J;obtain⟨aj,an,ae⟩:=EA;have al:=Zh (And.intro U aa);clear ah h0 U aa V ab J;go_enter func34,ntmps34;go_wp2_with fail;rw [<-al.1,<-al.2];refine aj.mono ?_;rintro e w1 ⟨rfl,aP⟩;obtain⟨az,ac⟩:=Zx (w1.alloc (Obj.cells #[.pointer none, .int .i64 0] 77));have I:=Y9;have ai:=Dt;have af:=Zh (an.below I);have ao:=Zh ac;clear aj aP I ac;obtain⟨⟨d0,d1⟩,f0,f1⟩:=CV af.out;obtain⟨aq,ar,au,aw⟩:=Yku;go_upto_region 3 with (fail);rw [<-ao.out];refine As (Pl az Z) [.r 0, .r 1, .r 2, .a 3, .r 4, .r 5] ar ?_
 iterate 3 (refine CM _ _ rfl rfl (by rintro _ ⟨X,rfl,ax,ay⟩;go_simp;exact rfl) ?_;go_simp)
 refine AI _ rfl (λaA am=> ?_);go_wp2;refine am _ _ aq ?_;clear am aA d0 d1 f0 f1
 iterate 2 (refine CM _ _ rfl rfl (by rintro _ ⟨X,rfl,ax,ay⟩;go_simp;exact rfl) ?_;go_simp)
 refine AP ?_;go_wp2;obtain⟨aB,r1⟩:=AX au.out;exact bodyPost_ret (v:= .tuple #[.int .u64 0, .agg #[.int .u64 0, .int .u64 0], .bool false, .int .i64 er]) (by simp [results,f34,go_sem,aB,r1]) rfl ⟨rfl,aw⟩
theorem Lr{key:ByteArray}(ah: ∀W,Below w.heap.size w W->EY p t root key er W)(h0:er≠0):
 Calls prog 9 #[.pointer p, .int .i64 t, .int .u64 root, .string key] w (Cr er w):=by
 unfold Cr;have d0:((er:Int) !=0)=true:=by simp;omega
 obtain⟨O,U⟩:=Zx (w.alloc (Obj.cells #[.int .u64 0, .int .u64 0] 31));obtain⟨Z,aa⟩:=Zx w.heap.size;obtain⟨V,ab,ag,J⟩:=Yrw;unfold EY at J;obtain⟨aj,an,ae⟩:=EA;have al:=Zh (And.intro U aa);clear ah h0 U aa V ab J;go_enter func9,ntmps9;go_wp2_with fail;rw [<-al.1,<-al.2];refine aj.mono ?_;rintro e w1 ⟨rfl,aP⟩;obtain⟨az,ac⟩:=Zx (w1.alloc (Obj.cells #[.pointer none, .int .i64 0] 77));have I:=Y9;have ai:=Dt;have af:=Zh (an.below I);have ao:=Zh ac;clear aj aP I ac;obtain⟨⟨d0,d1⟩,f0,f1⟩:=CV af.out;obtain⟨aq,ar,au,aw⟩:=Yku;go_upto_region 3 with (fail);rw [<-ao.out];refine As (Pl az Z) [.r 0, .r 1, .r 2, .a 3, .r 4, .r 5] ar ?_
 iterate 3 (refine CM _ _ rfl rfl (by rintro _ ⟨X,rfl,ax,ay⟩;go_simp;exact rfl) ?_;go_simp)
 refine AI _ rfl (λaA am=> ?_);go_wp2;refine am _ _ aq ?_;clear am aA d0 d1 f0 f1
 iterate 2 (refine CM _ _ rfl rfl (by rintro _ ⟨X,rfl,ax,ay⟩;go_simp;exact rfl) ?_;go_simp)
 refine AP ?_;go_wp2;obtain⟨aB,r1⟩:=AX au.out;exact bodyPost_ret (v:= .tuple #[.int .u64 0, .agg #[.int .u64 0, .int .u64 0], .bool false, .int .i64 er]) (by simp [results,f9,go_sem,aB,r1]) rfl ⟨rfl,aw⟩
end
def CQ(R:Zr)(xs:List Nat):Zr:=λz=>if z∈xs then none else R z
theorem P0(R:Zr):CQ R []=R:=by funext z;simp [CQ]
theorem HV(R:Zr)(xs:List Nat)(x:Nat):AQ (CQ R xs) x none=CQ R (xs++ [x]):=by
 exact Yck
theorem Hm{xs:List Nat}{z:Nat}(h:z∉xs):CQ R xs z=R z:=if_neg h
theorem I8(h:A6 R)(xs:List Nat):A6 (CQ R xs):=λz ws I=>by
 unfold CQ at I
 split at I
 . cases I
 . exact h z ws I
section
variable {w':World}  {F:Nat->Prop}  {H:List Nat} {P q most last G t root:Nat} {Aa:List It} {ns:List Nat} {hg m:Nat}
theorem PA(I:BN.A0 t)(O:Ah w s F R H P q most last G)(Z:R 0=none)(J:Bt.Tree R t root Aa ns hg)(U:ns.Nodup)(V:root<18446744073709551616)(ae:Aa.length<549755813888):
 Calls prog 39 #[.pointer (some ⟨s,0,none⟩), .int .i64 t, .int .u64 root] w λe w' => ∃v',e= .returned v' /\w'.ownsRow w.heap.size 23 1 v' ns.length (AF ns)/\Below w.heap.size w w' :=by
 exact Yaj
theorem AN.IL(I:BN.A0 t)(h:AN w s F R H P q most last G t root Aa ns hg m)(J:Aa.length<=1000):
 Calls prog 12 #[.pointer (some ⟨s,0,none⟩), .int .i64 t, .int .u64 root] w λe w' => ∃(F' :Nat->Prop) (H' :List Nat),e= .returned (.int .i64 0)/\Ah w' s F' (CQ R (Aa.flatMap It.hs++ns)) H' P q most last G/\Ad w F w' F' :=by
 exact Yab
end
theorem Aat{t x:Nat}:MF (λ_=>none) t x=false:=by
 unfold MF;rw [if_pos (by rw [show Bk (λ_=>none) t x=7 from rfl];decide)]
section
variable  {p:Option Addr} {t:Int} {root er:Nat}
theorem RH(ac: ∀W,Below w.heap.size w W->EY p t root ⟨#[]⟩ er W)(h0:er≠0):
 Calls prog 10 #[.pointer p, .int .i64 t, .int .u64 root] w (Cr er w):=by
 obtain⟨O,U⟩:=Zx (w.alloc (Obj.cells #[.int .u64 0, .int .u64 0] 31));obtain⟨b7,J⟩:=Zx w.heap.size;have I:=EI;have x7:=Ws;have ab:=PK (w:=O) (λW ag=>ac W (I.trans (ag.mono I.size))) h0 (.func (.func 35) #[] #[]);unfold Cr at ab ⊢;have ae:=Zh ab;obtain⟨ah,af,aa⟩:=ZV;clear U J I x7 ac h0 ab;go_enter func10,ntmps10;go_wp2_with fail;rw [<-af.1,<-af.2];refine ae.mono ?_;rintro e w3 ⟨rfl,V⟩;have Z:=ah.below V;obtain⟨⟨d0,d1⟩,f0,f1⟩:=CV Z;obtain⟨ai,aj⟩:=ZD;clear Z ae V;go_wp2;obtain⟨al,r1⟩:=AX ai.out;exact bodyPost_ret (v:= .tuple #[.int .u64 0, .agg #[.int .u64 0, .int .u64 0], .bool false, .int .i64 er]) (by simp [results,f10,go_sem,al,r1]) rfl ⟨rfl,aj⟩
theorem JI(ac: ∀W,Below w.heap.size w W->EY p t root ⟨#[]⟩ er W)(h0:er≠0):
 Calls prog 11 #[.pointer p, .int .i64 t, .int .u64 root] w (Cr er w):=by
 obtain⟨O,U⟩:=Zx (w.alloc (Obj.cells #[.int .u64 0, .int .u64 0] 31));obtain⟨b7,J⟩:=Zx w.heap.size;have I:=EI;have x7:=Ws;have ab:=PK (w:=O) (λW ag=>ac W (I.trans (ag.mono I.size))) h0 (.func (.func 36) #[] #[]);unfold Cr at ab ⊢;have ae:=Zh ab;obtain⟨ah,af,aa⟩:=ZV;clear U J I x7 ac h0 ab;go_enter func11,ntmps11;go_wp2_with fail;rw [<-af.1,<-af.2];refine ae.mono ?_;rintro e w3 ⟨rfl,V⟩;have Z:=ah.below V;obtain⟨⟨d0,d1⟩,f0,f1⟩:=CV Z;obtain⟨ai,aj⟩:=ZD;clear Z ae V;go_wp2;obtain⟨al,r1⟩:=AX ai.out;exact bodyPost_ret (v:= .tuple #[.int .u64 0, .agg #[.int .u64 0, .int .u64 0], .bool false, .int .i64 er]) (by simp [results,f11,go_sem,al,r1]) rfl ⟨rfl,aj⟩
theorem J5(I:Calls prog 21 #[.pointer p, .int .i64 t, .int .u64 root] w λe w' =>e= .returned (.int .i64 er)/\Below w.heap.size w w')(h0:er≠0):
 Calls prog 12 #[.pointer p, .int .i64 t, .int .u64 root] w λe w' =>e= .returned (.int .i64 er)/\Below w.heap.size w w' :=by
 have J:=Zh I;have d0:((er:Int) !=0)=true:=by simp;omega
 clear I h0;go_enter func12,ntmps12;go_wp2_with fail;refine J.mono ?_;rintro e w1 ⟨rfl,O⟩;have U:=Zh O;clear O J;go_wp2;go_ret;exact⟨rfl,U⟩
end
theorem Tryz.YI:(Tryz.prog.info? 5).map (λi=>(i.zero,i.size,i.bytes))=some (some (.int .u8 0),1,1):=by kernel_rfl
theorem X9(W:World):(Instr.makeSlice 29 (.int .i64 1001) (.int .i64 1001)).run prog W= .ok (.slice (some ⟨W.heap.size,0,none⟩) 1001 1001) (W.alloc (.cells (Array.replicate 1001 (Value.int .u8 0)) 5)):=by
 obtain⟨i0,hi,I,J,O⟩:=info_parts Tryz.YI;have U:=run_make (P:=prog) (w:=W) 29 5 i0 (.int .u8 0) (by kernel_rfl) hi I .i64 .i64 1001 1001 (by omega) (by omega) (by rw [O];omega) (by omega);rw [U,J,Nat.mul_one];have e:madeCells (Value.cells (.int .u8 0)) 1001=Array.replicate 1001 (Value.int .u8 0):=by
  apply Array.toList_inj.1;rw [show Value.cells (.int .u8 0)= [Value.int .u8 0].toArray from rfl,toList_madeCells_one];simp
 rw [show(Int.toNat 1001)=1001 from rfl,e]
theorem Xp(W:World): ∃L:ByteArray,1000<L.size/\(convert 29 9 (.slice (some ⟨W.heap.size,0,none⟩) 1001 1001)).run prog (W.alloc (.cells (Array.replicate 1001 (Value.int .u8 0)) 5))= .ok (.string L) (W.alloc (.cells (Array.replicate 1001 (Value.int .u8 0)) 5)):=by
 refine⟨strOfNums (List.replicate 1001 0),by rw [strOfNums_size,List.length_replicate];omega, ?_⟩;refine run_convert_bytes_arg _ 29 5 (by kernel_rfl) (by kernel_rfl) W.heap.size 0 1001 1001 _ (by rw [List.length_replicate]) (λi hi=> ?_) _ (by kernel_rfl);have h:=(An.new W 5 (List.replicate 1001 (Value.int .u8 0))).at' (i:=i) (v:= .int .u8 0) (by rw [List.getElem?_replicate,if_pos hi]);have e:(List.replicate 1001 (Value.int .u8 0)).toArray=Array.replicate 1001 (Value.int .u8 0):=by
  apply Array.toList_inj.1;simp
 rw [e] at h;rw [Nat.zero_add,h,List.getD_eq_getElem?_getD,List.getElem?_replicate,if_pos hi];rfl
def Yiu{P}(h:P:=by
 have I:=J.trans (O.mono J.size);have U:=Zh (I.alloc I.size (Obj.cells #[.int .u64 0, .int .u64 0] 31));exact And.intro I U):=h
def Yiw{P}(h:P:=by
 have J:=Zh (U.alloc U.size (Obj.cells #[.int .u64 0, .int .u64 0] 31));exact J):=h
theorem Q2(aq:Ix w)(t:Int)(x:Nat)(hx:x<18446744073709551616):
 Calls prog 3 #[.int .i64 t, .int .u64 x] w (ID w):=by
 have aQ:=Zh aq;have hN:=Zh (Rc aq 640 9 9 (by omega) (by omega) (by omega) (by omega) (by omega));have ar:Hid (∀W,Calls prog 9 #[.pointer none, .int .i64 t, .int .u64 x, .string ⟨#[]⟩] W (Cr 1 W)):=Zh (λW=>Lr (λW' _=>HK t x _ W') (by decide));have au:Hid (∀W,Calls prog 10 #[.pointer none, .int .i64 t, .int .u64 x] W (Cr 1 W)):=Zh (λW=>RH (λW' _=>HK t x _ W') (by decide));have aw:Hid (∀W,Calls prog 11 #[.pointer none, .int .i64 t, .int .u64 x] W (Cr 1 W)):=Zh (λW=>JI (λW' _=>HK t x _ W') (by decide));have aI:Hid (∀W,Calls prog 12 #[.pointer none, .int .i64 t, .int .u64 x] W λe w' =>e= .returned (.int .i64 1)/\Below W.heap.size W w'):=Zh (λW=>J5 (er:=1) ((Me (er:=1) (QX t W) (by decide) x).mono (by rintro e w' ⟨rfl,rfl⟩;exact⟨rfl,Below.refl _ _⟩)) (by decide));clear aq;unfold ID;unfold Cr at ar au aw;go_enter func3,ntmps3;go_wp2_with fail;refine hN.mono ?_;rintro e w1 ⟨s,F,rfl,aJ,aV,aL,aM⟩;have aN:=Zh aM;have aW:=Zh aJ;have aX:Hid (∀b,F b->w.heap.size<=b):=Zh aL;clear aM aL aJ hN aV;obtain⟨L,aO,aZ⟩:=Xp w1;have a0:=X9 w1;have a1:=Zh aO;clear aO;have ax:=Zh ((Below.refl w1.heap.size w1).alloc (Nat.le_refl _) (.cells (Array.replicate 1001 (Value.int .u8 0)) 5));go_wp2_with fail;clear a0 aZ;refine(ar _).mono ?_;rintro e w3 ⟨rfl,aP⟩;have ay:=ax.trans (aP.mono ax.size);have az:=Zh (ay.alloc ay.size (Obj.cells #[.int .u64 0, .int .u64 0] 31));clear aP ay;go_wp2_with fail;refine(au _).mono ?_;rintro e w4 ⟨rfl,aR⟩;have aA:=az.trans (aR.mono az.size);have aB:=Zh (aA.alloc aA.size (Obj.cells #[.int .u64 0, .int .u64 0] 31));clear aR aA;go_wp2_with fail;refine(aw _).mono ?_;rintro e a7 ⟨rfl,aS⟩;have aC:=aB.trans (aS.mono aB.size);have ae:=Zh (aC.alloc aC.size (Obj.cells #[.int .u64 0, .int .u64 0] 31));clear aS aC;go_wp2_with fail;refine(aI _).mono ?_;rintro e w6 ⟨rfl,I⟩;have am:=Dt;clear I ar au aw aI ax az aB ae;have aY:=Yop;have af:=Zh (λW (V:Below w6.heap.size w6 W)=>aW.below (am.trans (V.mono am.size)));have aD:=Zh (λW (V:Below w6.heap.size w6 W)=>aN.trans ((am.trans (V.mono am.size)).mono aN.size));by_cases hd:t<2\/16<t
 ·
  have aE: ∀(W:World) (key:ByteArray),Below w6.heap.size w6 W->EY (some ⟨s,0,none⟩) t x key 2 W:=λW key V=>by
   obtain⟨n,aa,_⟩:=(af W V).rd;exact QQ aa hd x key
  have ah:Hid (Calls prog 9 #[.pointer (some ⟨s,0,none⟩), .int .i64 t, .int .u64 x, .string L] w6 (Cr 2 w6)):=Zh (Lr (λW V=>aE W _ V) (by decide));have ac:Hid (∀W,Below w6.heap.size w6 W->Calls prog 11 #[.pointer (some ⟨s,0,none⟩), .int .i64 t, .int .u64 x] W (Cr 2 W)):=Zh (λW V=>JI (λW' aF =>aE W' _ (V.trans (aF.mono V.size))) (by decide));have ai:Hid (∀W,Below w6.heap.size w6 W->Calls prog 12 #[.pointer (some ⟨s,0,none⟩), .int .i64 t, .int .u64 x] W λe w' =>e= .returned (.int .i64 2)/\Below W.heap.size W w'):=Zh (λW V=>J5 (er:=2) (by
   obtain⟨n,aa,_⟩:=(af W V).rd;exact(Me (er:=2) (P6 aa hd) (by decide) x).mono (by rintro e w' ⟨rfl,rfl⟩;exact⟨rfl,Below.refl _ _⟩)) (by decide))
  unfold Cr at ah ac;have a2:decide (t<2)=true\/(decide (t<2)=false/\decide (16<t)=true):=by
   by_cases aj:t<2
   . exact .inl (decide_eq_true aj)
   . exact .inr ⟨decide_eq_false aj,decide_eq_true (by omega)⟩
  clear aE hd;go_wp2_with fail;refine ah.mono ?_;rintro e a3 ⟨rfl,U⟩;have J:=Yiw;clear U;go_wp2_with fail;refine(ac _ J).mono ?_;rintro e aT ⟨rfl,O⟩;obtain⟨al,ab⟩:=Yiu;clear O al;rcases a2 with aU|⟨aU,a4⟩
  all_goals
   go_wp2_with fail;refine(ai _ ab).mono ?_;rintro e an ⟨rfl,ag⟩;have aK:=Zh (aD an (ab.trans (ag.mono ab.size)));clear ag;exact Yqt
 . obtain⟨Z,rfl⟩:=Int.eq_ofNat_of_zero_le (show 0<=t by omega)
   have aG:BN.A0 Z:=⟨by omega,by omega⟩;have aU:decide ((Z:Int)<2)=false:=decide_eq_false (by omega);have a4:decide ((16:Int)<(Z:Int))=false:=decide_eq_false (by omega);have ah:Hid (Calls prog 9 #[.pointer (some ⟨s,0,none⟩), .int .i64 Z, .int .u64 x, .string L] w6 (Cr 4 w6)):=Zh (Lr (λW V=>by
    obtain⟨n,aa,_⟩:=(af W V).rd;exact Ma aa aG hx (.inl ⟨a1,rfl⟩)) (by decide))
   unfold Cr at ah;have ao:=Zh aG;clear hd aG;go_wp2_with fail;refine ah.mono ?_;rintro e a3 ⟨rfl,U⟩;have J:=Yiw;clear U ah;by_cases aH:x=0
   focus
    subst aH;have ac:Hid (∀W,Below w6.heap.size w6 W->Calls prog 11 #[.pointer (some ⟨s,0,none⟩), .int .i64 Z, .int .u64 ((0:Nat):Int)] W (Cr 0 W)):=Zh (λW V=>(AN.start (af W V) Z).PF ao.out rfl);have ai:Hid (∀W,Below w6.heap.size w6 W->Calls prog 12 #[.pointer (some ⟨s,0,none⟩), .int .i64 Z, .int .u64 ((0:Nat):Int)] W λe w' =>e= .returned (.int .i64 0)/\Below w.heap.size w w'):=Zh (λW V=>((AN.start (af W V) Z).IL ao.out (by simp)).mono (by
     rintro e w' ⟨F',H',rfl,_,a5⟩;have aj:=aD.out W V;exact⟨rfl,aj.trans (a5.Hf aj.size aX.out)⟩))
    unfold Cr at ac;go_wp2_with fail;refine(ac _ J).mono ?_;rintro e aT ⟨rfl,O⟩;obtain⟨al,ab⟩:=Yiu;clear O al;go_wp2_with fail;refine(ai _ ab).mono ?_;rintro e an ⟨rfl,ag⟩;have aK:=Zh ag
   rotate_left
   focus
    have a8:((x:Int)==0)=false:=(by simp;omega);have ac:Hid (∀W,Below w6.heap.size w6 W->Calls prog 11 #[.pointer (some ⟨s,0,none⟩), .int .i64 Z, .int .u64 x] W (Cr 8 W)):=Zh (λW V=>JI (λW' aF =>by
     obtain⟨n,aa,_⟩:=(af W' (V.trans (aF.mono V.size))).rd;exact Ma aa ao hx (.inr ⟨by decide,aH,by rw [show Bk (λ_=>none) Z x=7 from rfl];decide,rfl⟩)) (by decide))
    have ai:Hid (∀W,Below w6.heap.size w6 W->Calls prog 12 #[.pointer (some ⟨s,0,none⟩), .int .i64 Z, .int .u64 x] W λe w' =>e= .returned (.int .i64 8)/\Below W.heap.size W w'):=Zh (λW V=>J5 (er:=8) (by
     obtain⟨n,aa,_⟩:=(af W V).rd;refine(L5 aa (λ_ _ h=>by cases h) Z ao x hx aH).mono ?_;rintro e w' ⟨er,rfl,hs,a6⟩;have:=hs.bad Aat;subst this;exact⟨rfl,a6⟩) (by decide))
    unfold Cr at ac;go_wp2_with fail;refine(ac _ J).mono ?_;rintro e aT ⟨rfl,O⟩;obtain⟨al,ab⟩:=Yiu;clear O al;go_wp2_with fail;refine(ai _ ab).mono ?_;rintro e an ⟨rfl,ag⟩;have aK:=Zh (aD an (ab.trans (ag.mono ab.size)))
   all_goals
    clear ag;exact Yqt
end Go.Proofs.YtiopopoohglepaaGreatDoor
namespace Go.Proofs.YtiopopoohglepaaGreatDoor
open Go.Proofs.Tryz
open Go.ChangeShapes Go.WideShapes Go.ChangeAt Go.WideMaps Go.WideElems Go.RowKit Go.Deep
variable {n:Int}
theorem own:ownKnob prog.godebug=none:=by kernel_rfl
theorem laidOut:laidOutB prog=true:=by kernel_rfl
theorem Aai:prog.globalNamed "math/bits.deBruijn64tab" =some 1:=by kernel_rfl
theorem Aab:(prog.globals[1]?).map (·.type)=some 246:=by kernel_rfl
abbrev GD:List (String × DataW Unit):= [("math/bits.deBruijn64tab",Rows.laid_math_bits_deBruijn64tab)]
theorem N4:(Rows.laid_math_bits_deBruijn64tab:DataW Unit)= .agg (Lib.deBruijn64tab.map λn=> .lit (.int .u8 (n:Nat))):=rfl
theorem LR(os:Os)(args:Array Value):laidMetH prog GD ((World.doorLaid prog 400 os).forCall (λ_ _=>0) ⟨#[],args,[]⟩).memory:=
 laidMetH_of_parts3 (fuel:=8) (laidMet_of_run' 8 (by kernel_rfl) (by kernel_rfl)) (by kernel_rfl) (by kernel_rfl)
theorem Nh{W:World}(h:laidMetH prog GD W):Ix W:=by
 exact Yag
theorem Ia(h:(Lit.int .i64 n).wf=true): -9223372036854775808<=n/\n<=9223372036854775807:=by
 exact Ydm
theorem LO(b o j:Nat):(⟨b,o,none⟩:Addr).add j=⟨b,o+j,none⟩:=by unfold Addr.add;split<;>simp_all
section
variable {H:Type} {enc:TypeId × Value->H} {w:World} {base:Nat} {held:Bool}
end
theorem UW(h:(Lit.int .u64 n).wf=true):0<=n/\n<=18446744073709551615:=by
 exact Ydm
section
variable {H:Type} {enc:TypeId × Value->H} {w:World} {held:Bool} {v:Value} {d:DataW H} {p:List MemPlace}
end
