/- A part. -/
import Derived.Test.YtiopopoohglepaaGreatDoorVMz
import Derived.BigGuard
import Derived.BigCall
import Derived.CellFam
import Derived.Deep.LoopGhost
set_option linter.all false
set_option maxRecDepth 100000
set_option maxHeartbeats 4000000
namespace Go.Proofs.YtiopopoohglepaaGreatDoor
open Go.Proofs.Tryz
open Go.RowKit Go.Shelf
section
variable {w:World} {Az off c:Nat} {zs0:List Nat} {A:World}
def Yed{P}(h:P:=by
 go_roundw
 case rel=>exact⟨i+1,by go_num,by omega,by omega,Zh (d.drewN nq)⟩
 case measure=>simp [intOf];omega):=h
theorem Vi(h:AZ A w Az zs0)(aq:off=0)(a b:Nat)(ah:a<=b)(V:b<=zs0.length)(Z:zs0.length<4611686018427387904):
 Calls prog 177 #[.slice (some ⟨Az,off,none⟩) zs0.length c, .int .i64 a, .int .i64 b] w λe w' =>e= .returned (.tuple #[])/\AZ A w' Az zs0:=by
 obtain⟨n,I⟩:=Zx zs0.length;rw [<-I] at V Z ⊢;obtain⟨aa,ab,ac⟩:=Sq;clear h aq I;go_enter func177,ntmps177;go_wp2
 go_loopw [6] (λvi wr=> ∃i:Nat,vi= .int .i64 i/\a<i/\i<=b+1/\Hid (AZ A wr Az zs0)) (λvi _=>b+1-(intOf vi).toNat)
 case atStart=>exact⟨a+1,by go_num,by omega,by omega,ac⟩
 case round=>
  obtain⟨i,rfl,ai,aj,O⟩:=hrel;go_wp2
  . go_loopw [7] (λJ ae=> ∃j:Nat,J= .int .i64 j/\a<=j/\j<=i/\Hid (AZ A ae Az zs0)) (λJ _=>(intOf J).toNat)
    case atStart=>exact⟨i,rfl,by omega,Nat.le_refl _,O⟩
    case round=>
     obtain⟨j,rfl,al,am,d⟩:=hrel;obtain⟨G,af,ag,U⟩:=d.open off aa.out;rw [<-ab.out] at af ag U;go_wp2;by_cases an:a<j
     . go_quiet (first|(go_at_call 183;refine Calls.quiet_of_same ((Bf _ _ _).mono λ_ _ h=>⟨h.1,h.2.symm⟩)))
       go_wp2
       . go_region
         all_goals go_wp2
         go_roundw
         case rel=>exact⟨j-1,by congr 1;omega,by omega,by omega,Zh (U (nq+1) j (j-1) (by omega) (by omega))⟩
         case measure=>simp [intOf];omega
       . exact Yed
     . go_quiet (first|(go_at_call 183;refine Calls.quiet_of_same ((Bf _ _ _).mono λ_ _ h=>⟨h.1,h.2.symm⟩)))
       go_wp2;exact Yed
  . go_end0
    exact⟨rfl,O⟩
def Yar{P}(h:P:=by
 have I:=Zh (U.drewN nq)
 revert nq
 intro ae I;clear O J d U;generalize wr.drewN ae=ab at I ⊢;obtain⟨G,O,J,d⟩:=I.open off Z.out;rw [<-aa.out] at O J d
 go_big_quiet (first|(go_at_call 183;refine Calls.quiet_of_same ((Bf _ _ _).mono λ_ _ h=>⟨h.1,h.2.symm⟩)))
 go_wp2_with fail
 . (try simp only [Exit.inBlock,Exit.then]);refine bodyPost_ret (results_none rfl _ _ _) rfl ?_
   exact⟨rfl,I.drewN nq⟩
 . have V:=Zh (I.drewN nq)
   clear O J d I;generalize ab.drewN nq=ac at V ⊢;obtain⟨G,O,J,d⟩:=V.open off Z.out;rw [<-aa.out] at O J d
   go_region
   go_wp2
   go_roundg (hi-(2*root+1))
   case measure=>omega
   case rel=>exact⟨2*root+1,by simp<;>omega,by omega,Nat.le_refl _,Zh (d 1 (first+root) (first+(2*root+1)) (by omega) (by omega))⟩):=h
theorem UJ(h:AZ A w Az zs0)(aq:off=0)(lo hi first:Nat)(af:lo<=hi)(ag:first+hi<=zs0.length)(ah:zs0.length<4611686018427387904):
 Calls prog 197 #[.slice (some ⟨Az,off,none⟩) zs0.length c, .int .i64 lo, .int .i64 hi, .int .i64 first] w λe w' =>e= .returned (.tuple #[])/\AZ A w' Az zs0:=by
 obtain⟨n,I⟩:=Zx zs0.length;rw [<-I] at ag ah ⊢;obtain⟨Z,aa,ai⟩:=Sq;clear h aq I;go_enter func197,ntmps197;go_wp2
 go_loopg [8] (hi-lo) (λk aj wr=> ∃root:Nat,aj= .int .i64 root/\root<=hi/\hi-root<=k/\Hid (AZ A wr Az zs0))
 case atStart=>exact⟨lo,rfl,af,Nat.le_refl _,ai⟩
 case round=>
  obtain⟨root,rfl,ao,ar,U⟩:=hrel;obtain⟨G,O,J,d⟩:=U.open off Z.out;rw [<-aa.out] at O J d;by_cases h0:hi<=2*root+1
  . have al:(hi:Int)<=2*(root:Int)+1:=by omega
    go_wp2;go_end0;exact⟨rfl,U⟩
  . have al: ¬((hi:Int)<=2*(root:Int)+1):=by omega
    by_cases h1:2*root+2<hi
    . have am:2*(root:Int)+1+1<(hi:Int):=by omega
      go_wp2_with fail
      go_big_quiet (first|(go_at_call 183;refine Calls.quiet_of_same ((Bf _ _ _).mono λ_ _ h=>⟨h.1,h.2.symm⟩)))
      go_wp2_with fail
      . have ae:=Zh (U.drewN nq)
        revert nq
        intro an ae;clear O J d U;generalize wr.drewN an=ab at ae ⊢;obtain⟨G,O,J,d⟩:=ae.open off Z.out;rw [<-aa.out] at O J d
        go_big_quiet (first|(go_at_call 183;refine Calls.quiet_of_same ((Bf _ _ _).mono λ_ _ h=>⟨h.1,h.2.symm⟩)))
        go_wp2_with fail
        . (try simp only [Exit.inBlock,Exit.then]);refine bodyPost_ret (results_none rfl _ _ _) rfl ?_
          exact⟨rfl,ae.drewN nq⟩
        . have V:=Zh (ae.drewN nq)
          clear O J d ae;generalize ab.drewN nq=ac at V ⊢;obtain⟨G,O,J,d⟩:=V.open off Z.out;rw [<-aa.out] at O J d
          go_region
          go_wp2
          go_roundg (hi-(2*root+2))
          case measure=>omega
          case rel=>exact⟨2*root+2,by simp<;>omega,by omega,Nat.le_refl _,Zh (d 1 (first+root) (first+(2*root+2)) (by omega) (by omega))⟩
      . exact Yar
    . have am:decide (2*(root:Int)+1+1<(hi:Int))=false:=decide_eq_false (by omega)
      go_wp2_with fail
      go_big_quiet (first|(go_at_call 183;refine Calls.quiet_of_same ((Bf _ _ _).mono λ_ _ h=>⟨h.1,h.2.symm⟩)))
      go_wp2_with fail;exact Yar
theorem Qc {a b:Nat}(d:a<=b):Int.tdiv ((b:Int)-(a:Int)-1) 2=(((b-a-1)/2+1:Nat):Int)-1:=by
 rcases Nat.eq_zero_or_pos (b-a) with h|h
 . have:(b:Int)-(a:Int)-1= -1:=by omega
   rw [this,h];decide
 . rw [Int.tdiv_eq_ediv_of_nonneg (by omega)]
   omega
def Ydn{P}(h:P:=by
 rintro e w1 ⟨rfl,d⟩;have I:=Zh d;clear d;go_wp2
 go_roundg k
 case measure=>omega
 case rel=>exact⟨by simp,by omega,I⟩):=h
theorem Uq(h:AZ A w Az zs0)(aq:off=0)(a b:Nat)(af:a<=b)(ag:b<=zs0.length)(O:zs0.length<4611686018427387904):
 Calls prog 178 #[.slice (some ⟨Az,off,none⟩) zs0.length c, .int .i64 a, .int .i64 b] w λe w' =>e= .returned (.tuple #[])/\AZ A w' Az zs0:=by
 have d:Hid (∀(W:World) (lo hi:Nat),AZ A W Az zs0->lo<=hi->a+hi<=zs0.length->Calls prog 197 #[.slice (some ⟨Az,off,none⟩) zs0.length c, .int .i64 (lo:Nat), .int .i64 (hi:Nat), .int .i64 a] W λe w' =>e= .returned (.tuple #[])/\AZ A w' Az zs0):=Zh λW lo hi h1 ah ai=>UJ h1 aq lo hi a ah ai O
 have U:((b-a:Nat):Int)=(b:Int)-(a:Int):=by omega
 obtain⟨n,I⟩:=Zx zs0.length;rw [<-I] at ag O ⊢;obtain⟨aj,V,al⟩:=Sq;clear h aq I;rw [<-V.out] at d;go_enter func178,ntmps178;go_wp2
 go_loopg [9] ((b-a-1)/2+1) (λk am wr=>am= .int .i64 ((k:Int)-1)/\k<=(b-a-1)/2+1/\Hid (AZ A wr Az zs0))
 case atStart=>exact⟨by rw [Qc af],Nat.le_refl _,al⟩
 case round=>
  obtain⟨rfl,Z,aa⟩:=hrel
  cases gk with
  |zero=>
   clear Z;go_wp2
   go_loopg [10] (b-a) (λk an ao=>an= .int .i64 ((k:Int)-1)/\k<=b-a/\Hid (AZ A ao Az zs0))
   case atStart=>exact⟨by rw [U],Nat.le_refl _,aa⟩
   case round=>
    obtain⟨rfl,Z,ab⟩:=hrel
    cases gk with
    |zero=>
     go_wp2;go_end0;exact⟨rfl,ab⟩
    |succ k=>
     obtain⟨G,ar,au,J⟩:=ab.open off aj.out;rw [<-V.out] at ar au J;rcases Nat.eq_zero_or_pos k with aw|ay
     . subst aw
       go_wp2_with fail
       go_region
       go_wp2_with fail;refine(d _ 0 0 (J 1 a a (by omega) (by omega)) (Nat.le_refl _) (by omega)).mono ?_;rintro e w1 ⟨rfl,ac⟩;have ax:=Zh ac;clear ac;go_wp2
       go_roundg 0
       case measure=>omega
       case rel=>exact⟨by simp,by omega,ax⟩
     . skip
       go_wp2_with fail
       go_region
       go_wp2_with fail;refine(d _ 0 k (J 1 a (a+k) (by omega) (by omega)) (Nat.zero_le _) (by omega)).mono ?_;exact Ydn
  |succ k=>
   have ae:=d.out wr k (b-a) aa (by omega) (by omega);rw [U] at ae;go_wp2_with fail;refine ae.mono ?_;exact Ydn
theorem Vt(h:AZ A w Az zs0)(aq:off=0)(a b:Nat)(aj:a<=b)(V:b<=zs0.length)(Z:zs0.length<4611686018427387904):
 Calls prog 181 #[.slice (some ⟨Az,off,none⟩) zs0.length c, .int .i64 a, .int .i64 b] w λe w' =>e= .returned (.tuple #[])/\AZ A w' Az zs0:=by
 obtain⟨n,I⟩:=Zx zs0.length;rw [<-I] at V Z ⊢;obtain⟨aa,ab,ac⟩:=Sq;clear h aq I;go_enter func181,ntmps181;go_wp2
 go_loopg [6,7] (b-a) (λk ae af wr=> ∃(i d:Nat) (J:Int),ae= .int .i64 i/\af= .int .i64 J/\((i:Int)<J->J=d/\d<n)/\(J<4611686018427387904)/\(-1<=J)/\i<=n+1/\d-i<=k/\Hid (AZ A wr Az zs0))
 case atStart=>exact⟨a,b-1,(b:Int)-1,rfl,rfl,λh=>⟨by omega,by omega⟩,by omega,by omega,by omega,by omega,ac⟩
 case round=>
  obtain⟨i,d,J,rfl,rfl,h1,al,am,an,ao,O⟩:=hrel;by_cases ag:(i:Int)<J
  . obtain⟨rfl,ar⟩:=h1 ag
    obtain⟨G,ah,ai,U⟩:=O.open off aa.out;rw [<-ab.out] at ah ai U;clear h1;go_wp2_with fail
    go_region
    go_wp2
    go_roundg (d-1-(i+1))
    case measure=>omega
    case rel=>exact⟨i+1,d-1,(d:Int)-1,by simp,rfl,λh=>⟨by omega,by omega⟩,by omega,by omega,by omega,Nat.le_refl _,Zh (U 1 i d (by omega) (by omega))⟩
  . go_wp2
    go_end0;exact⟨rfl,O⟩
end
structure H5(A W:World)(Az sb:Nat)(zs0:List Nat)(s:Nat):Prop where
 row:AZ A W Az zs0
 bx:An W sb 3 [.int .i64 s]
 ge:A.heap.size<=sb
 ne:sb≠Az
section
variable {A W W' :World} {Az sb off c s:Nat} {zs0:List Nat}
theorem H5.drewN(h:H5 A W Az sb zs0 s)(q:Nat):H5 A (W.drewN q) Az sb zs0 s:=⟨h.row.drewN q,h.bx.below (Tx.AL W q),h.ge,h.ne⟩
def Ybr{P}(h:P:=by
 refine⟨zs,g1,⟨sp,g2.other (p:=⟨sb,0,none⟩) (Ne.symm h.ne) _⟩, ?_⟩;refine⟨g3.os,g3.tape,g3.output,Nat.le_trans g3.size (by simp [World.setCell]),λk d I=> ?_⟩;exact(Below.heap_setCell _ ⟨sb,0,none⟩ _ k (by have:=h.ge;show k≠sb;omega)).trans (g3.block k d I)):=h
theorem H5.store(h:H5 A W Az sb zs0 s)(q t:Nat):H5 A ((W.drewN q).setCell ⟨sb,0,none⟩ (.int .i64 t)) Az sb zs0 t:=by
 have h1:=h.drewN q;refine⟨?_,h1.bx.set 0 _,h.ge,h.ne⟩;obtain⟨zs,g1,⟨sp,g2⟩,g3⟩:=h1.row;exact Ybr
theorem Vc(h:H5 A W Az sb zs0 s)(aq:off=0)(a b:Nat)(ha:a<zs0.length)(O:b<zs0.length)(U:zs0.length<4611686018427387904)(hs:s<1000):
 Calls prog 207 #[.slice (some ⟨Az,off,none⟩) zs0.length c, .int .i64 a, .int .i64 b, .pointer (some ⟨sb,0,none⟩)] W λe w' => ∃x y d :Nat,e= .returned (.tuple #[.int .i64 x, .int .i64 y])/\(x=a/\y=b\/x=b/\y=a)/\d <=s+1/\H5 A w' Az sb zs0 d :=by
 obtain⟨n,I⟩:=Zx zs0.length;rw [<-I] at ha O U ⊢;obtain⟨V,Z,J⟩:=Sq;obtain⟨G,aa,ab,ac⟩:=h.row.open off V.out;rw [<-Z.out] at aa ab ac;have cs:=h.bx.at' (i:=0) rfl;have ae:=h.bx.free 0;clear h aq I;go_enter func207,ntmps207;go_wp2
 go_quiet (first|(go_at_call 183;refine Calls.quiet_of_same ((Bf _ _ _).mono λ_ _ h=>⟨h.1,h.2.symm⟩)))
 go_wp2
 . go_ret2
   exact⟨b,a,s+1,rfl, .inr ⟨rfl,rfl⟩,Nat.le_refl _,J.store nq (s+1)⟩
 . go_ret2
   exact⟨a,b,s,rfl, .inl ⟨rfl,rfl⟩,by omega,J.drewN nq⟩
theorem PG(h:H5 A W Az sb zs0 s)(ac:off=0)(a b d:Nat)(ha:a<zs0.length)(ae:b<zs0.length)(hd:d<zs0.length)(af:zs0.length<4611686018427387904)(hs:s<900):
 Calls prog 201 #[.slice (some ⟨Az,off,none⟩) zs0.length c, .int .i64 a, .int .i64 b, .int .i64 d, .pointer (some ⟨sb,0,none⟩)] W λe w' => ∃x I :Nat,e= .returned (.int .i64 (x:Nat))/\(x=a\/x=b\/x=d)/\I <=s+3/\H5 A w' Az sb zs0 I :=by
 have J:Hid (∀(W:World) (s:Nat) (x y:Nat),H5 A W Az sb zs0 s->x<zs0.length->y<zs0.length->s<1000->Calls prog 207 #[.slice (some ⟨Az,off,none⟩) zs0.length c, .int .i64 (x:Nat), .int .i64 (y:Nat), .pointer (some ⟨sb,0,none⟩)] W λe w' => ∃V Z I :Nat,e= .returned (.tuple #[.int .i64 (V :Nat), .int .i64 (Z :Nat)])/\(V =x/\Z =y\/V =y/\Z =x)/\I <=s+1/\H5 A w' Az sb zs0 I):=Zh λW s x y h1 O U ao=>Vc h1 ac x y O U af ao
 obtain⟨n,aa⟩:=Zx zs0.length;rw [<-aa] at ha ae hd af ⊢;have aq:=Zh aa;have ar:=Zh h;rw [<-aq.out] at J;clear h ac aa;go_enter func201,ntmps201;go_wp2_with fail;refine(J W s a b ar ha ae (by omega)).mono ?_;rintro e w1 ⟨ag,ah,s1,rfl,h1,l1,ai⟩;have au:=Zh ai;have ab:=Zh (And.intro h1 l1);have aw:ag<n:=by omega
 have ax:ah<n:=by omega
 clear ai h1 l1;go_wp2_with fail;refine(J w1 s1 ah d au ax hd (by have:=ab.2;omega)).mono ?_;rintro e w2 ⟨aj,aE,s2,rfl,O,l2,al⟩;have ay:=Zh al;have am:=Zh (And.intro O l2);have az:aj<n:=by omega
 clear al O l2;go_wp2_with fail;refine(J w2 s2 ag aj ay aw az (by have:=ab.2;have:=am.2;omega)).mono ?_;rintro e w3 ⟨aF,aA,aB,rfl,U,l3,an⟩;have aC:=Zh an;have aD:=Zh (And.intro U l3);clear an U l3;go_wp2;go_ret;have:=ab.out;have:=am.out;have:=aD.out;exact⟨aA,aB,rfl,by omega,by omega,aC⟩
theorem Ve(h:H5 A W Az sb zs0 s)(J:off=0)(a:Nat)(ac:1<=a)(ha:a+1<zs0.length)(O:zs0.length<4611686018427387904)(hs:s<900):
 Calls prog 200 #[.slice (some ⟨Az,off,none⟩) zs0.length c, .int .i64 a, .pointer (some ⟨sb,0,none⟩)] W λe w' => ∃x d :Nat,e= .returned (.int .i64 x)/\(a<=x+1/\x<=a+1)/\d <=s+3/\H5 A w' Az sb zs0 d :=by
 obtain⟨b,rfl⟩: ∃b,a=b+1:=⟨a-1,by omega⟩;have I:=PG (c:=c) h J b (b+1) (b+1+1) (by omega) (by omega) (by omega) O hs;push_cast at I;have U:=Zh I;have ae:(b:Int)+1-1=(b:Int):=by omega
 obtain⟨n,V⟩:=Zx zs0.length;rw [<-V] at U ha O ⊢;clear h J V I;push_cast;go_enter func200,ntmps200;go_wp2_with fail;refine U.mono ?_;rintro e w1 ⟨x,d,rfl,h1,Z,aa⟩;have ab:=Zh (And.intro h1 (And.intro Z aa));clear h1 Z aa;go_wp2;go_ret;have:=ab.out;exact⟨x,d,rfl,by omega,this.2.1,this.2.2⟩
def Ylj{P}(h:P:=by
 have I:Below W.heap.size W d:=by rw [ae];exact(Below.refl _ W).alloc (Nat.le_refl _) _
 have J:sb≠Az:=by have:=h.lt;omega
 have O:A.heap.size<=sb:=by obtain⟨_,_,_,g⟩:=h;have:=g.size;omega
 exact And.intro I (And.intro J O)):=h
theorem WN(h:AZ A W Az zs0)(al:off=0)(a b:Nat)(aZ:a<b)(aN:b<=zs0.length)(am:zs0.length<4611686018427387904):
 Calls prog 180 #[.slice (some ⟨Az,off,none⟩) zs0.length c, .int .i64 a, .int .i64 b] W λe w' => ∃(x:Nat) (ax:Nat),e= .returned (.tuple #[.int .i64 (x:Nat), .int .i64 ax])/\(a<=x/\x<b)/\ax<=2/\AZ A w' Az zs0:=by
 obtain⟨d,ae⟩:=Zx (W.alloc (.cells #[.int .i64 0] 3));obtain⟨sb,aa⟩:=Zx W.heap.size;obtain⟨ay,aA,aB⟩:=Ylj;have J:H5 A d Az sb zs0 0:=⟨h.below ay,by rw [ae,aa];exact An.new W _ [.int .i64 0],aB,aA⟩;have an:Hid (∀(V:World) (s x y z:Nat),H5 A V Az sb zs0 s->x<zs0.length->y<zs0.length->z<zs0.length->s<900->Calls prog 201 #[.slice (some ⟨Az,off,none⟩) zs0.length c, .int .i64 (x:Nat), .int .i64 (y:Nat), .int .i64 (z:Nat), .pointer (some ⟨sb,0,none⟩)] V λe w' => ∃v ac :Nat,e= .returned (.int .i64 v)/\(v=x\/v=y\/v=z)/\ac <=s+3/\H5 A w' Az sb zs0 ac):=Zh λV s x y z h1 ao aq ar aO=>PG h1 al x y z ao aq ar am aO
 have ag:Hid (∀(V:World) (s x:Nat),H5 A V Az sb zs0 s->1<=x->x+1<zs0.length->s<900->Calls prog 200 #[.slice (some ⟨Az,off,none⟩) zs0.length c, .int .i64 (x:Nat), .pointer (some ⟨sb,0,none⟩)] V λe w' => ∃v ac :Nat,e= .returned (.int .i64 v)/\(x<=v+1/\v<=x+1)/\ac <=s+3/\H5 A w' Az sb zs0 ac):=Zh λV s x h1 ao aq ar=>Ve h1 al x ao aq am ar
 obtain⟨n,aC⟩:=Zx zs0.length;rw [<-aC] at aN am an ag ⊢;obtain⟨Z,U⟩:=LJ;obtain⟨O,aP⟩: ∃O:Nat,O=a+(b-a)/4*1:=⟨_,rfl⟩;obtain⟨I,aQ⟩: ∃I:Nat,I=a+(b-a)/4*2:=⟨_,rfl⟩;obtain⟨K,aR⟩: ∃K:Nat,K=a+(b-a)/4*3:=⟨_,rfl⟩;have a0:((a:Int)+((b:Int)-(a:Int))/4)=(O:Int):=by omega
 have a1:((a:Int)+((b:Int)-(a:Int))/4*2)=(I:Int):=by omega
 have a2:((a:Int)+((b:Int)-(a:Int))/4*3)=(K:Int):=by omega
 have au:=Zh (show(8<=b-a->a+2<=O/\O+2<=I/\I+2<=K/\K+2<=b)/\a<=I/\I<b from⟨λ_=>by omega,by omega,by omega⟩);clear h al aC ae aa ay aA aB J aP aQ aR;by_cases aS:b-a>=8
 . obtain⟨⟨g1,g2,g3,g4⟩,g5,g6⟩:(a+2<=O/\O+2<=I/\I+2<=K/\K+2<=b)/\a<=I/\I<b:=⟨au.1 aS,au.2⟩
   by_cases a3:b-a>=50
   focus
    go_enter func180,ntmps180;go_wp2_with fail;rw [<-U.1,<-U.2];refine(ag d 0 O Z (by omega) (by omega) (by omega)).mono ?_;rintro e w1 ⟨i1,s1,rfl,aD,q1,aG⟩;have aT:=Zh aG;have af:=Zh (And.intro aD q1);clear aG aD q1;go_wp2_with fail;refine(ag w1 s1 I aT (by omega) (by omega) (by have:=af.out;omega)).mono ?_;rintro e w2 ⟨aU,s2,rfl,az,aF,aE⟩;obtain⟨aV,ah⟩:=QI;clear aE az aF;go_wp2_with fail;refine(ag w2 s2 K aV (by omega) (by omega) (by have:=af.out;have:=ah.out;omega)).mono ?_;rintro e w3 ⟨k1,aW,rfl,aH,aJ,aK⟩;have aX:=Zh aK;have aw:=Zh (And.intro aH aJ);clear aK aH aJ;go_wp2_with fail;refine(an w3 aW i1 aU k1 aX (by have:=af.out;omega) (by have:=ah.out;omega) (by have:=aw.out;omega) (by have:=af.out;have:=ah.out;have:=aw.out;omega)).mono ?_;rintro e w4 ⟨p,aY,rfl,aL,aM,ab⟩;have cs:=ab.bx.at' (i:=0) rfl;have ai:=Zh ab;have aj:Hid (a<=p/\p<b):=Zh (by have:=af.out;have:=ah.out;have:=aw.out;omega)
   rotate_left
   focus
    go_enter func180,ntmps180;go_wp2_with fail;rw [<-U.1,<-U.2];refine(an d 0 O I K Z (by omega) (by omega) (by omega) (by omega)).mono ?_;rintro e w4 ⟨p,aY,rfl,aL,aM,ab⟩;have cs:=ab.bx.at' (i:=0) rfl;have ai:=Zh ab;have aj:Hid (a<=p/\p<b):=Zh (by omega)
   all_goals
    clear ab aL aM;go_wp2
    all_goals
     go_ret2
     first
      |exact⟨p,1,rfl,aj,by omega,ai.row⟩
      |exact⟨p,2,rfl,aj,by omega,ai.row⟩
      |exact⟨p,0,rfl,aj,by omega,ai.row⟩
 . have g5:=au.2
   have cs:=Z.bx.at' (i:=0) rfl;rw [U.1,U.2] at cs;go_enter func180,ntmps180;go_wp2
   all_goals
    try rw [<-U.1]
    go_ret2
    first
     |exact⟨I,1,rfl,g5,by omega,Z.row⟩
     |exact⟨I,2,rfl,g5,by omega,Z.row⟩
     |exact⟨I,0,rfl,g5,by omega,Z.row⟩
end
