/- A part. -/
import Derived.Test.YtiopopoohglepaaGreatDoorPMz
import Derived.BigGuard
import Derived.BigCall
import Derived.CellFam
import Derived.Deep.LoopGhost
set_option linter.all false
set_option maxRecDepth 100000
set_option maxHeartbeats 4000000
namespace Go.Proofs.YtiopopoohglepaaGreatDoor
open Go.Proofs.Tryz
open Go.RowKit Go.Shelf
section
variable {w:World} {Az off c:Nat} {zs0:List Nat} {A:World}
def Yei{P}(h:P:=by
 go_roundw
 case rel=>exact⟨i+1,by go_num,by omega,by omega,Zh (J.drewN nq)⟩
 case measure=>simp [intOf];omega):=h
theorem VE(h:A1 A w Az zs0)(am:off=0)(a b:Nat)(ai:a<=b)(Z:b<=zs0.length)(aa:zs0.length<4611686018427387904):
 Calls prog 177 #[.slice (some ⟨Az,off,none⟩) zs0.length c, .int .i64 a, .int .i64 b] w λe w' =>e= .returned (.tuple #[])/\A1 A w' Az zs0:=by
 obtain⟨n,I⟩:=Zx zs0.length;rw [<-I] at Z aa ⊢;obtain⟨ab,ac,ae⟩:=Rf;clear h am I;go_enter func177,ntmps177;go_wp2
 go_loopw [6] (λvi wr=> ∃i:Nat,vi= .int .i64 i/\a<i/\i<=b+1/\Hid (A1 A wr Az zs0)) (λvi _=>b+1-(intOf vi).toNat)
 case atStart=>exact⟨a+1,by go_num,by omega,by omega,ae⟩
 case round=>
  obtain⟨i,rfl,aj,al,U⟩:=hrel;go_wp2
  . go_loopw [7] (λO af=> ∃j:Nat,O= .int .i64 j/\a<=j/\j<=i/\Hid (A1 A af Az zs0)) (λO _=>(intOf O).toNat)
    case atStart=>exact⟨i,rfl,by omega,Nat.le_refl _,U⟩
    case round=>
     obtain⟨j,rfl,an,ao,J⟩:=hrel;obtain⟨G,ag,ah,V⟩:=J.open off ab.out;rw [<-ac.out] at ag ah V;go_wp2;by_cases aq:a<j
     . go_quiet (first|(go_at_call 183;refine Calls.quiet_of_same ((Bh _ _ _).mono λ_ _ h=>⟨h.1,h.2.symm⟩)))
       go_wp2
       . go_region
         all_goals go_wp2
         go_roundw
         case rel=>exact⟨j-1,by congr 1;omega,by omega,by omega,Zh (V (nq+1) j (j-1) (by omega) (by omega))⟩
         case measure=>simp [intOf];omega
       . exact Yei
     . go_quiet (first|(go_at_call 183;refine Calls.quiet_of_same ((Bh _ _ _).mono λ_ _ h=>⟨h.1,h.2.symm⟩)))
       go_wp2;exact Yei
  . go_end0
    exact⟨rfl,U⟩
def Yap{P}(h:P:=by
 have I:=Zh (V.drewN nq)
 revert nq
 intro af I;clear U O J V;generalize wr.drewN af=ac at I ⊢;obtain⟨G,U,O,J⟩:=I.open off aa.out;rw [<-ab.out] at U O J
 go_big_quiet (first|(go_at_call 183;refine Calls.quiet_of_same ((Bh _ _ _).mono λ_ _ h=>⟨h.1,h.2.symm⟩)))
 go_wp2_with fail
 . (try simp only [Exit.inBlock,Exit.then]);refine bodyPost_ret (results_none rfl _ _ _) rfl ?_
   exact⟨rfl,I.drewN nq⟩
 . have Z:=Zh (I.drewN nq)
   clear U O J I;generalize ac.drewN nq=ae at Z ⊢;obtain⟨G,U,O,J⟩:=Z.open off aa.out;rw [<-ab.out] at U O J
   go_region
   go_wp2
   go_roundg (hi-(2*root+1))
   case measure=>omega
   case rel=>exact⟨2*root+1,by simp<;>omega,by omega,Nat.le_refl _,Zh (J 1 (first+root) (first+(2*root+1)) (by omega) (by omega))⟩):=h
theorem U7(h:A1 A w Az zs0)(am:off=0)(lo hi first:Nat)(ag:lo<=hi)(ah:first+hi<=zs0.length)(ai:zs0.length<4611686018427387904):
 Calls prog 197 #[.slice (some ⟨Az,off,none⟩) zs0.length c, .int .i64 lo, .int .i64 hi, .int .i64 first] w λe w' =>e= .returned (.tuple #[])/\A1 A w' Az zs0:=by
 obtain⟨n,I⟩:=Zx zs0.length;rw [<-I] at ah ai ⊢;obtain⟨aa,ab,aj⟩:=Rf;clear h am I;go_enter func197,ntmps197;go_wp2
 go_loopg [8] (hi-lo) (λk al wr=> ∃root:Nat,al= .int .i64 root/\root<=hi/\hi-root<=k/\Hid (A1 A wr Az zs0))
 case atStart=>exact⟨lo,rfl,ag,Nat.le_refl _,aj⟩
 case round=>
  obtain⟨root,rfl,ar,au,V⟩:=hrel;obtain⟨G,U,O,J⟩:=V.open off aa.out;rw [<-ab.out] at U O J;by_cases h0:hi<=2*root+1
  . have an:(hi:Int)<=2*(root:Int)+1:=by omega
    go_wp2;go_end0;exact⟨rfl,V⟩
  . have an: ¬((hi:Int)<=2*(root:Int)+1):=by omega
    by_cases h1:2*root+2<hi
    . have ao:2*(root:Int)+1+1<(hi:Int):=by omega
      go_wp2_with fail
      go_big_quiet (first|(go_at_call 183;refine Calls.quiet_of_same ((Bh _ _ _).mono λ_ _ h=>⟨h.1,h.2.symm⟩)))
      go_wp2_with fail
      . have af:=Zh (V.drewN nq)
        revert nq
        intro aq af;clear U O J V;generalize wr.drewN aq=ac at af ⊢;obtain⟨G,U,O,J⟩:=af.open off aa.out;rw [<-ab.out] at U O J
        go_big_quiet (first|(go_at_call 183;refine Calls.quiet_of_same ((Bh _ _ _).mono λ_ _ h=>⟨h.1,h.2.symm⟩)))
        go_wp2_with fail
        . (try simp only [Exit.inBlock,Exit.then]);refine bodyPost_ret (results_none rfl _ _ _) rfl ?_
          exact⟨rfl,af.drewN nq⟩
        . have Z:=Zh (af.drewN nq)
          clear U O J af;generalize ac.drewN nq=ae at Z ⊢;obtain⟨G,U,O,J⟩:=Z.open off aa.out;rw [<-ab.out] at U O J
          go_region
          go_wp2
          go_roundg (hi-(2*root+2))
          case measure=>omega
          case rel=>exact⟨2*root+2,by simp<;>omega,by omega,Nat.le_refl _,Zh (J 1 (first+root) (first+(2*root+2)) (by omega) (by omega))⟩
      . exact Yap
    . have ao:decide (2*(root:Int)+1+1<(hi:Int))=false:=decide_eq_false (by omega)
      go_wp2_with fail
      go_big_quiet (first|(go_at_call 183;refine Calls.quiet_of_same ((Bh _ _ _).mono λ_ _ h=>⟨h.1,h.2.symm⟩)))
      go_wp2_with fail;exact Yap
theorem Qk {a b:Nat}(I:a<=b):Int.tdiv ((b:Int)-(a:Int)-1) 2=(((b-a-1)/2+1:Nat):Int)-1:=by
 rcases Nat.eq_zero_or_pos (b-a) with h|h
 . have:(b:Int)-(a:Int)-1= -1:=by omega
   rw [this,h];decide
 . rw [Int.tdiv_eq_ediv_of_nonneg (by omega)]
   omega
def Ydr{P}(h:P:=by
 rintro e w1 ⟨rfl,I⟩;have J:=Zh I;clear I;go_wp2
 go_roundg k
 case measure=>omega
 case rel=>exact⟨by simp,by omega,J⟩):=h
theorem UK(h:A1 A w Az zs0)(am:off=0)(a b:Nat)(ag:a<=b)(ah:b<=zs0.length)(U:zs0.length<4611686018427387904):
 Calls prog 178 #[.slice (some ⟨Az,off,none⟩) zs0.length c, .int .i64 a, .int .i64 b] w λe w' =>e= .returned (.tuple #[])/\A1 A w' Az zs0:=by
 have J:Hid (∀(W:World) (lo hi:Nat),A1 A W Az zs0->lo<=hi->a+hi<=zs0.length->Calls prog 197 #[.slice (some ⟨Az,off,none⟩) zs0.length c, .int .i64 (lo:Nat), .int .i64 (hi:Nat), .int .i64 a] W λe w' =>e= .returned (.tuple #[])/\A1 A w' Az zs0):=Zh λW lo hi h1 ai aj=>U7 h1 am lo hi a ai aj U
 have V:((b-a:Nat):Int)=(b:Int)-(a:Int):=by omega
 obtain⟨n,I⟩:=Zx zs0.length;rw [<-I] at ah U ⊢;obtain⟨al,Z,an⟩:=Rf;clear h am I;rw [<-Z.out] at J;go_enter func178,ntmps178;go_wp2
 go_loopg [9] ((b-a-1)/2+1) (λk ao wr=>ao= .int .i64 ((k:Int)-1)/\k<=(b-a-1)/2+1/\Hid (A1 A wr Az zs0))
 case atStart=>exact⟨by rw [Qk ag],Nat.le_refl _,an⟩
 case round=>
  obtain⟨rfl,aa,ab⟩:=hrel
  cases gk with
  |zero=>
   clear aa;go_wp2
   go_loopg [10] (b-a) (λk aq ar=>aq= .int .i64 ((k:Int)-1)/\k<=b-a/\Hid (A1 A ar Az zs0))
   case atStart=>exact⟨by rw [V],Nat.le_refl _,ab⟩
   case round=>
    obtain⟨rfl,aa,ac⟩:=hrel
    cases gk with
    |zero=>
     go_wp2;go_end0;exact⟨rfl,ac⟩
    |succ k=>
     obtain⟨G,au,aw,O⟩:=ac.open off al.out;rw [<-Z.out] at au aw O;rcases Nat.eq_zero_or_pos k with ax|az
     . subst ax
       go_wp2_with fail
       go_region
       go_wp2_with fail;refine(J _ 0 0 (O 1 a a (by omega) (by omega)) (Nat.le_refl _) (by omega)).mono ?_;rintro e w1 ⟨rfl,ae⟩;have ay:=Zh ae;clear ae;go_wp2
       go_roundg 0
       case measure=>omega
       case rel=>exact⟨by simp,by omega,ay⟩
     . skip
       go_wp2_with fail
       go_region
       go_wp2_with fail;refine(J _ 0 k (O 1 a (a+k) (by omega) (by omega)) (Nat.zero_le _) (by omega)).mono ?_;exact Ydr
  |succ k=>
   have af:=J.out wr k (b-a) ab (by omega) (by omega);rw [V] at af;go_wp2_with fail;refine af.mono ?_;exact Ydr
theorem VP(h:A1 A w Az zs0)(am:off=0)(a b:Nat)(al:a<=b)(Z:b<=zs0.length)(aa:zs0.length<4611686018427387904):
 Calls prog 181 #[.slice (some ⟨Az,off,none⟩) zs0.length c, .int .i64 a, .int .i64 b] w λe w' =>e= .returned (.tuple #[])/\A1 A w' Az zs0:=by
 obtain⟨n,I⟩:=Zx zs0.length;rw [<-I] at Z aa ⊢;obtain⟨ab,ac,ae⟩:=Rf;clear h am I;go_enter func181,ntmps181;go_wp2
 go_loopg [6,7] (b-a) (λk af ag wr=> ∃(i J:Nat) (O:Int),af= .int .i64 i/\ag= .int .i64 O/\((i:Int)<O->O=J/\J<n)/\(O<4611686018427387904)/\(-1<=O)/\i<=n+1/\J-i<=k/\Hid (A1 A wr Az zs0))
 case atStart=>exact⟨a,b-1,(b:Int)-1,rfl,rfl,λh=>⟨by omega,by omega⟩,by omega,by omega,by omega,by omega,ae⟩
 case round=>
  obtain⟨i,J,O,rfl,rfl,h1,an,ao,aq,ar,U⟩:=hrel;by_cases ah:(i:Int)<O
  . obtain⟨rfl,au⟩:=h1 ah
    obtain⟨G,ai,aj,V⟩:=U.open off ab.out;rw [<-ac.out] at ai aj V;clear h1;go_wp2_with fail
    go_region
    go_wp2
    go_roundg (J-1-(i+1))
    case measure=>omega
    case rel=>exact⟨i+1,J-1,(J:Int)-1,by simp,rfl,λh=>⟨by omega,by omega⟩,by omega,by omega,by omega,Nat.le_refl _,Zh (V 1 i J (by omega) (by omega))⟩
  . go_wp2
    go_end0;exact⟨rfl,U⟩
end
structure H3(A W:World)(Az sb:Nat)(zs0:List Nat)(s:Nat):Prop where
 row:A1 A W Az zs0
 bx:An W sb 3 [.int .i64 s]
 ge:A.heap.size<=sb
 ne:sb≠Az
section
variable {A W W' :World} {Az sb off c s:Nat} {zs0:List Nat}
theorem H3.drewN(h:H3 A W Az sb zs0 s)(q:Nat):H3 A (W.drewN q) Az sb zs0 s:=⟨h.row.drewN q,h.bx.below (Tx.AL W q),h.ge,h.ne⟩
def Ybq{P}(h:P:=by
 refine⟨zs,g1,⟨sp,g2.other (p:=⟨sb,0,none⟩) (Ne.symm h.ne) _⟩, ?_⟩;refine⟨g3.os,g3.tape,g3.output,Nat.le_trans g3.size (by simp [World.setCell]),λk I J=> ?_⟩;exact(Below.heap_setCell _ ⟨sb,0,none⟩ _ k (by have:=h.ge;show k≠sb;omega)).trans (g3.block k I J)):=h
theorem H3.store(h:H3 A W Az sb zs0 s)(q t:Nat):H3 A ((W.drewN q).setCell ⟨sb,0,none⟩ (.int .i64 t)) Az sb zs0 t:=by
 have h1:=h.drewN q;refine⟨?_,h1.bx.set 0 _,h.ge,h.ne⟩;obtain⟨zs,g1,⟨sp,g2⟩,g3⟩:=h1.row;exact Ybq
theorem Vy(h:H3 A W Az sb zs0 s)(am:off=0)(a b:Nat)(ha:a<zs0.length)(U:b<zs0.length)(V:zs0.length<4611686018427387904)(hs:s<1000):
 Calls prog 207 #[.slice (some ⟨Az,off,none⟩) zs0.length c, .int .i64 a, .int .i64 b, .pointer (some ⟨sb,0,none⟩)] W λe w' => ∃x y J :Nat,e= .returned (.tuple #[.int .i64 x, .int .i64 y])/\(x=a/\y=b\/x=b/\y=a)/\J <=s+1/\H3 A w' Az sb zs0 J :=by
 obtain⟨n,I⟩:=Zx zs0.length;rw [<-I] at ha U V ⊢;obtain⟨Z,aa,O⟩:=Rf;obtain⟨G,ab,ac,ae⟩:=h.row.open off Z.out;rw [<-aa.out] at ab ac ae;have cs:=h.bx.at' (i:=0) rfl;have af:=h.bx.free 0;clear h am I;go_enter func207,ntmps207;go_wp2
 go_quiet (first|(go_at_call 183;refine Calls.quiet_of_same ((Bh _ _ _).mono λ_ _ h=>⟨h.1,h.2.symm⟩)))
 go_wp2
 . go_ret2
   exact⟨b,a,s+1,rfl, .inr ⟨rfl,rfl⟩,Nat.le_refl _,O.store nq (s+1)⟩
 . go_ret2
   exact⟨a,b,s,rfl, .inl ⟨rfl,rfl⟩,by omega,O.drewN nq⟩
theorem PN(h:H3 A W Az sb zs0 s)(ac:off=0)(a b d:Nat)(ha:a<zs0.length)(ae:b<zs0.length)(hd:d<zs0.length)(af:zs0.length<4611686018427387904)(hs:s<900):
 Calls prog 201 #[.slice (some ⟨Az,off,none⟩) zs0.length c, .int .i64 a, .int .i64 b, .int .i64 d, .pointer (some ⟨sb,0,none⟩)] W λe w' => ∃x I :Nat,e= .returned (.int .i64 (x:Nat))/\(x=a\/x=b\/x=d)/\I <=s+3/\H3 A w' Az sb zs0 I :=by
 have J:Hid (∀(W:World) (s:Nat) (x y:Nat),H3 A W Az sb zs0 s->x<zs0.length->y<zs0.length->s<1000->Calls prog 207 #[.slice (some ⟨Az,off,none⟩) zs0.length c, .int .i64 (x:Nat), .int .i64 (y:Nat), .pointer (some ⟨sb,0,none⟩)] W λe w' => ∃V Z I :Nat,e= .returned (.tuple #[.int .i64 (V :Nat), .int .i64 (Z :Nat)])/\(V =x/\Z =y\/V =y/\Z =x)/\I <=s+1/\H3 A w' Az sb zs0 I):=Zh λW s x y h1 O U ao=>Vy h1 ac x y O U af ao
 obtain⟨n,aa⟩:=Zx zs0.length;rw [<-aa] at ha ae hd af ⊢;have aq:=Zh aa;have ar:=Zh h;rw [<-aq.out] at J;clear h ac aa;go_enter func201,ntmps201;go_wp2_with fail;refine(J W s a b ar ha ae (by omega)).mono ?_;rintro e w1 ⟨ag,ah,s1,rfl,h1,l1,ai⟩;have au:=Zh ai;have ab:=Zh (And.intro h1 l1);have aw:ag<n:=by omega
 have ax:ah<n:=by omega
 clear ai h1 l1;go_wp2_with fail;refine(J w1 s1 ah d au ax hd (by have:=ab.2;omega)).mono ?_;rintro e w2 ⟨aj,aE,s2,rfl,O,l2,al⟩;have ay:=Zh al;have am:=Zh (And.intro O l2);have az:aj<n:=by omega
 clear al O l2;go_wp2_with fail;refine(J w2 s2 ag aj ay aw az (by have:=ab.2;have:=am.2;omega)).mono ?_;rintro e w3 ⟨aF,aA,aB,rfl,U,l3,an⟩;have aC:=Zh an;have aD:=Zh (And.intro U l3);clear an U l3;go_wp2;go_ret;have:=ab.out;have:=am.out;have:=aD.out;exact⟨aA,aB,rfl,by omega,by omega,aC⟩
theorem VA(h:H3 A W Az sb zs0 s)(O:off=0)(a:Nat)(ae:1<=a)(ha:a+1<zs0.length)(U:zs0.length<4611686018427387904)(hs:s<900):
 Calls prog 200 #[.slice (some ⟨Az,off,none⟩) zs0.length c, .int .i64 a, .pointer (some ⟨sb,0,none⟩)] W λe w' => ∃x I :Nat,e= .returned (.int .i64 x)/\(a<=x+1/\x<=a+1)/\I <=s+3/\H3 A w' Az sb zs0 I :=by
 obtain⟨b,rfl⟩: ∃b,a=b+1:=⟨a-1,by omega⟩;have J:=PN (c:=c) h O b (b+1) (b+1+1) (by omega) (by omega) (by omega) U hs;push_cast at J;have V:=Zh J;have af:(b:Int)+1-1=(b:Int):=by omega
 obtain⟨n,Z⟩:=Zx zs0.length;rw [<-Z] at V ha U ⊢;clear h O Z J;push_cast;go_enter func200,ntmps200;go_wp2_with fail;refine V.mono ?_;rintro e w1 ⟨x,I,rfl,h1,aa,ab⟩;have ac:=Zh (And.intro h1 (And.intro aa ab));clear h1 aa ab;go_wp2;go_ret;have:=ac.out;exact⟨x,I,rfl,by omega,this.2.1,this.2.2⟩
def Ylt{P}(h:P:=by
 have J:Below W.heap.size W I:=by rw [U];exact(Below.refl _ W).alloc (Nat.le_refl _) _
 have O:sb≠Az:=by have:=h.lt;omega
 have V:A.heap.size<=sb:=by obtain⟨_,_,_,g⟩:=h;have:=g.size;omega
 exact And.intro J (And.intro O V)):=h
theorem Xf(h:A1 A W Az zs0)(am:off=0)(a b:Nat)(a0:a<b)(aO:b<=zs0.length)(an:zs0.length<4611686018427387904):
 Calls prog 180 #[.slice (some ⟨Az,off,none⟩) zs0.length c, .int .i64 a, .int .i64 b] W λe w' => ∃(x:Nat) (az:Nat),e= .returned (.tuple #[.int .i64 (x:Nat), .int .i64 az])/\(a<=x/\x<b)/\az<=2/\A1 A w' Az zs0:=by
 obtain⟨I,U⟩:=Zx (W.alloc (.cells #[.int .i64 0] 3));obtain⟨sb,ac⟩:=Zx W.heap.size;obtain⟨aA,aB,aC⟩:=Ylt;have J:H3 A I Az sb zs0 0:=⟨h.below aA,by rw [U,ac];exact An.new W _ [.int .i64 0],aC,aB⟩;have ao:Hid (∀(V:World) (s x y z:Nat),H3 A V Az sb zs0 s->x<zs0.length->y<zs0.length->z<zs0.length->s<900->Calls prog 201 #[.slice (some ⟨Az,off,none⟩) zs0.length c, .int .i64 (x:Nat), .int .i64 (y:Nat), .int .i64 (z:Nat), .pointer (some ⟨sb,0,none⟩)] V λe w' => ∃v af :Nat,e= .returned (.int .i64 v)/\(v=x\/v=y\/v=z)/\af <=s+3/\H3 A w' Az sb zs0 af):=Zh λV s x y z h1 aq ar au aP=>PN h1 am x y z aq ar au an aP
 have ah:Hid (∀(V:World) (s x:Nat),H3 A V Az sb zs0 s->1<=x->x+1<zs0.length->s<900->Calls prog 200 #[.slice (some ⟨Az,off,none⟩) zs0.length c, .int .i64 (x:Nat), .pointer (some ⟨sb,0,none⟩)] V λe w' => ∃v af :Nat,e= .returned (.int .i64 v)/\(x<=v+1/\v<=x+1)/\af <=s+3/\H3 A w' Az sb zs0 af):=Zh λV s x h1 aq ar au=>VA h1 am x aq ar an au
 obtain⟨n,aD⟩:=Zx zs0.length;rw [<-aD] at aO an ao ah ⊢;obtain⟨ab,aa⟩:=K7;obtain⟨Z,aQ⟩: ∃Z:Nat,Z=a+(b-a)/4*1:=⟨_,rfl⟩;obtain⟨O,aR⟩: ∃O:Nat,O=a+(b-a)/4*2:=⟨_,rfl⟩;obtain⟨K,aS⟩: ∃K:Nat,K=a+(b-a)/4*3:=⟨_,rfl⟩;have a1:((a:Int)+((b:Int)-(a:Int))/4)=(Z:Int):=by omega
 have a2:((a:Int)+((b:Int)-(a:Int))/4*2)=(O:Int):=by omega
 have a3:((a:Int)+((b:Int)-(a:Int))/4*3)=(K:Int):=by omega
 have aw:=Zh (show(8<=b-a->a+2<=Z/\Z+2<=O/\O+2<=K/\K+2<=b)/\a<=O/\O<b from⟨λ_=>by omega,by omega,by omega⟩);clear h am aD U ac aA aB aC J aQ aR aS;by_cases aT:b-a>=8
 . obtain⟨⟨g1,g2,g3,g4⟩,g5,g6⟩:(a+2<=Z/\Z+2<=O/\O+2<=K/\K+2<=b)/\a<=O/\O<b:=⟨aw.1 aT,aw.2⟩
   by_cases a4:b-a>=50
   focus
    go_enter func180,ntmps180;go_wp2_with fail;rw [<-aa.1,<-aa.2];refine(ah I 0 Z ab (by omega) (by omega) (by omega)).mono ?_;rintro e w1 ⟨i1,s1,rfl,aE,q1,aF⟩;have aU:=Zh aF;have ag:=Zh (And.intro aE q1);clear aF aE q1;go_wp2_with fail;refine(ah w1 s1 O aU (by omega) (by omega) (by have:=ag.out;omega)).mono ?_;rintro e w2 ⟨aV,s2,rfl,ax,aH,aJ⟩;obtain⟨aW,ai⟩:=SA;clear aJ ax aH;go_wp2_with fail;refine(ah w2 s2 K aW (by omega) (by omega) (by have:=ag.out;have:=ai.out;omega)).mono ?_;rintro e w3 ⟨k1,aX,rfl,aG,aK,aL⟩;have aY:=Zh aL;have ay:=Zh (And.intro aG aK);clear aL aG aK;go_wp2_with fail;refine(ao w3 aX i1 aV k1 aY (by have:=ag.out;omega) (by have:=ai.out;omega) (by have:=ay.out;omega) (by have:=ag.out;have:=ai.out;have:=ay.out;omega)).mono ?_;rintro e w4 ⟨p,aZ,rfl,aM,aN,ae⟩;have cs:=ae.bx.at' (i:=0) rfl;have aj:=Zh ae;have al:Hid (a<=p/\p<b):=Zh (by have:=ag.out;have:=ai.out;have:=ay.out;omega)
   rotate_left
   focus
    go_enter func180,ntmps180;go_wp2_with fail;rw [<-aa.1,<-aa.2];refine(ao I 0 Z O K ab (by omega) (by omega) (by omega) (by omega)).mono ?_;rintro e w4 ⟨p,aZ,rfl,aM,aN,ae⟩;have cs:=ae.bx.at' (i:=0) rfl;have aj:=Zh ae;have al:Hid (a<=p/\p<b):=Zh (by omega)
   all_goals
    clear ae aM aN;go_wp2
    all_goals
     go_ret2
     first
      |exact⟨p,1,rfl,al,by omega,aj.row⟩
      |exact⟨p,2,rfl,al,by omega,aj.row⟩
      |exact⟨p,0,rfl,al,by omega,aj.row⟩
 . have g5:=aw.2
   have cs:=ab.bx.at' (i:=0) rfl;rw [aa.1,aa.2] at cs;go_enter func180,ntmps180;go_wp2
   all_goals
    try rw [<-aa.1]
    go_ret2
    first
     |exact⟨O,1,rfl,g5,by omega,ab.row⟩
     |exact⟨O,2,rfl,g5,by omega,ab.row⟩
     |exact⟨O,0,rfl,g5,by omega,ab.row⟩
end
