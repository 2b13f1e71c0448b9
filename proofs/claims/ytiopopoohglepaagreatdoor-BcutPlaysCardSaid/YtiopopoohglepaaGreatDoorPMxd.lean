/- A part. -/
import Derived.Test.YtiopopoohglepaaGreatDoorPMxc
import Derived.Sort.Walk7a
import Derived.Shelf.Small.Bits
import Derived.Ground.NamesProg
set_option linter.all false
set_option maxRecDepth 1000000
set_option maxHeartbeats 6400000
namespace Go.Proofs.YtiopopoohglepaaGreatDoor
open Go.Proofs.Tryz
open Go.RowKit Go.Shelf Go.Sort
variable {P:Option Addr}{b bx c:Nat}{w:World}{ws:List Nat}
def Tryz.RC:Go.Shelf.Ren:=⟨fun|125=>168|128=>186|129=>187|n=>n,fun|46=>209|3=>3|51=>28|53=>22|4=>4|5=>5|9=>9|n=>n,fun|n=>n⟩
theorem Tryz.ZO:Go.Proofs.Lays.n125 Tryz.prog Tryz.RC:={
 mixed:=by kernel_rfl
 f125:=Tryz.func168.trans (congrArg some (by kernel_rfl))
 f128:=Tryz.func186.trans (congrArg some (by kernel_rfl))
 f129:=Tryz.func187.trans (congrArg some (by kernel_rfl))
 t3:=Tryz.underlying3
 a3:=Tryz.isAgg3
 z3:=Tryz.sizeOf3
 v3:=Tryz.zeroValue3
 t4:=Tryz.underlying4
 a4:=Tryz.isAgg4
 z4:=Tryz.sizeOf4
 v4:=Tryz.zeroValue4
 t5:=Tryz.underlying5
 a5:=Tryz.isAgg5
 z5:=Tryz.sizeOf5
 v5:=Tryz.zeroValue5
 t9:=Tryz.underlying9
 a9:=Tryz.isAgg9
 z9:=Tryz.sizeOf9
 v9:=Tryz.zeroValue9
 t46:=Tryz.underlying209
 a46:=Tryz.isAgg209
 z46:=Tryz.sizeOf209
 v46:=Tryz.zeroValue209
 t51:=Tryz.underlying28
 a51:=Tryz.isAgg28
 z51:=Tryz.sizeOf28
 v51:=Tryz.zeroValue28
 t53:=Tryz.underlying22
 a53:=Tryz.isAgg22
 z53:=Tryz.sizeOf22
 v53:=Tryz.zeroValue22 }
theorem LV(n:Nat)(I:n<4611686018427387904)(w:World):Calls prog 168 #[.int .u64 (n:Int)] w λe w' =>e= .returned (.int .i64 (bitsLen n:Nat))/\w' =w:=by
 have h:=Any.bits_Len Tryz.ZO (n:Int) w (by omega) (by omega)
 rwa [Int.toNat_natCast,bitLen_eq _ (by omega)] at h
theorem VL(n:Nat)(I:n<4611686018427387904)(w:World):Calls prog 198 #[.int .i64 n] w λe w' =>e= .returned (.int .u64 ((1 <<< bitsLen n:Nat):Int))/\w' =w:=by
 have J:=Zh (LV n I);have O:bitsLen n<=62:=(bitsLen_le_iff n 62).2 (by omega);have hp:=wrap_two_pow (bitsLen n) O;go_enter func198,ntmps198;go_wp2_with (first|(go_at_call 168;refine(J _).mono ?_;rintro e w' ⟨rfl,rfl⟩))
 go_ret;exact⟨rfl,rfl⟩
theorem Wc(rb ro X:Nat)(U:X<18446744073709551616)(w:World)(aa:w.cell? ⟨rb,ro,none⟩=some (.int .u64 X))(ab:w.frozen? ⟨rb,ro,none⟩=false):
 Calls prog 199 #[.pointer (some ⟨rb,ro,none⟩)] w λe w' =>e= .returned (.int .u64 (xorNextN X:Nat))/\w' =(w.setCell ⟨rb,ro,none⟩ (.int .u64 (xorNextN X:Nat))).drewN 3:=by
 obtain⟨A,hA⟩: ∃A:Nat,A=X ^^^ (X*8192%18446744073709551616):=⟨_,rfl⟩;obtain⟨B,I⟩: ∃B:Nat,B=A ^^^ (A/128):=⟨_,rfl⟩;obtain⟨C,J⟩: ∃C:Nat,C=B ^^^ (B*131072%18446744073709551616):=⟨_,rfl⟩;have V:A<18446744073709551616:=by rw [hA];exact Nat.xor_lt_two_pow (n:=64) (by omega) (by omega)
 have Z:B<18446744073709551616:=by rw [I];exact Nat.xor_lt_two_pow (n:=64) (by omega) (by omega)
 have ac:bits .xor .u64 (X:Int) (IntKind.u64.wrap ((X:Int)*8192))=(A:Int):=by
  rw [IntKind.wrap_u64,show((X:Int)*8192%18446744073709551616)=((X*8192%18446744073709551616:Nat):Int) by omega,bits_xor_u64_nat _ _ U (by omega),hA]
 have ae:bits .xor .u64 (A:Int) ((A:Int)/128)=(B:Int):=by
  rw [show((A:Int)/128)=((A/128:Nat):Int) by omega,bits_xor_u64_nat _ _ V (by omega),I]
 have af:bits .xor .u64 (B:Int) (IntKind.u64.wrap ((B:Int)*131072))=(C:Int):=by
  rw [IntKind.wrap_u64,show((B:Int)*131072%18446744073709551616)=((B*131072%18446744073709551616:Nat):Int) by omega,bits_xor_u64_nat _ _ Z (by omega),J]
 have O:xorNextN X=C:=by unfold xorNextN;simp only [];rw [<-hA,<-I,<-J]
 rw [O];clear hA I J O;have ag: ∀v v',(w.setCell ⟨rb,ro,none⟩ v).setCell ⟨rb,ro,none⟩ v' =w.setCell ⟨rb,ro,none⟩ v' :=setCell_setCell w rb ro;go_enter func199,ntmps199;go_wp2
 go_region
 all_goals go_wp2
 all_goals go_region
 all_goals go_wp2
 all_goals go_region
 all_goals go_wp2
 go_ret;exact⟨rfl,rfl⟩
structure LI(A W:World)(Az sb:Nat)(zs0:List Nat)(s:Nat):Prop where
 row:A1 A W Az zs0
 bx:An W sb 261 [.int .u64 s]
 ge:A.heap.size<=sb
 ne:sb≠Az
section
variable {A W W':World} {Az off sb s:Nat} {zs0:List Nat}
theorem LI.drewN(h:LI A W Az sb zs0 s)(q:Nat):LI A (W.drewN q) Az sb zs0 s:=⟨h.row.drewN q,h.bx.below (Tx.AL W q),h.ge,h.ne⟩
theorem LI.store(h:LI A W Az sb zs0 s)(t:Nat):LI A (W.setCell ⟨sb,0,none⟩ (.int .u64 t)) Az sb zs0 t:=by
 refine⟨?_,h.bx.set 0 _,h.ge,h.ne⟩;obtain⟨zs,g1,⟨sp,g2⟩,g3⟩:=h.row;exact Ybq
theorem LI.open(h:LI A W Az sb zs0 s)(off:Nat)(I:off=0): ∃G:Nat->Nat,(∀t,t<zs0.length->W.cell? ⟨Az,off+t,none⟩=some (.int .u64 (G t:Nat)))/\(∀t,t<zs0.length->W.frozen? ⟨Az,off+t,none⟩=false)/\
 Hid (∀q i j,i<zs0.length->j<zs0.length->LI A (((W.drewN q).setCell ⟨Az,off+i,none⟩ (.int .u64 (G j:Nat))).setCell ⟨Az,off+j,none⟩ (.int .u64 (G i:Nat))) Az sb zs0 s):=by
 obtain⟨G,h1,J,O⟩:=h.row.open off I;exact⟨G,h1,J,Zh λq i j hi U=>⟨O q i j hi U,((h.bx.below (Tx.AL W q)).other (p:=⟨Az,off+i,none⟩) h.ne _).other (p:=⟨Az,off+j,none⟩) h.ne _,h.ge,h.ne⟩⟩
theorem Ud(h:LI A W Az sb zs0 s)(hs:s<18446744073709551616):Calls prog 199 #[.pointer (some ⟨sb,0,none⟩)] W λe w' => ∃t:Nat,e= .returned (.int .u64 t)/\t<18446744073709551616/\LI A w' Az sb zs0 t:=
 (Wc sb 0 s hs W (h.bx.at' (i:=0) rfl) (h.bx.free 0)).mono λe w' ⟨h1,I⟩=>⟨_,h1,xorNextN_lt s hs,by rw [I];exact(h.store _).drewN 3⟩
theorem Wy(h:A1 A W Az zs0)(aj:off=0)(a L:Nat)(ar:a+L<=zs0.length)(au:zs0.length<4611686018427387904)(aF:8<=L):
 Calls prog 179 #[.slice (some ⟨Az,off,none⟩) zs0.length c, .int .i64 a, .int .i64 ((a+L:Nat):Int)] W λe w' =>e= .returned (.tuple #[])/\A1 A w' Az zs0:=by
 obtain⟨M,Z⟩: ∃M:Nat,M=1 <<< bitsLen L:=⟨_,rfl⟩;have aG:1<=M:=by rw [Z,Nat.one_shiftLeft];exact Nat.two_pow_pos _
 have aH:M<=2*L:=by rw [Z,Nat.one_shiftLeft];exact two_pow_bitsLen_le (by omega)
 have aw:Hid (∀w,Calls prog 198 #[.int .i64 (L:Int)] w λe w' =>e= .returned (.int .u64 (M:Int))/\w' =w):=Zh (by rw [Z];exact λw=>VL L (by omega) w);clear Z;obtain⟨I,U⟩:=Zx (W.alloc (.cells #[.int .u64 (L:Int)] 261));obtain⟨sb,ac⟩:=Zx W.heap.size;obtain⟨al,am,an⟩:=Ylt;have ax:=Zh (show LI A I Az sb zs0 L from⟨h.below al,by rw [U,ac];exact An.new W _ [.int .u64 (L:Int)],an,am⟩);have ay:L<18446744073709551616:=by omega
 obtain⟨n,J⟩:=Zx zs0.length;rw [<-J] at ar au ⊢;have az:=Zh aj;obtain⟨aA,ao⟩:=K7;clear h aj J U ac al am an;go_enter func179,ntmps179;go_wp2_with (first|(go_at_call 198;rw [show((a:Int)+(L:Int)-(a:Int))=(L:Int) by omega];refine(aw _).mono ?_;rintro e w' ⟨rfl,rfl⟩))
 rw [<-ao.1,<-ao.2]
 go_loopw [9] (λvi wr=> ∃t r:Nat,vi= .int .i64 ((a+L/4*2-1+t:Nat):Int)/\t<=3/\r<18446744073709551616/\Hid (LI A wr Az sb zs0 r)) (λvi _=>a+L/4*2+3-(intOf vi).toNat)
 case atStart=>exact⟨0,L,by congr 1;omega,by omega,ay,ax⟩
 case round=>
  obtain⟨t,r,rfl,aJ,aB,ab⟩:=hrel;by_cases aK:t<3
  . go_wp2_with fail
    refine(Ud ab.out aB).mono ?_;rintro e w1 ⟨aa,rfl,ae,af⟩;have aq :=Zh (And.intro ae af);obtain⟨O,ag⟩: ∃O:Nat,O=aa &&& (M-1):=⟨_,rfl⟩;have aL:O<=M-1:=(by rw [ag];exact Nat.and_le_right);have aM:bits .and .u64 (aa :Int) ((M:Int)-1)=(O:Int):=by
     rw [show((M:Int)-1)=((M-1:Nat):Int) by omega,bits_and_u64_nat _ _ ae (by omega),ag]
    obtain⟨G,aC,aD,ah⟩:=af.open off az.out;rw [<-aA.out] at aC aD ah;clear ag ae af ab;go_wp2
    . have aE:L<=O:=by omega
      by_cases ai:a+L/4*2-1+t=a+(O-L)
      all_goals
       go_region
       all_goals go_wp2
       go_roundw
       case rel=>
        refine⟨t+1,aa,by first|rfl|(congr 1<;>omega),by omega,aq.1, ?_⟩
        have V:=ah.out 1 (a+L/4*2-1+t) (a+(O-L)) (by omega) (by omega)
        (try rw [ai] at V)
        exact Zh V
       case measure=>simp [intOf];omega
    . have aE: ¬L<=O:=by omega
      by_cases ai:a+L/4*2-1+t=a+O
      all_goals
       go_region
       all_goals go_wp2
       go_roundw
       case rel=>
        refine⟨t+1,aa,by first|rfl|(congr 1<;>omega),by omega,aq.1, ?_⟩
        have V:=ah.out 1 (a+L/4*2-1+t) (a+O) (by omega) (by omega)
        (try rw [ai] at V)
        exact Zh V
       case measure=>simp [intOf];omega
  . go_wp2
    go_end0;exact⟨rfl,ab.row⟩
theorem V6(h:A1 A W Az zs0)(I:off=0)(a b:Nat)(Z:a<=b)(J:b<=zs0.length)(O:zs0.length<4611686018427387904):
 Calls prog 179 #[.slice (some ⟨Az,off,none⟩) zs0.length c, .int .i64 a, .int .i64 b] W λe w' =>e= .returned (.tuple #[])/\A1 A w' Az zs0:=by
 obtain⟨L,rfl⟩: ∃L,b=a+L:=⟨b-a,by omega⟩;by_cases U:8<=L
 . exact Wy h I a L J O U
 . have V:=Zh h
   clear h I;go_enter func179,ntmps179;go_wp2;go_end0;exact⟨rfl,V⟩
end
section
variable {A W W':World} {Az off:Nat} {zs0:List Nat}
def Ycf{P}(h:P:=by
 (try simp only [Exit.inBlock,Exit.then]);refine bodyPost_ret (results_none rfl _ _ _) rfl ?_
 exact⟨rfl,I⟩):=h
theorem V7(Z:off=0)(aa:zs0.length<4611686018427387904): ∀(N:Nat) (w:World) (a b ag:Nat),b-a<N->A1 A w Az zs0->a<=b->b<=zs0.length->ag<4611686018427387904->
 Calls prog 167 #[.slice (some ⟨Az,off,none⟩) zs0.length c, .int .i64 a, .int .i64 b, .int .i64 ag] w λe w' =>e= .returned (.tuple #[])/\A1 A w' Az zs0:=by
 have aA:Hid (∀(V:World) (x y:Nat),A1 A V Az zs0->x<=y->y<=zs0.length->Calls prog 177 #[.slice (some ⟨Az,off,none⟩) zs0.length c, .int .i64 (x:Nat), .int .i64 (y:Nat)] V λe w' =>e= .returned (.tuple #[])/\A1 A w' Az zs0):=Zh (λV x y h1 J O=>VE h1 Z x y J O aa);have aB:Hid (∀(V:World) (x y:Nat),A1 A V Az zs0->x<=y->y<=zs0.length->Calls prog 178 #[.slice (some ⟨Az,off,none⟩) zs0.length c, .int .i64 (x:Nat), .int .i64 (y:Nat)] V λe w' =>e= .returned (.tuple #[])/\A1 A w' Az zs0):=Zh (λV x y h1 J O=>UK h1 Z x y J O aa);have aC:Hid (∀(V:World) (x y:Nat),A1 A V Az zs0->x<=y->y<=zs0.length->Calls prog 179 #[.slice (some ⟨Az,off,none⟩) zs0.length c, .int .i64 (x:Nat), .int .i64 (y:Nat)] V λe w' =>e= .returned (.tuple #[])/\A1 A w' Az zs0):=Zh (λV x y h1 J O=>V6 h1 Z x y J O aa);have aD:Hid (∀(V:World) (x y:Nat),A1 A V Az zs0->x<=y->y<=zs0.length->Calls prog 181 #[.slice (some ⟨Az,off,none⟩) zs0.length c, .int .i64 (x:Nat), .int .i64 (y:Nat)] V λe w' =>e= .returned (.tuple #[])/\A1 A w' Az zs0):=Zh (λV x y h1 J O=>VP h1 Z x y J O aa);have aE:Hid (∀(V:World) (x y:Nat),A1 A V Az zs0->x<y->y<=zs0.length->Calls prog 180 #[.slice (some ⟨Az,off,none⟩) zs0.length c, .int .i64 (x:Nat), .int .i64 (y:Nat)] V λe w' => ∃(z:Nat) (ae:Nat),e= .returned (.tuple #[.int .i64 z, .int .i64 ae])/\(x<=z/\z<y)/\ae<=2/\A1 A w' Az zs0):=Zh (λV x y h1 J O=>Xf h1 Z x y J O aa);have aF:Hid (∀(V:World) (x y:Nat),A1 A V Az zs0->x<y->y<=zs0.length->Calls prog 182 #[.slice (some ⟨Az,off,none⟩) zs0.length c, .int .i64 (x:Nat), .int .i64 (y:Nat)] V λe w' => ∃t:Bool,e= .returned (.bool t)/\A1 A w' Az zs0):=Zh (λV x y h1 J O=>X8 h1 Z x y J O aa);have aG:Hid (∀(V:World) (x y p:Nat),A1 A V Az zs0->x<=p->p<y->y<=zs0.length->Calls prog 184 #[.slice (some ⟨Az,off,none⟩) zs0.length c, .int .i64 (x:Nat), .int .i64 (y:Nat), .int .i64 (p:Nat)] V λe w' => ∃z:Nat,e= .returned (.int .i64 z)/\(x<z/\z<=y)/\A1 A w' Az zs0):=Zh (λV x y p h1 J O aj=>Ye h1 Z x y p J O aj aa);have aH:Hid (∀(V:World) (x y p:Nat),A1 A V Az zs0->x<=p->p<y->y<=zs0.length->Calls prog 185 #[.slice (some ⟨Az,off,none⟩) zs0.length c, .int .i64 (x:Nat), .int .i64 (y:Nat), .int .i64 (p:Nat)] V λe w' => ∃(z:Nat) (t:Bool),e= .returned (.tuple #[.int .i64 z, .bool t])/\(x<=z/\z<y)/\A1 A w' Az zs0):=Zh (λV x y p h1 J O aj=>Uz h1 Z x y p J O aj aa);obtain⟨n,am⟩:=Zx zs0.length;rw [<-am] at aa aA aB aC aD aE aF aG aH ⊢;have aV:=Zh Z;have aW:=Zh am;clear Z am;intro N
 induction N with
 |zero=>intro _ _ _ _ h;exact absurd h (Nat.not_lt_zero _)
 |succ N ih=>
  intro w a b ag hN h aX aY bh;have aZ:=Zh h;have aI:=Zh ih;clear h ih;go_enter func167,ntmps167;go_wp2
  go_loopg [1,2,3,8,9] (b-a) (λk s1 s2 an a0 a1 wr=> ∃(a' b' lim:Nat) (ah wp:Bool),s1= .int .i64 a' /\s2= .int .i64 b' /\an= .int .i64 lim/\a0= .bool ah/\a1= .bool wp/\
   a' <=b' /\b' <=n/\b' -a' <=k/\k<=b-a/\lim<=ag/\Hid (A1 A wr Az zs0))
  case atStart=>exact⟨a,b,ag,true,true,rfl,rfl,rfl,rfl,rfl,aX,aY,Nat.le_refl _,Nat.le_refl _,Nat.le_refl _,aZ⟩
  case round=>
   obtain⟨a',b',lim,ah,wp,rfl,rfl,rfl,rfl,rfl,al,ab,bi,bj,bk,ai⟩:=hrel;by_cases bm:b' -a' <=12
   . have a2:(b' :Int)-(a' :Int)<=12:=by omega
     go_wp2_with (go_at_call 177;refine(aA _ a' b' ai al ab).mono ?_;rintro e w1 ⟨rfl,I⟩);exact Ycf
   . have a2: ¬((b' :Int)-(a' :Int)<=12):=by omega
     by_cases a3:lim=0
     . subst a3
       go_wp2_with (go_at_call 178;refine(aB _ a' b' ai al ab).mono ?_;rintro e w1 ⟨rfl,I⟩);exact Ycf
     . have bo: ¬((lim:Int)=0):=by omega
       go_upto_if 35 with fail;go_cut [3] from 19 (λan wc=> ∃ac:Nat,an= .int .i64 ac/\ac<=lim/\Hid (A1 A wc Az zs0))
       case first=>
        cases ah
        . go_wp2_with (go_at_call 179;refine(aC _ a' b' ai al ab).mono ?_;rintro e w1 ⟨rfl,I⟩)
          go_meet
          case rel=>exact⟨lim-1,by congr 1;omega,by omega,Zh I⟩
        . go_wp2_with fail
          go_meet
          case rel=>exact⟨lim,rfl,Nat.le_refl _,ai⟩
       case rest=>
        obtain⟨ac,rfl,bp,aJ⟩:=hcut;clear ai;go_upto_if 50 with (go_at_call 180;refine(aE _ a' b' aJ (by omega) ab).mono ?_;rintro e w1 ⟨aK,ae,rfl,a4,a5,I⟩);have ao:=Zh I;obtain⟨aL,aM⟩:=a4;clear I aJ;go_cut [11,12] from 19 (λa6 aq wc=> ∃af hh:Nat,a6= .int .i64 af/\aq= .int .i64 hh/\a' <=af/\af<b' /\Hid (A1 A wc Az zs0))
        case first=>
         by_cases hh:ae=2
         . subst hh
           go_wp2_with (go_at_call 181;refine(aD _ a' b' ao al ab).mono ?_;rintro e w1 ⟨rfl,I⟩);go_meet
           case rel=>exact⟨b' -1-(aK-a'),1,by congr 1;omega,rfl,by omega,by omega,Zh I⟩
         . have bq: ¬((ae:Int)=2):=by omega
           go_wp2_with fail;go_meet
           case rel=>exact⟨aK,ae,rfl,rfl,aL,aM,ao⟩
        case rest=>
         obtain⟨af,hh,rfl,rfl,aN,aO,ar⟩:=hcut;clear ao aL aM a5;go_upto_region 15 with fail;go_cut [12,68] from 19 (λaq a7 wx=> ∃t:Bool,aq= .int .i64 hh/\a7= .bool t/\wx=wc)
         case first=>
          by_cases br:(hh:Int)=1<;>cases ah<;>cases wp<;>
           (go_wp2_with fail
            go_meet;exact⟨_,rfl,rfl,rfl⟩)
         case rest=>
          obtain⟨t68,rfl,rfl,rfl⟩:=hcut;go_upto_if 68 with fail;go_cut [] from 19 (λwx=>Hid (A1 A wx Az zs0))
          case first=>
           cases t68
           . go_wp2_with fail
             go_meet
             case rel=>exact ar
           . go_wp2_with fail
             refine(aF _ a' b' ar (by omega) ab).mono ?_;rintro e w1 ⟨a8,rfl,I⟩;have aP:=Zh I;clear I
             cases a8
             . go_wp2_with fail
               go_meet
               case rel=>exact aP
             . go_wp2_with fail
               (try simp only [Exit.inBlock,Exit.then]);refine bodyPost_ret (results_none rfl _ _ _) rfl ?_
               exact⟨rfl,aP⟩
          case rest=>
           have au:=hcut;clear hcut ar;obtain⟨G,aQ,aR,aS⟩:=au.open off aV.out;rw [<-aW.out] at aQ aR aS;go_upto_region 17 with fail;go_cut [87] from 19 (λa9 wx=> ∃t:Bool,a9= .bool t/\Hid (A1 A wx Az zs0))
           case first=>
            rcases Nat.eq_zero_or_pos a' with ba|ba
            focus
             have bb:decide ((a' :Int)>0)=false:=decide_eq_false (by omega)
            rotate_left
            focus
             have bb:(a' :Int)>0:=by omega
            all_goals
             go_big_quiet (first|(go_at_call 183;refine Calls.quiet_of_same ((Bh _ _ _).mono λ_ _ h=>⟨h.1,h.2.symm⟩)))
             go_wp2_with fail;go_meet
             case rel=>exact⟨_,rfl,Zh (au.drewN nq)⟩
           case rest=>
            obtain⟨t87,rfl,aw⟩:=hcut;clear aQ aR aS au
            cases t87
            . go_upto_if 113 with (go_at_call 185;refine(aH _ a' b' af aw aN aO ab).mono ?_;rintro e w1 ⟨U,ap,rfl,ax,I⟩)
              have aT:=Zh I;obtain⟨bc,bs⟩:=ax;clear I aw;by_cases aj:U-a' <b' -U
              . have bd:(U:Int)-(a' :Int)<(b' :Int)-(U:Int):=by omega
                go_wp2_with (go_at_call 167;refine(aI _ a' U ac (by omega) aT bc (by omega) (by omega)).mono ?_;rintro e be ⟨rfl,ay⟩)
                go_roundg (b' -(U+1))
                case measure=>omega
                case rel=>exact⟨U+1,b',ac,_,ap,by simp,rfl,rfl,rfl,rfl,by omega,by omega,Nat.le_refl _,by omega,by omega,Zh ay⟩
              . have bd: ¬((U:Int)-(a' :Int)<(b' :Int)-(U:Int)):=by omega
                have aU:=aI.out;have az:=(λV bf=>aU V (U+1) b' ac (by omega) bf (by omega) (by omega) (by omega));push_cast at az;have bg:=Zh az;clear az aU;go_wp2_with (go_at_call 167;refine(bg _ aT).mono ?_;rintro e be ⟨rfl,ay⟩)
                go_roundg (U-a')
                case measure=>omega
                case rel=>exact⟨a',U,ac,_,ap,rfl,rfl,rfl,rfl,rfl,by omega,by omega,Nat.le_refl _,by omega,by omega,Zh ay⟩
            . go_wp2_with (go_at_call 184;refine(aG _ a' b' af aw aN aO ab).mono ?_;rintro e w1 ⟨U,rfl,ax,I⟩)
              go_roundg (b' -U)
              case measure=>omega
              case rel=>exact⟨U,b',ac,ah,wp,rfl,rfl,rfl,rfl,rfl,ax.2,ab,Nat.le_refl _,by omega,by omega,Zh I⟩
end
attribute [local go_sem] Oper.semAt_some Ec
theorem RA(P:Option Addr)(n c:Nat)(w:World):Calls prog 109 #[.slice P n c] w λe w' =>e= .returned (.func (.func 152) #[] #[.pointer (some ⟨w.heap.size,0,none⟩)])/\w' =w.alloc (.cells #[.slice P n c] 46):=by
 go_enter func109,ntmps109;go_wp2;go_ret;exact⟨rfl,rfl⟩
theorem OI(V:P=some ⟨b,0,none⟩\/ws= [])(hx:w.cell? ⟨bx,0,none⟩=some (.slice P ws.length c))(Z: ∀j (h:j<ws.length),w.cell? ⟨b,j,none⟩=some (.int .u64 (ws[j]:Nat)))(aa:b<w.heap.size)(aB:ws.length<=100000000):
 SeqStopsK Fence.wide 8 prog 152 #[.pointer (some ⟨bx,0,none⟩)] (λz:{z:Nat // z<ws.length}=> #[.int .u64 (ws[z.1]'z.2:Nat)]) (BY b bx) (λxs=>xs.map (·.1)=List.range ws.length) (λpre=> ∃t,List.range ws.length=pre.map (·.1)++t) ws.length w:=λl aj aC W J aD aE O h0=>by
 have al:=(J.cell (p:=⟨bx,0,none⟩) (Am hx)).trans hx;have am:Hid (∀j (h:j<ws.length),W.cell? ⟨b,j,none⟩=some (.int .u64 (ws[j]:Nat))):=Zh (λj h=>(J.cell (p:=⟨b,j,none⟩) aa).trans (Z j h));have an:=Zh h0;have ao:=Zh V;clear J hx Z aa h0 V;refine callsIn_of_wp func152 rfl trivial ?_ rfl;simp only [ntmps152,List.size_toArray,List.length_cons,List.length_nil,Nat.reduceAdd,Nat.reduceSub,Array.replicate_succ,Array.replicate_zero,List.push_toArray,List.append_toArray,List.nil_append,List.cons_append];gi_wp2_with fail
 gi_loopw [7] (λU wr=> ∃(pre:List {z:Nat // z<ws.length}) (i:Nat),i<=ws.length/\U= .int .i64 i/\Hid (pre.map (·.1)=List.range i)/\Hid (∀j (h:j<ws.length),wr.cell? ⟨b,j,none⟩=some (.int .u64 (ws[j]:Nat)))/\Hid (aj pre wr)) (λU _=>ws.length-(intOf U).toNat)
 case atStart=>exact⟨[],0,by omega,rfl,Zh rfl,am,an⟩
 case round=>
  obtain⟨pre,i,hi,rfl,hp,ab,ac⟩:=hrel;by_cases I:i<ws.length
  . have aq:=ab.out i I
    obtain rfl:P=some ⟨b,0,none⟩:=ao.resolve_right (λh=>by rw [h] at I;exact absurd I (Nat.not_lt_zero _));have aF:pre.length=i:=(by have:=congrArg List.length hp.out;simpa using this);have ar:=Zh O;clear O al;gi_wp2_with fail;obtain⟨fn,tmps,assign,body,au,ae⟩:=ar.out pre ⟨i,I⟩ _ ac (by omega);have aw:=Zh ae;clear ae;rw [au];gi_wp2;refine(aw).mono ?_;have af:Hid ((pre++ [(⟨i,I⟩:{z:Nat // z<ws.length})]).map (·.1)=List.range (i+1)):=Zh (by rw [List.map_append,hp.out,List.range_succ];rfl);rintro e ax (⟨rfl,ag,ah⟩|⟨rfl,ai⟩)
    . have ay:Hid (∀j (h:j<ws.length),ax.cell? ⟨b,j,none⟩=some (.int .u64 (ws[j]:Nat))):=Zh (λj h=>(World.cell?_of_block (a:=⟨b,j,none⟩) ah.2.1).trans (ab j h))
      have az:=Zh ag;clear ag ah aq;gi_wp2;go_roundw
      case rel=>exact⟨pre++ [⟨i,I⟩],i+1,by omega,by go_num,af,ay,az⟩
      case measure=>simp [intOf];omega
    . have aA:=Zh ai
      clear ai;gi_wp2;refine bodyPost_ret (results_none rfl _ _ _) rfl ?_;refine⟨⟨_,rfl⟩, .inr ⟨_,⟨(List.range ws.length).drop (i+1), ?_⟩,aA⟩⟩;rw [af.out];have:=List.take_append_drop (i+1) (List.range ws.length);rw [List.take_range,Nat.min_eq_left (by omega)] at this;exact this.symm
  . obtain rfl:i=ws.length:=by omega
    clear O;gi_wp2;go_end0;exact⟨⟨_,rfl⟩, .inl ⟨_,hp,ac⟩⟩
theorem NP(ah:P=some ⟨b,0,none⟩\/ws= [])(hx:w.cell? ⟨bx,0,none⟩=some (.slice P ws.length c))(aa: ∀j (h:j<ws.length),w.cell? ⟨b,j,none⟩=some (.int .u64 (ws[j]:Nat)))(ae:b<w.heap.size)(hlen:ws.length<=100000000):
 CallsIn Fence.wide 9 prog 166 #[.slice none 0 0, .func (.func 152) #[] #[.pointer (some ⟨bx,0,none⟩)]] w λe w' => ∃v,e= .returned v/\w'.ownsRow w.heap.size 23 1 v ws.length (AF ws)/\Below w.heap.size w w' :=by
 obtain⟨i0,hi,an,ao,aq⟩:=info_parts Tryz.Qx;have ai:bx<w.heap.size:=Am hx;have af:=Zh (And.intro ah (And.intro hx aa));clear ah hx aa;refine callsIn_of_wp_marks func166 rfl trivial ?_ rfl;simp only [ntmps166,List.size_toArray,List.length_cons,List.length_nil,Nat.reduceAdd,Nat.reduceSub,Array.replicate_succ,Array.replicate_zero,List.push_toArray,List.append_toArray,List.nil_append,List.cons_append];gi_wp2_with fail;have ar:Boxed (w.alloc (Obj.cells #[Value.slice none 0 0] 46)) w.heap.size 46 (.slice none 0 0):=Boxed.new w _ _;have O:Below w.heap.size w (w.alloc (Obj.cells #[Value.slice none 0 0] 46)):=(Below.refl _ w).alloc (Nat.le_refl _) _;have au:=Zh (OI af.1 ((O.cell (p:=⟨bx,0,none⟩) ai).trans af.2.1) (λj h=>(O.cell (p:=⟨b,j,none⟩) ae).trans (af.2.2 j h)) (Nat.lt_of_lt_of_le ae O.size) hlen);have aF :w.heap.size+1<=(w.alloc (Obj.cells #[Value.slice none 0 0] 46)).heap.size:=by simp
 generalize w.alloc (Obj.cells #[Value.slice none 0 0] 46)=w2 at*
 refine wpIn_rangeFunc_ownH (α:={z:Nat // z<ws.length}) rfl (by omega) (gf:=152) (lb:= #[.pointer (some ⟨bx,0,none⟩)]) rfl trivial (enters_of func152 (by kernel_rfl) rfl)
  au.out
  (λh k=>h.trans k) (λW l o aG aH aw h1 aI=>BY.put W _ (by omega) (by omega)) (Below.refl _ _) (λ_=>rfl)
  (λpre W=>Pc w 46 23 (pre.map (λ(z:{z:Nat // z<ws.length})=>Value.int .u64 (ws[z.1]'z.2:Nat))) W)
  (λax pre W=>False)
  (PX w _ _ (λpre:List {z:Nat // z<ws.length}=>pre.map (λ(z:{z:Nat // z<ws.length})=>Value.int .u64 (ws[z.1]'z.2:Nat))) _ (by omega))
  (λ_ _ _ _ _ hs _ _=>hs)
  ⟨_,ar,World.ownsRow_nil _ _ _ _,O⟩
  (λz a' W=>a' ={ tmps:= #[ .slice none 0 0, .func (.func 152) #[] #[ .pointer (some ⟨bx,0,none⟩)], .pointer (some ⟨w.heap.size,0,none⟩),undef, .slice none 0 0, .int .u64 (ws[z.1]'z.2:Nat), .func (.func 152) #[] #[ .pointer (some ⟨bx,0,none⟩)], .int .u64 (ws[z.1]'z.2:Nat),undef,undef,undef,undef,undef],defers:= [] })
  (λ_ _ _ _ _ _ hs _ _=>hs)
  ?assign ?body ?done ?stop
 case assign=>
  exact Y4
 case body=>
  rintro l pre ⟨z,I⟩ a' W aw ⟨r,aJ⟩ hi rfl aK;dsimp only;obtain⟨v,V,ab,J⟩:=hi;have ay:=Yjx;have aL:(pre.map (λ(z:{z:Nat // z<ws.length})=>Value.int .u64 (ws[z.1]'z.2:Nat))).length<=100000000:=by rw [List.length_map];omega
  generalize pre.map (λ(z:{z:Nat // z<ws.length})=>Value.int .u64 (ws[z.1]'z.2:Nat))=told at*;have aa:=V.cell;obtain⟨ac,U,az⟩:=EA;clear J ab V;have aM:w.heap.size<=W.heap.size:=ac.size;gi_wp2_with (gi_at_builtin;refine wpListIn_append_own_at _ rfl _ _ 46 rfl w.heap.size 23 i0 (.int .u64 0) 1 8 Tryz.Gg hi an ao aq rfl (by decide) _ _ _ rfl (U.alloc _) ⟨W.heap.size,0,none⟩ 1 1 [.int .u64 (ws[z]:Nat)] rfl rfl (cell_one_new _ _ _) (by simp [Value.oneCell']) (by unfold maxLen;omega) (by omega) (by simp;omega) ?_;intro v' w1 aj aA _ aN;obtain⟨aO,aP,rfl⟩:=ownsRow_succ aj;obtain⟨b1,b2,aB,ag⟩:=Mo (l' :=told++ [Value.int .u64 (ws[z]:Nat)]) (by decide) az U ac (by simpa using aj) aA;have aQ:=b1.cell;have aR:=b1.frozen);exact⟨aB.from _,⟨ag.size,ag.block b ae,ag.block bx ai⟩,by show Pc w _ _ _ _;rw [ay.out];exact b2⟩
 case done=>
  rintro D' xs W aC al hi Z;have am:=NB al;rw [am] at hi;have aD:(BA ws).length=ws.length:=by simp [BA]
  obtain⟨v,V,ab,J⟩:=hi;rw [aD] at ab;obtain⟨_,ac,U⟩:=Yrr;clear J ab V al am;gi_wp2;refine⟨by simp, .inl ⟨_,_,rfl,run_takeDeferred Z, ?_⟩⟩;refine⟨v,by simp [results,f166],v,rfl,FC (Cs:=λ_=>False) U (KB.putObj _ Z rfl rfl) (λ_ h=>h.elim), ?_⟩;exact Ydg
 case stop=>
  rintro D' ax pre W aC aS aE;exact aE.elim
theorem QC(J:P=some ⟨b,0,none⟩\/ws= [])(hx:w.cell? ⟨bx,0,none⟩=some (.slice P ws.length c))(O: ∀j (h:j<ws.length),w.cell? ⟨b,j,none⟩=some (.int .u64 (ws[j]:Nat)))(V:b<w.heap.size)(hlen:ws.length<=100000000):
 Calls prog 150 #[.func (.func 152) #[] #[.pointer (some ⟨bx,0,none⟩)]] w λe w' => ∃v,e= .returned v/\w'.ownsRow w.heap.size 23 1 v ws.length (AF ws)/\Below w.heap.size w w' :=by
 have hA:=Zh ((callsIn_wide (n:=9)).1 (NP J hx O V hlen));clear J hx O;go_enter func150,ntmps150;go_wp2_with fail;refine hA.mono ?_;rintro e w1 ⟨v,rfl,I,U⟩;obtain⟨A,c,rfl⟩:=Bs I;have Z:=Zh I;have aa:=Zh U;clear I U;go_wp2;go_ret;exact⟨_,rfl,Z,aa⟩
end Go.Proofs.YtiopopoohglepaaGreatDoor
namespace Go.Proofs.YtiopopoohglepaaGreatDoor
open Go.Proofs.Tryz
open Go.RowKit Go.Shelf Go.Sort
variable {B:Nat}{v:Value}{zs:List Nat}
theorem Qd(c:Nat)(w:World):Calls prog 177 #[.slice none 0 c, .int .i64 0, .int .i64 0] w λe w' =>e= .returned (.tuple #[])/\w' =w:=by
 go_enter func177,ntmps177;go_wp2
 go_loopw [6] (λvi wr=>vi= .int .i64 1/\wr=w) (λvi _=>0)
 case atStart=>exact⟨rfl,rfl⟩
 case round=>
  obtain⟨rfl,rfl⟩:=hrel;go_wp2;go_end0;exact⟨rfl,rfl⟩
theorem Qv(c:Nat)(w:World):Calls prog 167 #[.slice none 0 c, .int .i64 0, .int .i64 0, .int .i64 0] w λe w' =>e= .returned (.tuple #[])/\w' =w:=by
 have I:=Zh (Qd c w);go_enter func167,ntmps167;go_wp2
 go_loopg [1,2,3,8,9] 0 (λk s1 s2 J O U wr=>s1= .int .i64 0/\s2= .int .i64 0/\J= .int .i64 0/\O= .bool true/\U= .bool true/\wr=w)
 case atStart=>exact⟨rfl,rfl,rfl,rfl,rfl,rfl⟩
 case round=>
  obtain⟨rfl,rfl,rfl,rfl,rfl,rfl⟩:=hrel;go_wp2_with fail;refine I.mono ?_;rintro e w1 ⟨rfl,rfl⟩;go_wp2
  (try simp only [Exit.inBlock,Exit.then]);refine bodyPost_ret (results_none rfl _ _ _) rfl ?_
  exact⟨rfl,rfl⟩
theorem OY(c:Nat)(w:World):Calls prog 151 #[.slice none 0 c] w λe w' =>e= .returned (.tuple #[])/\w' =w:=by
 have I:=Zh (Qv c w);have J:Hid (Calls prog 168 #[.int .u64 0] w λe w' =>e= .returned (.int .i64 0)/\w' =w):=Zh (LV 0 (by omega) w);go_enter func151,ntmps151;go_wp2_with fail;refine J.mono ?_;rintro e w1 ⟨rfl,rfl⟩;go_wp2_with fail;refine I.mono ?_;rintro e w1 ⟨rfl,rfl⟩;go_wp2;go_end0;exact⟨rfl,rfl⟩
section
variable {A W w:World} {Az off c:Nat} {zs0:List Nat}
theorem Ub(h:A1 A W Az zs0)(I:off=0)(J:zs0.length<4611686018427387904):Calls prog 151 #[.slice (some ⟨Az,off,none⟩) zs0.length c] W λe w' =>e= .returned (.tuple #[])/\A1 A w' Az zs0:=by
 have Z:bitsLen zs0.length<=62:=(bitsLen_le_iff zs0.length 62).2 (by omega);have O:=Zh (V7 (A:=A) (Az:=Az) (c:=c) I J (zs0.length+1) W 0 zs0.length (bitsLen zs0.length) (by omega) h (Nat.zero_le _) (Nat.le_refl _) (by omega));have U:=Zh (LV zs0.length J W);clear h I;generalize bitsLen zs0.length=m at*;go_enter func151,ntmps151;go_wp2_with fail;refine U.mono ?_;rintro e w1 ⟨rfl,rfl⟩;go_wp2_with fail;refine O.mono ?_;rintro e w1 ⟨rfl,V⟩;go_wp2;go_end0;exact⟨rfl,V⟩
def Sy(W:World)(B:Nat)(v:Value)(zs:List Nat):Prop:=(v= .slice none 0 0/\zs= [])\/ ∃g cap,v= .slice (some ⟨g,0,none⟩) zs.length cap/\B<=g/\zs.length<=cap/\ ∃sp,An W g 23 (AF zs++sp)
theorem NK(h:W.ownsRow B 23 1 v zs.length (AF zs)):Sy W B v zs:=by
 rcases h.2 with ⟨h1,I⟩|⟨g,cap,cur,h1,I,J,O,V,Z,U⟩
 . exact .inl ⟨h1,List.eq_nil_of_length_eq_zero I⟩
 . refine .inr ⟨g,cap,h1,I,O,cur.toList.drop zs.length, ?_⟩
   have e:AF zs++cur.toList.drop zs.length=cur.toList:=(by rw [<-U,Nat.mul_one];exact List.take_append_drop _ _);rw [e];exact⟨cur,J,by simp,λi hi=>by
    simp only [Array.length_toList] at hi;simp [hi]⟩
theorem RP{P:Option Addr}{b bx c:Nat}{ws:List Nat}(Z:P=some ⟨b,0,none⟩\/ws= [])(hx:w.cell? ⟨bx,0,none⟩=some (.slice P ws.length c))(aa: ∀j (h:j<ws.length),w.cell? ⟨b,j,none⟩=some (.int .u64 (ws[j]:Nat)))(af:b<w.heap.size)(hlen:ws.length<=100000000):
 Calls prog 108 #[.func (.func 152) #[] #[.pointer (some ⟨bx,0,none⟩)]] w λe w' => ∃v zs,e= .returned v/\zs.Perm ws/\Sy w' w.heap.size v zs/\Below w.heap.size w w' :=by
 have ag:=Zh (QC Z hx aa af hlen);clear Z hx aa;go_enter func108,ntmps108;go_wp2_with fail;refine ag.mono ?_;rintro e w1 ⟨v,rfl,O,I⟩;rcases NK O with ⟨rfl,rfl⟩|⟨g,cap,rfl,hg,ab,sp,ac⟩
 . have J:=Zh I
   clear O I;go_wp2_with fail;refine(OY 0 w1).mono ?_;rintro e w2 ⟨rfl,rfl⟩;go_wp2;go_ret;exact⟨_,[],rfl,List.Perm.refl _, .inl ⟨rfl,rfl⟩,J⟩
 . have ah:=Zh (Ub (off:=0) (c:=cap) (A1.start ac) rfl (by omega))
   have J:=Zh I;have U:=Zh (And.intro hg ab);clear O I ac hg ab;go_wp2_with fail;refine ah.mono ?_;rintro e w2 ⟨rfl,ae⟩;have ai:=Zh ae;clear ae;go_wp2;go_ret;obtain⟨zs,V,⟨aj,al⟩,am⟩:=ai.out;refine⟨_,zs,rfl,V, .inr ⟨g,cap,by rw [V.length_eq];rfl,U.1,by rw [V.length_eq];exact U.2,aj,al⟩, ?_⟩;exact J.grown am J.size (λk an=>by cases an;exact U.1)
theorem TS(h:Sy w B v zs)(hlen:zs.length<=100000000):
 Calls prog 111 #[v] w λe w' => ∃v',e= .returned v' /\Sy w' w.heap.size v' zs/\Below w.heap.size w w' :=by
 have af: ∀(w:World) (a:Option Addr) (n c n' I :Nat),(binOp .eql 46 (.slice a n c) (.slice none n' I)).run prog w= .ok (.bool a.isNone) w:=λw a n c n' I =>Lib.run_eql_slice_nil w _ _ a n c n' I Tryz.Gg
 obtain⟨i0,hi,V,Z,aa⟩:=info_parts Tryz.Qx;rcases h with ⟨rfl,rfl⟩|⟨g,cap,rfl,hg,_,sp,O⟩
 . go_enter func111,ntmps111
   go_wp2;go_ret;exact⟨_,rfl, .inl ⟨rfl,rfl⟩,Below.refl _ _⟩
 . have ab:Hid (∀j u,(AF zs)[j]? =some u->w.cell? ⟨g,j,none⟩=some u):=Zh λj u J=>O.at' (by rw [List.getElem?_append_left (List.getElem?_eq_some_iff.1 J).1];exact J)
   clear O hg;go_enter func111,ntmps111;go_wp2_with (at_builtin;refine wpList_append_own _ rfl _ _ 46 rfl w.heap.size 23 i0 (.int .u64 0) 1 8 Tryz.Gg hi V Z aa rfl (by decide) _ _ _ rfl (World.ownsRow_made w #[] 0 (Nat.le_refl _) (Nat.zero_le _) (by simp)) ⟨g,0,none⟩ zs.length cap (AF zs) rfl ?qc1 ?qc2 ?qc3 ?qc4 ?qc5 ?qc6 ?_)
   case qc1=>simp [AF]
   case qc2=>
    intro j u J;rw [Addr.add_lit,Nat.zero_add];exact Lib.cell?_alloc_some _ (ab j u J)
   case qc3=>exact Kn
   case qc4=>unfold maxLen;omega
   case qc5=>omega
   case qc6=>simp
   intro v' w1 U ac ag;obtain⟨P',I,rfl⟩:=Bs U;go_wp2;go_ret;refine⟨_,rfl,NK (by simpa using U), ?_⟩;exact((Below.refl _ w).alloc (Nat.le_refl _) _).grown ac (by simp) (by intro k ae;simp [Value.ownBlock] at ae;omega)
end
