/- A part. -/
import Derived.Test.YtiopopoohglepaaGreatDoorVMxc
import Derived.Sort.Walk7a
import Derived.Shelf.Small.Bits
import Derived.Ground.NamesProg
set_option linter.all false
set_option maxRecDepth 1000000
set_option maxHeartbeats 6400000
namespace Go.Proofs.YtiopopoohglepaaGreatDoor
open Go.Proofs.Tryz
open Go.RowKit Go.Shelf Go.Sort
variable {P:Option Addr}{b bx c:Nat}{w:World}{ws:List Nat}
def Tryz.Ro:Go.Shelf.Ren:=⟨fun|125=>168|128=>186|129=>187|n=>n,fun|46=>209|3=>3|51=>28|53=>22|4=>4|5=>5|9=>9|n=>n,fun|n=>n⟩
theorem Tryz.Zj:Go.Proofs.Lays.n125 Tryz.prog Tryz.Ro:={
 mixed:=by kernel_rfl
 f125:=Tryz.func168.trans (congrArg some (by kernel_rfl))
 f128:=Tryz.func186.trans (congrArg some (by kernel_rfl))
 f129:=Tryz.func187.trans (congrArg some (by kernel_rfl))
 t3:=Tryz.underlying3
 a3:=Tryz.isAgg3
 z3:=Tryz.sizeOf3
 v3:=Tryz.zeroValue3
 t4:=Tryz.underlying4
 a4:=Tryz.isAgg4
 z4:=Tryz.sizeOf4
 v4:=Tryz.zeroValue4
 t5:=Tryz.underlying5
 a5:=Tryz.isAgg5
 z5:=Tryz.sizeOf5
 v5:=Tryz.zeroValue5
 t9:=Tryz.underlying9
 a9:=Tryz.isAgg9
 z9:=Tryz.sizeOf9
 v9:=Tryz.zeroValue9
 t46:=Tryz.underlying209
 a46:=Tryz.isAgg209
 z46:=Tryz.sizeOf209
 v46:=Tryz.zeroValue209
 t51:=Tryz.underlying28
 a51:=Tryz.isAgg28
 z51:=Tryz.sizeOf28
 v51:=Tryz.zeroValue28
 t53:=Tryz.underlying22
 a53:=Tryz.isAgg22
 z53:=Tryz.sizeOf22
 v53:=Tryz.zeroValue22 }
theorem LO(n:Nat)(d:n<4611686018427387904)(w:World):Calls prog 168 #[.int .u64 (n:Int)] w λe w' =>e= .returned (.int .i64 (bitsLen n:Nat))/\w' =w:=by
 have h:=Any.bits_Len Tryz.Zj (n:Int) w (by omega) (by omega)
 rwa [Int.toNat_natCast,bitLen_eq _ (by omega)] at h
theorem Vp(n:Nat)(d:n<4611686018427387904)(w:World):Calls prog 198 #[.int .i64 n] w λe w' =>e= .returned (.int .u64 ((1 <<< bitsLen n:Nat):Int))/\w' =w:=by
 have I:=Zh (LO n d);have J:bitsLen n<=62:=(bitsLen_le_iff n 62).2 (by omega);have hp:=wrap_two_pow (bitsLen n) J;go_enter func198,ntmps198;go_wp2_with (first|(go_at_call 168;refine(I _).mono ?_;rintro e w' ⟨rfl,rfl⟩))
 go_ret;exact⟨rfl,rfl⟩
theorem VO(rb ro X:Nat)(U:X<18446744073709551616)(w:World)(aa:w.cell? ⟨rb,ro,none⟩=some (.int .u64 X))(ab:w.frozen? ⟨rb,ro,none⟩=false):
 Calls prog 199 #[.pointer (some ⟨rb,ro,none⟩)] w λe w' =>e= .returned (.int .u64 (xorNextN X:Nat))/\w' =(w.setCell ⟨rb,ro,none⟩ (.int .u64 (xorNextN X:Nat))).drewN 3:=by
 obtain⟨A,d⟩: ∃A:Nat,A=X ^^^ (X*8192%18446744073709551616):=⟨_,rfl⟩;obtain⟨B,I⟩: ∃B:Nat,B=A ^^^ (A/128):=⟨_,rfl⟩;obtain⟨C,J⟩: ∃C:Nat,C=B ^^^ (B*131072%18446744073709551616):=⟨_,rfl⟩;have V:A<18446744073709551616:=by rw [d];exact Nat.xor_lt_two_pow (n:=64) (by omega) (by omega)
 have Z:B<18446744073709551616:=by rw [I];exact Nat.xor_lt_two_pow (n:=64) (by omega) (by omega)
 have ac:bits .xor .u64 (X:Int) (IntKind.u64.wrap ((X:Int)*8192))=(A:Int):=by
  rw [IntKind.wrap_u64,show((X:Int)*8192%18446744073709551616)=((X*8192%18446744073709551616:Nat):Int) by omega,bits_xor_u64_nat _ _ U (by omega),d]
 have ae:bits .xor .u64 (A:Int) ((A:Int)/128)=(B:Int):=by
  rw [show((A:Int)/128)=((A/128:Nat):Int) by omega,bits_xor_u64_nat _ _ V (by omega),I]
 have af:bits .xor .u64 (B:Int) (IntKind.u64.wrap ((B:Int)*131072))=(C:Int):=by
  rw [IntKind.wrap_u64,show((B:Int)*131072%18446744073709551616)=((B*131072%18446744073709551616:Nat):Int) by omega,bits_xor_u64_nat _ _ Z (by omega),J]
 have O:xorNextN X=C:=by unfold xorNextN;simp only [];rw [<-d,<-I,<-J]
 rw [O];clear d I J O;have ag: ∀v v',(w.setCell ⟨rb,ro,none⟩ v).setCell ⟨rb,ro,none⟩ v' =w.setCell ⟨rb,ro,none⟩ v' :=setCell_setCell w rb ro;go_enter func199,ntmps199;go_wp2
 go_region
 all_goals go_wp2
 all_goals go_region
 all_goals go_wp2
 all_goals go_region
 all_goals go_wp2
 go_ret;exact⟨rfl,rfl⟩
structure LA(A W:World)(Az sb:Nat)(zs0:List Nat)(s:Nat):Prop where
 row:AZ A W Az zs0
 bx:An W sb 261 [.int .u64 s]
 ge:A.heap.size<=sb
 ne:sb≠Az
section
variable {A W W':World} {Az off sb s:Nat} {zs0:List Nat}
theorem LA.drewN(h:LA A W Az sb zs0 s)(q:Nat):LA A (W.drewN q) Az sb zs0 s:=⟨h.row.drewN q,h.bx.below (Tx.AL W q),h.ge,h.ne⟩
theorem LA.store(h:LA A W Az sb zs0 s)(t:Nat):LA A (W.setCell ⟨sb,0,none⟩ (.int .u64 t)) Az sb zs0 t:=by
 refine⟨?_,h.bx.set 0 _,h.ge,h.ne⟩;obtain⟨zs,g1,⟨sp,g2⟩,g3⟩:=h.row;exact Ybr
theorem LA.open(h:LA A W Az sb zs0 s)(off:Nat)(d:off=0): ∃G:Nat->Nat,(∀t,t<zs0.length->W.cell? ⟨Az,off+t,none⟩=some (.int .u64 (G t:Nat)))/\(∀t,t<zs0.length->W.frozen? ⟨Az,off+t,none⟩=false)/\
 Hid (∀q i j,i<zs0.length->j<zs0.length->LA A (((W.drewN q).setCell ⟨Az,off+i,none⟩ (.int .u64 (G j:Nat))).setCell ⟨Az,off+j,none⟩ (.int .u64 (G i:Nat))) Az sb zs0 s):=by
 obtain⟨G,h1,I,J⟩:=h.row.open off d;exact⟨G,h1,I,Zh λq i j hi O=>⟨J q i j hi O,((h.bx.below (Tx.AL W q)).other (p:=⟨Az,off+i,none⟩) h.ne _).other (p:=⟨Az,off+j,none⟩) h.ne _,h.ge,h.ne⟩⟩
theorem TV(h:LA A W Az sb zs0 s)(hs:s<18446744073709551616):Calls prog 199 #[.pointer (some ⟨sb,0,none⟩)] W λe w' => ∃t:Nat,e= .returned (.int .u64 t)/\t<18446744073709551616/\LA A w' Az sb zs0 t:=
 (VO sb 0 s hs W (h.bx.at' (i:=0) rfl) (h.bx.free 0)).mono λe w' ⟨h1,d⟩=>⟨_,h1,xorNextN_lt s hs,by rw [d];exact(h.store _).drewN 3⟩
theorem Wc(h:AZ A W Az zs0)(ai:off=0)(a L:Nat)(aq:a+L<=zs0.length)(ar:zs0.length<4611686018427387904)(aE:8<=L):
 Calls prog 179 #[.slice (some ⟨Az,off,none⟩) zs0.length c, .int .i64 a, .int .i64 ((a+L:Nat):Int)] W λe w' =>e= .returned (.tuple #[])/\AZ A w' Az zs0:=by
 obtain⟨M,U⟩: ∃M:Nat,M=1 <<< bitsLen L:=⟨_,rfl⟩;have aF:1<=M:=by rw [U,Nat.one_shiftLeft];exact Nat.two_pow_pos _
 have aG:M<=2*L:=by rw [U,Nat.one_shiftLeft];exact two_pow_bitsLen_le (by omega)
 have au:Hid (∀w,Calls prog 198 #[.int .i64 (L:Int)] w λe w' =>e= .returned (.int .u64 (M:Int))/\w' =w):=Zh (by rw [U];exact λw=>Vp L (by omega) w);clear U;obtain⟨d,ae⟩:=Zx (W.alloc (.cells #[.int .u64 (L:Int)] 261));obtain⟨sb,aa⟩:=Zx W.heap.size;obtain⟨aj,al,am⟩:=Ylj;have aw:=Zh (show LA A d Az sb zs0 L from⟨h.below aj,by rw [ae,aa];exact An.new W _ [.int .u64 (L:Int)],am,al⟩);have ax:L<18446744073709551616:=by omega
 obtain⟨n,J⟩:=Zx zs0.length;rw [<-J] at aq ar ⊢;have ay:=Zh ai;obtain⟨az,an⟩:=LJ;clear h ai J ae aa aj al am;go_enter func179,ntmps179;go_wp2_with (first|(go_at_call 198;rw [show((a:Int)+(L:Int)-(a:Int))=(L:Int) by omega];refine(au _).mono ?_;rintro e w' ⟨rfl,rfl⟩))
 rw [<-an.1,<-an.2]
 go_loopw [9] (λvi wr=> ∃t r:Nat,vi= .int .i64 ((a+L/4*2-1+t:Nat):Int)/\t<=3/\r<18446744073709551616/\Hid (LA A wr Az sb zs0 r)) (λvi _=>a+L/4*2+3-(intOf vi).toNat)
 case atStart=>exact⟨0,L,by congr 1;omega,by omega,ax,aw⟩
 case round=>
  obtain⟨t,r,rfl,aH,aA,Z⟩:=hrel;by_cases aJ:t<3
  . go_wp2_with fail
    refine(TV Z.out aA).mono ?_;rintro e w1 ⟨V,rfl,ab,ac⟩;have ao :=Zh (And.intro ab ac);obtain⟨O,af⟩: ∃O:Nat,O=V &&& (M-1):=⟨_,rfl⟩;have aK:O<=M-1:=(by rw [af];exact Nat.and_le_right);have aL:bits .and .u64 (V :Int) ((M:Int)-1)=(O:Int):=by
     rw [show((M:Int)-1)=((M-1:Nat):Int) by omega,bits_and_u64_nat _ _ ab (by omega),af]
    obtain⟨G,aB,aC,ag⟩:=ac.open off ay.out;rw [<-az.out] at aB aC ag;clear af ab ac Z;go_wp2
    . have aD:L<=O:=by omega
      by_cases ah:a+L/4*2-1+t=a+(O-L)
      all_goals
       go_region
       all_goals go_wp2
       go_roundw
       case rel=>
        refine⟨t+1,V,by first|rfl|(congr 1<;>omega),by omega,ao.1, ?_⟩
        have I:=ag.out 1 (a+L/4*2-1+t) (a+(O-L)) (by omega) (by omega)
        (try rw [ah] at I)
        exact Zh I
       case measure=>simp [intOf];omega
    . have aD: ¬L<=O:=by omega
      by_cases ah:a+L/4*2-1+t=a+O
      all_goals
       go_region
       all_goals go_wp2
       go_roundw
       case rel=>
        refine⟨t+1,V,by first|rfl|(congr 1<;>omega),by omega,ao.1, ?_⟩
        have I:=ag.out 1 (a+L/4*2-1+t) (a+O) (by omega) (by omega)
        (try rw [ah] at I)
        exact Zh I
       case measure=>simp [intOf];omega
  . go_wp2
    go_end0;exact⟨rfl,Z.row⟩
theorem VK(h:AZ A W Az zs0)(d:off=0)(a b:Nat)(V:a<=b)(I:b<=zs0.length)(J:zs0.length<4611686018427387904):
 Calls prog 179 #[.slice (some ⟨Az,off,none⟩) zs0.length c, .int .i64 a, .int .i64 b] W λe w' =>e= .returned (.tuple #[])/\AZ A w' Az zs0:=by
 obtain⟨L,rfl⟩: ∃L,b=a+L:=⟨b-a,by omega⟩;by_cases O:8<=L
 . exact Wc h d a L I J O
 . have U:=Zh h
   clear h d;go_enter func179,ntmps179;go_wp2;go_end0;exact⟨rfl,U⟩
end
section
variable {A W W':World} {Az off:Nat} {zs0:List Nat}
def Ycf{P}(h:P:=by
 (try simp only [Exit.inBlock,Exit.then]);refine bodyPost_ret (results_none rfl _ _ _) rfl ?_
 exact⟨rfl,d⟩):=h
theorem VL(U:off=0)(Z:zs0.length<4611686018427387904): ∀(N:Nat) (w:World) (a b af:Nat),b-a<N->AZ A w Az zs0->a<=b->b<=zs0.length->af<4611686018427387904->
 Calls prog 167 #[.slice (some ⟨Az,off,none⟩) zs0.length c, .int .i64 a, .int .i64 b, .int .i64 af] w λe w' =>e= .returned (.tuple #[])/\AZ A w' Az zs0:=by
 have aA:Hid (∀(V:World) (x y:Nat),AZ A V Az zs0->x<=y->y<=zs0.length->Calls prog 177 #[.slice (some ⟨Az,off,none⟩) zs0.length c, .int .i64 (x:Nat), .int .i64 (y:Nat)] V λe w' =>e= .returned (.tuple #[])/\AZ A w' Az zs0):=Zh (λV x y h1 I J=>Vi h1 U x y I J Z);have aB:Hid (∀(V:World) (x y:Nat),AZ A V Az zs0->x<=y->y<=zs0.length->Calls prog 178 #[.slice (some ⟨Az,off,none⟩) zs0.length c, .int .i64 (x:Nat), .int .i64 (y:Nat)] V λe w' =>e= .returned (.tuple #[])/\AZ A w' Az zs0):=Zh (λV x y h1 I J=>Uq h1 U x y I J Z);have aC:Hid (∀(V:World) (x y:Nat),AZ A V Az zs0->x<=y->y<=zs0.length->Calls prog 179 #[.slice (some ⟨Az,off,none⟩) zs0.length c, .int .i64 (x:Nat), .int .i64 (y:Nat)] V λe w' =>e= .returned (.tuple #[])/\AZ A w' Az zs0):=Zh (λV x y h1 I J=>VK h1 U x y I J Z);have aD:Hid (∀(V:World) (x y:Nat),AZ A V Az zs0->x<=y->y<=zs0.length->Calls prog 181 #[.slice (some ⟨Az,off,none⟩) zs0.length c, .int .i64 (x:Nat), .int .i64 (y:Nat)] V λe w' =>e= .returned (.tuple #[])/\AZ A w' Az zs0):=Zh (λV x y h1 I J=>Vt h1 U x y I J Z);have aE:Hid (∀(V:World) (x y:Nat),AZ A V Az zs0->x<y->y<=zs0.length->Calls prog 180 #[.slice (some ⟨Az,off,none⟩) zs0.length c, .int .i64 (x:Nat), .int .i64 (y:Nat)] V λe w' => ∃(z:Nat) (ac:Nat),e= .returned (.tuple #[.int .i64 z, .int .i64 ac])/\(x<=z/\z<y)/\ac<=2/\AZ A w' Az zs0):=Zh (λV x y h1 I J=>WN h1 U x y I J Z);have aF:Hid (∀(V:World) (x y:Nat),AZ A V Az zs0->x<y->y<=zs0.length->Calls prog 182 #[.slice (some ⟨Az,off,none⟩) zs0.length c, .int .i64 (x:Nat), .int .i64 (y:Nat)] V λe w' => ∃t:Bool,e= .returned (.bool t)/\AZ A w' Az zs0):=Zh (λV x y h1 I J=>XG h1 U x y I J Z);have aG:Hid (∀(V:World) (x y p:Nat),AZ A V Az zs0->x<=p->p<y->y<=zs0.length->Calls prog 184 #[.slice (some ⟨Az,off,none⟩) zs0.length c, .int .i64 (x:Nat), .int .i64 (y:Nat), .int .i64 (p:Nat)] V λe w' => ∃z:Nat,e= .returned (.int .i64 z)/\(x<z/\z<=y)/\AZ A w' Az zs0):=Zh (λV x y p h1 I J aj=>XJ h1 U x y p I J aj Z);have aH:Hid (∀(V:World) (x y p:Nat),AZ A V Az zs0->x<=p->p<y->y<=zs0.length->Calls prog 185 #[.slice (some ⟨Az,off,none⟩) zs0.length c, .int .i64 (x:Nat), .int .i64 (y:Nat), .int .i64 (p:Nat)] V λe w' => ∃(z:Nat) (t:Bool),e= .returned (.tuple #[.int .i64 z, .bool t])/\(x<=z/\z<y)/\AZ A w' Az zs0):=Zh (λV x y p h1 I J aj=>Ue h1 U x y p I J aj Z);obtain⟨n,am⟩:=Zx zs0.length;rw [<-am] at Z aA aB aC aD aE aF aG aH ⊢;have aV:=Zh U;have aW:=Zh am;clear U am;intro N
 induction N with
 |zero=>intro _ _ _ _ h;exact absurd h (Nat.not_lt_zero _)
 |succ N ih=>
  intro w a b af hN h aX aY bh;have aZ:=Zh h;have aI:=Zh ih;clear h ih;go_enter func167,ntmps167;go_wp2
  go_loopg [1,2,3,8,9] (b-a) (λk s1 s2 an a0 a1 wr=> ∃(a' b' lim:Nat) (ag wp:Bool),s1= .int .i64 a' /\s2= .int .i64 b' /\an= .int .i64 lim/\a0= .bool ag/\a1= .bool wp/\
   a' <=b' /\b' <=n/\b' -a' <=k/\k<=b-a/\lim<=af/\Hid (AZ A wr Az zs0))
  case atStart=>exact⟨a,b,af,true,true,rfl,rfl,rfl,rfl,rfl,aX,aY,Nat.le_refl _,Nat.le_refl _,Nat.le_refl _,aZ⟩
  case round=>
   obtain⟨a',b',lim,ag,wp,rfl,rfl,rfl,rfl,rfl,al,aa,bi,bj,bk,ah⟩:=hrel;by_cases bm:b' -a' <=12
   . have a2:(b' :Int)-(a' :Int)<=12:=by omega
     go_wp2_with (go_at_call 177;refine(aA _ a' b' ah al aa).mono ?_;rintro e w1 ⟨rfl,d⟩);exact Ycf
   . have a2: ¬((b' :Int)-(a' :Int)<=12):=by omega
     by_cases a3:lim=0
     . subst a3
       go_wp2_with (go_at_call 178;refine(aB _ a' b' ah al aa).mono ?_;rintro e w1 ⟨rfl,d⟩);exact Ycf
     . have bo: ¬((lim:Int)=0):=by omega
       go_upto_if 35 with fail;go_cut [3] from 19 (λan wc=> ∃ab:Nat,an= .int .i64 ab/\ab<=lim/\Hid (AZ A wc Az zs0))
       case first=>
        cases ag
        . go_wp2_with (go_at_call 179;refine(aC _ a' b' ah al aa).mono ?_;rintro e w1 ⟨rfl,d⟩)
          go_meet
          case rel=>exact⟨lim-1,by congr 1;omega,by omega,Zh d⟩
        . go_wp2_with fail
          go_meet
          case rel=>exact⟨lim,rfl,Nat.le_refl _,ah⟩
       case rest=>
        obtain⟨ab,rfl,bp,aJ⟩:=hcut;clear ah;go_upto_if 50 with (go_at_call 180;refine(aE _ a' b' aJ (by omega) aa).mono ?_;rintro e w1 ⟨aK,ac,rfl,a4,a5,d⟩);have ao:=Zh d;obtain⟨aL,aM⟩:=a4;clear d aJ;go_cut [11,12] from 19 (λa6 aq wc=> ∃ae hh:Nat,a6= .int .i64 ae/\aq= .int .i64 hh/\a' <=ae/\ae<b' /\Hid (AZ A wc Az zs0))
        case first=>
         by_cases hh:ac=2
         . subst hh
           go_wp2_with (go_at_call 181;refine(aD _ a' b' ao al aa).mono ?_;rintro e w1 ⟨rfl,d⟩);go_meet
           case rel=>exact⟨b' -1-(aK-a'),1,by congr 1;omega,rfl,by omega,by omega,Zh d⟩
         . have bq: ¬((ac:Int)=2):=by omega
           go_wp2_with fail;go_meet
           case rel=>exact⟨aK,ac,rfl,rfl,aL,aM,ao⟩
        case rest=>
         obtain⟨ae,hh,rfl,rfl,aN,aO,ar⟩:=hcut;clear ao aL aM a5;go_upto_region 15 with fail;go_cut [12,68] from 19 (λaq a7 ai=> ∃t:Bool,aq= .int .i64 hh/\a7= .bool t/\ai=wc)
         case first=>
          by_cases br:(hh:Int)=1<;>cases ag<;>cases wp<;>
           (go_wp2_with fail
            go_meet;exact⟨_,rfl,rfl,rfl⟩)
         case rest=>
          obtain⟨t68,rfl,rfl,rfl⟩:=hcut;go_upto_if 68 with fail;go_cut [] from 19 (λai=>Hid (AZ A ai Az zs0))
          case first=>
           cases t68
           . go_wp2_with fail
             go_meet
             case rel=>exact ar
           . go_wp2_with fail
             refine(aF _ a' b' ar (by omega) aa).mono ?_;rintro e w1 ⟨a8,rfl,d⟩;have aP:=Zh d;clear d
             cases a8
             . go_wp2_with fail
               go_meet
               case rel=>exact aP
             . go_wp2_with fail
               (try simp only [Exit.inBlock,Exit.then]);refine bodyPost_ret (results_none rfl _ _ _) rfl ?_
               exact⟨rfl,aP⟩
          case rest=>
           have au:=hcut;clear hcut ar;obtain⟨G,aQ,aR,aS⟩:=au.open off aV.out;rw [<-aW.out] at aQ aR aS;go_upto_region 17 with fail;go_cut [87] from 19 (λa9 ai=> ∃t:Bool,a9= .bool t/\Hid (AZ A ai Az zs0))
           case first=>
            rcases Nat.eq_zero_or_pos a' with ba|ba
            focus
             have bb:decide ((a' :Int)>0)=false:=decide_eq_false (by omega)
            rotate_left
            focus
             have bb:(a' :Int)>0:=by omega
            all_goals
             go_big_quiet (first|(go_at_call 183;refine Calls.quiet_of_same ((Bf _ _ _).mono λ_ _ h=>⟨h.1,h.2.symm⟩)))
             go_wp2_with fail;go_meet
             case rel=>exact⟨_,rfl,Zh (au.drewN nq)⟩
           case rest=>
            obtain⟨t87,rfl,aw⟩:=hcut;clear aQ aR aS au
            cases t87
            . go_upto_if 113 with (go_at_call 185;refine(aH _ a' b' ae aw aN aO aa).mono ?_;rintro e w1 ⟨O,ap,rfl,ax,d⟩)
              have aT:=Zh d;obtain⟨bc,bs⟩:=ax;clear d aw;by_cases aj:O-a' <b' -O
              . have bd:(O:Int)-(a' :Int)<(b' :Int)-(O:Int):=by omega
                go_wp2_with (go_at_call 167;refine(aI _ a' O ab (by omega) aT bc (by omega) (by omega)).mono ?_;rintro e be ⟨rfl,ay⟩)
                go_roundg (b' -(O+1))
                case measure=>omega
                case rel=>exact⟨O+1,b',ab,_,ap,by simp,rfl,rfl,rfl,rfl,by omega,by omega,Nat.le_refl _,by omega,by omega,Zh ay⟩
              . have bd: ¬((O:Int)-(a' :Int)<(b' :Int)-(O:Int)):=by omega
                have aU:=aI.out;have az:=(λV bf=>aU V (O+1) b' ab (by omega) bf (by omega) (by omega) (by omega));push_cast at az;have bg:=Zh az;clear az aU;go_wp2_with (go_at_call 167;refine(bg _ aT).mono ?_;rintro e be ⟨rfl,ay⟩)
                go_roundg (O-a')
                case measure=>omega
                case rel=>exact⟨a',O,ab,_,ap,rfl,rfl,rfl,rfl,rfl,by omega,by omega,Nat.le_refl _,by omega,by omega,Zh ay⟩
            . go_wp2_with (go_at_call 184;refine(aG _ a' b' ae aw aN aO aa).mono ?_;rintro e w1 ⟨O,rfl,ax,d⟩)
              go_roundg (b' -O)
              case measure=>omega
              case rel=>exact⟨O,b',ab,ag,wp,rfl,rfl,rfl,rfl,rfl,ax.2,aa,Nat.le_refl _,by omega,by omega,Zh d⟩
end
attribute [local go_sem] Oper.semAt_some Ea
theorem Rm(P:Option Addr)(n c:Nat)(w:World):Calls prog 109 #[.slice P n c] w λe w' =>e= .returned (.func (.func 152) #[] #[.pointer (some ⟨w.heap.size,0,none⟩)])/\w' =w.alloc (.cells #[.slice P n c] 46):=by
 go_enter func109,ntmps109;go_wp2;go_ret;exact⟨rfl,rfl⟩
theorem OF(U:P=some ⟨b,0,none⟩\/ws= [])(hx:w.cell? ⟨bx,0,none⟩=some (.slice P ws.length c))(V: ∀j (h:j<ws.length),w.cell? ⟨b,j,none⟩=some (.int .u64 (ws[j]:Nat)))(Z:b<w.heap.size)(aA:ws.length<=100000000):
 SeqStopsK Fence.wide 8 prog 152 #[.pointer (some ⟨bx,0,none⟩)] (λz:{z:Nat // z<ws.length}=> #[.int .u64 (ws[z.1]'z.2:Nat)]) (B0 b bx) (λxs=>xs.map (·.1)=List.range ws.length) (λpre=> ∃t,List.range ws.length=pre.map (·.1)++t) ws.length w:=λl ai aB W I aC aD J h0=>by
 have aj:=(I.cell (p:=⟨bx,0,none⟩) (Al hx)).trans hx;have al:Hid (∀j (h:j<ws.length),W.cell? ⟨b,j,none⟩=some (.int .u64 (ws[j]:Nat))):=Zh (λj h=>(I.cell (p:=⟨b,j,none⟩) Z).trans (V j h));have am:=Zh h0;have an:=Zh U;clear I hx V Z h0 U;refine callsIn_of_wp func152 rfl trivial ?_ rfl;simp only [ntmps152,List.size_toArray,List.length_cons,List.length_nil,Nat.reduceAdd,Nat.reduceSub,Array.replicate_succ,Array.replicate_zero,List.push_toArray,List.append_toArray,List.nil_append,List.cons_append];gi_wp2_with fail
 gi_loopw [7] (λO wr=> ∃(pre:List {z:Nat // z<ws.length}) (i:Nat),i<=ws.length/\O= .int .i64 i/\Hid (pre.map (·.1)=List.range i)/\Hid (∀j (h:j<ws.length),wr.cell? ⟨b,j,none⟩=some (.int .u64 (ws[j]:Nat)))/\Hid (ai pre wr)) (λO _=>ws.length-(intOf O).toNat)
 case atStart=>exact⟨[],0,by omega,rfl,Zh rfl,al,am⟩
 case round=>
  obtain⟨pre,i,hi,rfl,hp,aa,ab⟩:=hrel;by_cases d:i<ws.length
  . have ao:=aa.out i d
    obtain rfl:P=some ⟨b,0,none⟩:=an.resolve_right (λh=>by rw [h] at d;exact absurd d (Nat.not_lt_zero _));have aE:pre.length=i:=(by have:=congrArg List.length hp.out;simpa using this);have aq:=Zh J;clear J aj;gi_wp2_with fail;obtain⟨fn,tmps,assign,body,ar,ac⟩:=aq.out pre ⟨i,d⟩ _ ab (by omega);have au:=Zh ac;clear ac;rw [ar];gi_wp2;refine(au).mono ?_;have ae:Hid ((pre++ [(⟨i,d⟩:{z:Nat // z<ws.length})]).map (·.1)=List.range (i+1)):=Zh (by rw [List.map_append,hp.out,List.range_succ];rfl);rintro e aw (⟨rfl,af,ag⟩|⟨rfl,ah⟩)
    . have ax:Hid (∀j (h:j<ws.length),aw.cell? ⟨b,j,none⟩=some (.int .u64 (ws[j]:Nat))):=Zh (λj h=>(World.cell?_of_block (a:=⟨b,j,none⟩) ag.2.1).trans (aa j h))
      have ay:=Zh af;clear af ag ao;gi_wp2;go_roundw
      case rel=>exact⟨pre++ [⟨i,d⟩],i+1,by omega,by go_num,ae,ax,ay⟩
      case measure=>simp [intOf];omega
    . have az:=Zh ah
      clear ah;gi_wp2;refine bodyPost_ret (results_none rfl _ _ _) rfl ?_;refine⟨⟨_,rfl⟩, .inr ⟨_,⟨(List.range ws.length).drop (i+1), ?_⟩,az⟩⟩;rw [ae.out];have:=List.take_append_drop (i+1) (List.range ws.length);rw [List.take_range,Nat.min_eq_left (by omega)] at this;exact this.symm
  . obtain rfl:i=ws.length:=by omega
    clear J;gi_wp2;go_end0;exact⟨⟨_,rfl⟩, .inl ⟨_,hp,ab⟩⟩
theorem NM(ag:P=some ⟨b,0,none⟩\/ws= [])(hx:w.cell? ⟨bx,0,none⟩=some (.slice P ws.length c))(V: ∀j (h:j<ws.length),w.cell? ⟨b,j,none⟩=some (.int .u64 (ws[j]:Nat)))(ac:b<w.heap.size)(hlen:ws.length<=100000000):
 CallsIn Fence.wide 9 prog 166 #[.slice none 0 0, .func (.func 152) #[] #[.pointer (some ⟨bx,0,none⟩)]] w λe w' => ∃v,e= .returned v/\w'.ownsRow w.heap.size 23 1 v ws.length (AG ws)/\Below w.heap.size w w' :=by
 obtain⟨i0,hi,am,an,ao⟩:=info_parts Tryz.Qq;have ah:bx<w.heap.size:=Al hx;have ae:=Zh (And.intro ag (And.intro hx V));clear ag hx V;refine callsIn_of_wp_marks func166 rfl trivial ?_ rfl;simp only [ntmps166,List.size_toArray,List.length_cons,List.length_nil,Nat.reduceAdd,Nat.reduceSub,Array.replicate_succ,Array.replicate_zero,List.push_toArray,List.append_toArray,List.nil_append,List.cons_append];gi_wp2_with fail;have aq:Boxed (w.alloc (Obj.cells #[Value.slice none 0 0] 46)) w.heap.size 46 (.slice none 0 0):=Boxed.new w _ _;have I:Below w.heap.size w (w.alloc (Obj.cells #[Value.slice none 0 0] 46)):=(Below.refl _ w).alloc (Nat.le_refl _) _;have ar:=Zh (OF ae.1 ((I.cell (p:=⟨bx,0,none⟩) ah).trans ae.2.1) (λj h=>(I.cell (p:=⟨b,j,none⟩) ac).trans (ae.2.2 j h)) (Nat.lt_of_lt_of_le ac I.size) hlen);have aE :w.heap.size+1<=(w.alloc (Obj.cells #[Value.slice none 0 0] 46)).heap.size:=by simp
 generalize w.alloc (Obj.cells #[Value.slice none 0 0] 46)=w2 at*
 refine wpIn_rangeFunc_ownH (α:={z:Nat // z<ws.length}) rfl (by omega) (gf:=152) (lb:= #[.pointer (some ⟨bx,0,none⟩)]) rfl trivial (enters_of func152 (by kernel_rfl) rfl)
  ar.out
  (λh k=>h.trans k) (λW l o aF aG au h1 aH=>B0.put W _ (by omega) (by omega)) (Below.refl _ _) (λ_=>rfl)
  (λpre W=>O8 w 46 23 (pre.map (λ(z:{z:Nat // z<ws.length})=>Value.int .u64 (ws[z.1]'z.2:Nat))) W)
  (λaw pre W=>False)
  (PO w _ _ (λpre:List {z:Nat // z<ws.length}=>pre.map (λ(z:{z:Nat // z<ws.length})=>Value.int .u64 (ws[z.1]'z.2:Nat))) _ (by omega))
  (λ_ _ _ _ _ hs _ _=>hs)
  ⟨_,aq,World.ownsRow_nil _ _ _ _,I⟩
  (λz a' W=>a' ={ tmps:= #[ .slice none 0 0, .func (.func 152) #[] #[ .pointer (some ⟨bx,0,none⟩)], .pointer (some ⟨w.heap.size,0,none⟩),undef, .slice none 0 0, .int .u64 (ws[z.1]'z.2:Nat), .func (.func 152) #[] #[ .pointer (some ⟨bx,0,none⟩)], .int .u64 (ws[z.1]'z.2:Nat),undef,undef,undef,undef,undef],defers:= [] })
  (λ_ _ _ _ _ _ hs _ _=>hs)
  ?assign ?body ?done ?stop
 case assign=>
  exact Y8
 case body=>
  rintro l pre ⟨z,d⟩ a' W au ⟨r,aI⟩ hi rfl aJ;dsimp only;obtain⟨v,Z,ab,J⟩:=hi;have ax:=Yjt;have aK:(pre.map (λ(z:{z:Nat // z<ws.length})=>Value.int .u64 (ws[z.1]'z.2:Nat))).length<=100000000:=by rw [List.length_map];omega
  generalize pre.map (λ(z:{z:Nat // z<ws.length})=>Value.int .u64 (ws[z.1]'z.2:Nat))=told at*;have V:=Z.cell;obtain⟨aa,O,ay⟩:=EW;clear J ab Z;have aL:w.heap.size<=W.heap.size:=aa.size;gi_wp2_with (gi_at_builtin;refine wpListIn_append_own_at _ rfl _ _ 46 rfl w.heap.size 23 i0 (.int .u64 0) 1 8 Tryz.Gd hi am an ao rfl (by decide) _ _ _ rfl (O.alloc _) ⟨W.heap.size,0,none⟩ 1 1 [.int .u64 (ws[z]:Nat)] rfl rfl (cell_one_new _ _ _) (by simp [Value.oneCell']) (by unfold maxLen;omega) (by omega) (by simp;omega) ?_;intro v' w1 ai az _ aM;obtain⟨aN,aO,rfl⟩:=ownsRow_succ ai;obtain⟨b1,b2,aA,af⟩:=Mj (l' :=told++ [Value.int .u64 (ws[z]:Nat)]) (by decide) ay O aa (by simpa using ai) az;have aP:=b1.cell;have aQ:=b1.frozen);exact⟨aA.from _,⟨af.size,af.block b ac,af.block bx ah⟩,by show O8 w _ _ _ _;rw [ax.out];exact b2⟩
 case done=>
  rintro D' xs W aB aj hi U;have al:=Ny aj;rw [al] at hi;have aC:(BB ws).length=ws.length:=by simp [BB]
  obtain⟨v,Z,ab,J⟩:=hi;rw [aC] at ab;obtain⟨_,aa,O⟩:=Yqx;clear J ab Z aj al;gi_wp2;refine⟨by simp, .inl ⟨_,_,rfl,run_takeDeferred U, ?_⟩⟩;refine⟨v,by simp [results,f166],v,rfl,Fy (Cs:=λ_=>False) O (KB.putObj _ U rfl rfl) (λ_ h=>h.elim), ?_⟩;exact Ydd
 case stop=>
  rintro D' aw pre W aB aR aD;exact aD.elim
theorem Qv(I:P=some ⟨b,0,none⟩\/ws= [])(hx:w.cell? ⟨bx,0,none⟩=some (.slice P ws.length c))(J: ∀j (h:j<ws.length),w.cell? ⟨b,j,none⟩=some (.int .u64 (ws[j]:Nat)))(U:b<w.heap.size)(hlen:ws.length<=100000000):
 Calls prog 150 #[.func (.func 152) #[] #[.pointer (some ⟨bx,0,none⟩)]] w λe w' => ∃v,e= .returned v/\w'.ownsRow w.heap.size 23 1 v ws.length (AG ws)/\Below w.heap.size w w' :=by
 have V:=Zh ((callsIn_wide (n:=9)).1 (NM I hx J U hlen));clear I hx J;go_enter func150,ntmps150;go_wp2_with fail;refine V.mono ?_;rintro e w1 ⟨v,rfl,d,O⟩;obtain⟨A,c,rfl⟩:=Bu d;have Z:=Zh d;have aa:=Zh O;clear d O;go_wp2;go_ret;exact⟨_,rfl,Z,aa⟩
end Go.Proofs.YtiopopoohglepaaGreatDoor
namespace Go.Proofs.YtiopopoohglepaaGreatDoor
open Go.Proofs.Tryz
open Go.RowKit Go.Shelf Go.Sort
variable {B:Nat}{v:Value}{zs:List Nat}
theorem P5(c:Nat)(w:World):Calls prog 177 #[.slice none 0 c, .int .i64 0, .int .i64 0] w λe w' =>e= .returned (.tuple #[])/\w' =w:=by
 go_enter func177,ntmps177;go_wp2
 go_loopw [6] (λvi wr=>vi= .int .i64 1/\wr=w) (λvi _=>0)
 case atStart=>exact⟨rfl,rfl⟩
 case round=>
  obtain⟨rfl,rfl⟩:=hrel;go_wp2;go_end0;exact⟨rfl,rfl⟩
theorem Qo(c:Nat)(w:World):Calls prog 167 #[.slice none 0 c, .int .i64 0, .int .i64 0, .int .i64 0] w λe w' =>e= .returned (.tuple #[])/\w' =w:=by
 have d:=Zh (P5 c w);go_enter func167,ntmps167;go_wp2
 go_loopg [1,2,3,8,9] 0 (λk s1 s2 I J O wr=>s1= .int .i64 0/\s2= .int .i64 0/\I= .int .i64 0/\J= .bool true/\O= .bool true/\wr=w)
 case atStart=>exact⟨rfl,rfl,rfl,rfl,rfl,rfl⟩
 case round=>
  obtain⟨rfl,rfl,rfl,rfl,rfl,rfl⟩:=hrel;go_wp2_with fail;refine d.mono ?_;rintro e w1 ⟨rfl,rfl⟩;go_wp2
  (try simp only [Exit.inBlock,Exit.then]);refine bodyPost_ret (results_none rfl _ _ _) rfl ?_
  exact⟨rfl,rfl⟩
theorem OW(c:Nat)(w:World):Calls prog 151 #[.slice none 0 c] w λe w' =>e= .returned (.tuple #[])/\w' =w:=by
 have d:=Zh (Qo c w);have I:Hid (Calls prog 168 #[.int .u64 0] w λe w' =>e= .returned (.int .i64 0)/\w' =w):=Zh (LO 0 (by omega) w);go_enter func151,ntmps151;go_wp2_with fail;refine I.mono ?_;rintro e w1 ⟨rfl,rfl⟩;go_wp2_with fail;refine d.mono ?_;rintro e w1 ⟨rfl,rfl⟩;go_wp2;go_end0;exact⟨rfl,rfl⟩
section
variable {A W w:World} {Az off c:Nat} {zs0:List Nat}
theorem TT(h:AZ A W Az zs0)(d:off=0)(I:zs0.length<4611686018427387904):Calls prog 151 #[.slice (some ⟨Az,off,none⟩) zs0.length c] W λe w' =>e= .returned (.tuple #[])/\AZ A w' Az zs0:=by
 have V:bitsLen zs0.length<=62:=(bitsLen_le_iff zs0.length 62).2 (by omega);have J:=Zh (VL (A:=A) (Az:=Az) (c:=c) d I (zs0.length+1) W 0 zs0.length (bitsLen zs0.length) (by omega) h (Nat.zero_le _) (Nat.le_refl _) (by omega));have O:=Zh (LO zs0.length I W);clear h d;generalize bitsLen zs0.length=m at*;go_enter func151,ntmps151;go_wp2_with fail;refine O.mono ?_;rintro e w1 ⟨rfl,rfl⟩;go_wp2_with fail;refine J.mono ?_;rintro e w1 ⟨rfl,U⟩;go_wp2;go_end0;exact⟨rfl,U⟩
def Sa(W:World)(B:Nat)(v:Value)(zs:List Nat):Prop:=(v= .slice none 0 0/\zs= [])\/ ∃g cap,v= .slice (some ⟨g,0,none⟩) zs.length cap/\B<=g/\zs.length<=cap/\ ∃sp,An W g 23 (AG zs++sp)
theorem NH(h:W.ownsRow B 23 1 v zs.length (AG zs)):Sa W B v zs:=by
 rcases h.2 with ⟨h1,d⟩|⟨g,cap,cur,h1,d,I,J,U,V,O⟩
 . exact .inl ⟨h1,List.eq_nil_of_length_eq_zero d⟩
 . refine .inr ⟨g,cap,h1,d,J,cur.toList.drop zs.length, ?_⟩
   have e:AG zs++cur.toList.drop zs.length=cur.toList:=(by rw [<-O,Nat.mul_one];exact List.take_append_drop _ _);rw [e];exact⟨cur,I,by simp,λi hi=>by
    simp only [Array.length_toList] at hi;simp [hi]⟩
theorem RC{P:Option Addr}{b bx c:Nat}{ws:List Nat}(V:P=some ⟨b,0,none⟩\/ws= [])(hx:w.cell? ⟨bx,0,none⟩=some (.slice P ws.length c))(Z: ∀j (h:j<ws.length),w.cell? ⟨b,j,none⟩=some (.int .u64 (ws[j]:Nat)))(ae:b<w.heap.size)(hlen:ws.length<=100000000):
 Calls prog 108 #[.func (.func 152) #[] #[.pointer (some ⟨bx,0,none⟩)]] w λe w' => ∃v zs,e= .returned v/\zs.Perm ws/\Sa w' w.heap.size v zs/\Below w.heap.size w w' :=by
 have af:=Zh (Qv V hx Z ae hlen);clear V hx Z;go_enter func108,ntmps108;go_wp2_with fail;refine af.mono ?_;rintro e w1 ⟨v,rfl,J,d⟩;rcases NH J with ⟨rfl,rfl⟩|⟨g,cap,rfl,hg,aa,sp,ab⟩
 . have I:=Zh d
   clear J d;go_wp2_with fail;refine(OW 0 w1).mono ?_;rintro e w2 ⟨rfl,rfl⟩;go_wp2;go_ret;exact⟨_,[],rfl,List.Perm.refl _, .inl ⟨rfl,rfl⟩,I⟩
 . have ag:=Zh (TT (off:=0) (c:=cap) (AZ.start ab) rfl (by omega))
   have I:=Zh d;have O:=Zh (And.intro hg aa);clear J d ab hg aa;go_wp2_with fail;refine ag.mono ?_;rintro e w2 ⟨rfl,ac⟩;have ah:=Zh ac;clear ac;go_wp2;go_ret;obtain⟨zs,U,⟨ai,aj⟩,al⟩:=ah.out;refine⟨_,zs,rfl,U, .inr ⟨g,cap,by rw [U.length_eq];rfl,O.1,by rw [U.length_eq];exact O.2,ai,aj⟩, ?_⟩;exact I.grown al I.size (λk am=>by cases am;exact O.1)
theorem TA(h:Sa w B v zs)(hlen:zs.length<=100000000):
 Calls prog 111 #[v] w λe w' => ∃v',e= .returned v' /\Sa w' w.heap.size v' zs/\Below w.heap.size w w' :=by
 have ae: ∀(w:World) (a:Option Addr) (n c n' d :Nat),(binOp .eql 46 (.slice a n c) (.slice none n' d)).run prog w= .ok (.bool a.isNone) w:=λw a n c n' d =>Lib.run_eql_slice_nil w _ _ a n c n' d Tryz.Gd
 obtain⟨i0,hi,U,V,Z⟩:=info_parts Tryz.Qq;rcases h with ⟨rfl,rfl⟩|⟨g,cap,rfl,hg,_,sp,J⟩
 . go_enter func111,ntmps111
   go_wp2;go_ret;exact⟨_,rfl, .inl ⟨rfl,rfl⟩,Below.refl _ _⟩
 . have aa:Hid (∀j u,(AG zs)[j]? =some u->w.cell? ⟨g,j,none⟩=some u):=Zh λj u I=>J.at' (by rw [List.getElem?_append_left (List.getElem?_eq_some_iff.1 I).1];exact I)
   clear J hg;go_enter func111,ntmps111;go_wp2_with (at_builtin;refine wpList_append_own _ rfl _ _ 46 rfl w.heap.size 23 i0 (.int .u64 0) 1 8 Tryz.Gd hi U V Z rfl (by decide) _ _ _ rfl (World.ownsRow_made w #[] 0 (Nat.le_refl _) (Nat.zero_le _) (by simp)) ⟨g,0,none⟩ zs.length cap (AG zs) rfl ?qc1 ?qc2 ?qc3 ?qc4 ?qc5 ?qc6 ?_)
   case qc1=>simp [AG]
   case qc2=>
    intro j u I;rw [Addr.add_lit,Nat.zero_add];exact Lib.cell?_alloc_some _ (aa j u I)
   case qc3=>exact Km
   case qc4=>unfold maxLen;omega
   case qc5=>omega
   case qc6=>simp
   intro v' w1 O ab af;obtain⟨P',d,rfl⟩:=Bu O;go_wp2;go_ret;refine⟨_,rfl,NH (by simpa using O), ?_⟩;exact((Below.refl _ w).alloc (Nat.le_refl _) _).grown ab (by simp) (by intro k ac;simp [Value.ownBlock] at ac;omega)
end
