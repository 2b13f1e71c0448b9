/- A part. -/
import Derived.Test.YtiopopoohglepaaGreatDoorPMxb
import Derived.Sort.WalkA6
set_option linter.all false
set_option maxRecDepth 100000
set_option maxHeartbeats 4000000
namespace Go.Proofs.YtiopopoohglepaaGreatDoor
open Go.Proofs.Tryz
open Go.RowKit Go.Shelf
section
variable {A W W' w:World} {Az off c:Nat} {zs0:List Nat}
def Yaf{P}(h:P:=by
 obtain⟨j,rfl,aa,ab,I⟩:=hrel;obtain⟨ac,V,Z,U⟩:=I.open off O.out;rw [<-J.out] at V Z U;go_wp2
 all_goals first
  |(at_region 22
    go_quiet (first|(go_at_call 183;refine Calls.quiet_of_same ((Bh _ _ _).mono λ_ _ h=>⟨h.1,h.2.symm⟩)))
    go_wp2
    all_goals first
     |(at_region 23
       go_region
       all_goals go_wp2
       go_roundw
       case rel=>exact⟨j+1,by go_num,by omega,by omega,Zh (U (nq+1) j (j-1) (by omega) (by omega))⟩
       case measure=>simp [intOf];omega)
     |(at_end
       go_roundw
       case rel=>exact⟨k,s+1,rfl,by go_num,by omega,by omega,by omega,Zh (I.drewN nq)⟩
       case measure=>simp [intOf];omega))
  |(at_end
    go_roundw
    case rel=>exact⟨k,s+1,rfl,by go_num,by omega,by omega,by omega,I⟩
    case measure=>simp [intOf];omega)):=h
theorem X8(h:A1 A W Az zs0)(am:off=0)(a b:Nat)(au:a<b)(an:b<=zs0.length)(ao:zs0.length<4611686018427387904):
 Calls prog 182 #[.slice (some ⟨Az,off,none⟩) zs0.length c, .int .i64 a, .int .i64 b] W λe w' => ∃t:Bool,e= .returned (.bool t)/\A1 A w' Az zs0:=by
 obtain⟨n,I⟩:=Zx zs0.length;rw [<-I] at an ao ⊢;obtain⟨O,J,aq⟩:=Rf;clear h am I;go_enter func182,ntmps182;go_wp2
 go_loopw [7,8] (λvi vs wr=> ∃i s:Nat,vi= .int .i64 i/\vs= .int .i64 s/\s<=5/\a<i/\i<=b/\Hid (A1 A wr Az zs0)) (λ_ vs _=>5-(intOf vs).toNat)
 case atStart=>exact⟨a+1,0,by go_num,rfl,by omega,by omega,by omega,aq⟩
 case round=>
  obtain⟨i,s,rfl,rfl,aw,ax,ar,ae⟩:=hrel;go_wp2
  . have hs:s<5:=by omega
    go_loopw [7] (λvi V=> ∃k:Nat,vi= .int .i64 k/\i<=k/\k<=b/\Hid (A1 A V Az zs0)) (λvi _=>b-(intOf vi).toNat)
    case atStart=>exact⟨i,rfl,Nat.le_refl _,ar,ae⟩
    case round=>
     obtain⟨k,rfl,ay,az,Z⟩:=hrel;clear ae;obtain⟨G,ai,aj,af⟩:=Z.open off O.out;rw [<-J.out] at ai aj af;go_wp2;by_cases aA :k<b
     . go_quiet (first|(go_at_call 183;refine Calls.quiet_of_same ((Bh _ _ _).mono λ_ _ h=>⟨h.1,h.2.symm⟩)))
       go_wp2
       all_goals first
        |(at_end
          go_roundw
          case rel=>exact⟨k+1,by go_num,by omega,by omega,Zh (Z.drewN nq)⟩
          case measure=>simp [intOf];omega)
        |(at_ret
          go_ret;exact⟨false,rfl,Z.drewN _⟩)
        |(at_region 11
          go_region
          have ab:=Zh (af (nq+1) k (k-1) (by omega) (by omega));clear af ai aj Z;go_wp2
          all_goals first
           |(at_loop
             go_loopw [9] (λU V=> ∃j:Nat,U= .int .i64 j/\j<=k-1/\Hid (A1 A V Az zs0)) (λU _=>(intOf U).toNat)
             case atStart=>exact⟨k-1,by congr 1;omega,Nat.le_refl _,ab⟩
             case round=>
              clear ab;obtain⟨j,rfl,aB,aa⟩:=hrel;obtain⟨aC,ag,ah,ac⟩:=aa.open off O.out;rw [<-J.out] at ag ah ac;go_wp2
              all_goals first
               |(at_region 16
                 go_quiet (first|(go_at_call 183;refine Calls.quiet_of_same ((Bh _ _ _).mono λ_ _ h=>⟨h.1,h.2.symm⟩)))
                 go_wp2
                 all_goals first
                  |(at_region 17
                    go_region
                    all_goals go_wp2
                    go_roundw
                    case rel=>exact⟨j-1,by congr 1;omega,by omega,Zh (ac (nq+1) j (j-1) (by omega) (by omega))⟩
                    case measure=>simp [intOf];omega)
                  |(have al:=Zh (aa.drewN nq)
                    clear ag ah ac aa
                    first
                     |(at_end
                       go_roundw
                       case rel=>exact⟨k,s+1,rfl,by go_num,by omega,by omega,by omega,al⟩
                       case measure=>simp [intOf];omega)
                     |(at_loop
                       go_loopw [10] (λU V=> ∃j:Nat,U= .int .i64 j/\k+1<=j/\j<=b/\Hid (A1 A V Az zs0)) (λU _=>b-(intOf U).toNat)
                       case atStart=>exact⟨k+1,by go_num,Nat.le_refl _,by omega,al⟩
                       case round=>
                        exact Yaf)))
               |(clear ag ah ac
                 first
                  |(at_end
                    go_roundw
                    case rel=>exact⟨k,s+1,rfl,by go_num,by omega,by omega,by omega,aa⟩
                    case measure=>simp [intOf];omega)
                  |(at_loop
                    go_loopw [10] (λU V=> ∃j:Nat,U= .int .i64 j/\k+1<=j/\j<=b/\Hid (A1 A V Az zs0)) (λU _=>b-(intOf U).toNat)
                    case atStart=>exact⟨k+1,by go_num,Nat.le_refl _,by omega,aa⟩
                    case round=>
                     exact Yaf)))
           |(skip
             first
              |(at_end
                go_roundw
                case rel=>exact⟨k,s+1,rfl,by go_num,by omega,by omega,by omega,ab⟩
                case measure=>simp [intOf];omega)
              |(at_loop
                go_loopw [10] (λU V=> ∃j:Nat,U= .int .i64 j/\k+1<=j/\j<=b/\Hid (A1 A V Az zs0)) (λU _=>b-(intOf U).toNat)
                case atStart=>exact⟨k+1,by go_num,Nat.le_refl _,by omega,ab⟩
                case round=>
                 exact Yaf)))
     . go_quiet (first|(go_at_call 183;refine Calls.quiet_of_same ((Bh _ _ _).mono λ_ _ h=>⟨h.1,h.2.symm⟩)))
       go_wp2;go_ret;exact⟨true,rfl,Z.drewN _⟩
  . go_ret
    exact⟨false,rfl,ae⟩
end
