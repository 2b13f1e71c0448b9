/- A part. -/
import Derived.Test.YtiopopoohglepaaGreatDoorVMxb
import Derived.Sort.WalkA6
set_option linter.all false
set_option maxRecDepth 100000
set_option maxHeartbeats 4000000
namespace Go.Proofs.YtiopopoohglepaaGreatDoor
open Go.Proofs.Tryz
open Go.RowKit Go.Shelf
section
variable {A W W' w:World} {Az off c:Nat} {zs0:List Nat}
def Yag{P}(h:P:=by
 obtain⟨j,rfl,Z,aa,I⟩:=hrel;obtain⟨ab,U,V,O⟩:=I.open off J.out;rw [<-d.out] at U V O;go_wp2
 all_goals first
  |(at_region 22
    go_quiet (first|(go_at_call 183;refine Calls.quiet_of_same ((Bf _ _ _).mono λ_ _ h=>⟨h.1,h.2.symm⟩)))
    go_wp2
    all_goals first
     |(at_region 23
       go_region
       all_goals go_wp2
       go_roundw
       case rel=>exact⟨j+1,by go_num,by omega,by omega,Zh (O (nq+1) j (j-1) (by omega) (by omega))⟩
       case measure=>simp [intOf];omega)
     |(at_end
       go_roundw
       case rel=>exact⟨k,s+1,rfl,by go_num,by omega,by omega,by omega,Zh (I.drewN nq)⟩
       case measure=>simp [intOf];omega))
  |(at_end
    go_roundw
    case rel=>exact⟨k,s+1,rfl,by go_num,by omega,by omega,by omega,I⟩
    case measure=>simp [intOf];omega)):=h
theorem XG(h:AZ A W Az zs0)(aq:off=0)(a b:Nat)(ar:a<b)(al:b<=zs0.length)(am:zs0.length<4611686018427387904):
 Calls prog 182 #[.slice (some ⟨Az,off,none⟩) zs0.length c, .int .i64 a, .int .i64 b] W λe w' => ∃t:Bool,e= .returned (.bool t)/\AZ A w' Az zs0:=by
 obtain⟨n,I⟩:=Zx zs0.length;rw [<-I] at al am ⊢;obtain⟨J,d,an⟩:=Sq;clear h aq I;go_enter func182,ntmps182;go_wp2
 go_loopw [7,8] (λvi vs wr=> ∃i s:Nat,vi= .int .i64 i/\vs= .int .i64 s/\s<=5/\a<i/\i<=b/\Hid (AZ A wr Az zs0)) (λ_ vs _=>5-(intOf vs).toNat)
 case atStart=>exact⟨a+1,0,by go_num,rfl,by omega,by omega,by omega,an⟩
 case round=>
  obtain⟨i,s,rfl,rfl,au,aw,ao,ac⟩:=hrel;go_wp2
  . have hs:s<5:=by omega
    go_loopw [7] (λvi U=> ∃k:Nat,vi= .int .i64 k/\i<=k/\k<=b/\Hid (AZ A U Az zs0)) (λvi _=>b-(intOf vi).toNat)
    case atStart=>exact⟨i,rfl,Nat.le_refl _,ao,ac⟩
    case round=>
     obtain⟨k,rfl,ax,ay,V⟩:=hrel;clear ac;obtain⟨G,ah,ai,ae⟩:=V.open off J.out;rw [<-d.out] at ah ai ae;go_wp2;by_cases az :k<b
     . go_quiet (first|(go_at_call 183;refine Calls.quiet_of_same ((Bf _ _ _).mono λ_ _ h=>⟨h.1,h.2.symm⟩)))
       go_wp2
       all_goals first
        |(at_end
          go_roundw
          case rel=>exact⟨k+1,by go_num,by omega,by omega,Zh (V.drewN nq)⟩
          case measure=>simp [intOf];omega)
        |(at_ret
          go_ret;exact⟨false,rfl,V.drewN _⟩)
        |(at_region 11
          go_region
          have aa:=Zh (ae (nq+1) k (k-1) (by omega) (by omega));clear ae ah ai V;go_wp2
          all_goals first
           |(at_loop
             go_loopw [9] (λO U=> ∃j:Nat,O= .int .i64 j/\j<=k-1/\Hid (AZ A U Az zs0)) (λO _=>(intOf O).toNat)
             case atStart=>exact⟨k-1,by congr 1;omega,Nat.le_refl _,aa⟩
             case round=>
              clear aa;obtain⟨j,rfl,aA,Z⟩:=hrel;obtain⟨aB,af,ag,ab⟩:=Z.open off J.out;rw [<-d.out] at af ag ab;go_wp2
              all_goals first
               |(at_region 16
                 go_quiet (first|(go_at_call 183;refine Calls.quiet_of_same ((Bf _ _ _).mono λ_ _ h=>⟨h.1,h.2.symm⟩)))
                 go_wp2
                 all_goals first
                  |(at_region 17
                    go_region
                    all_goals go_wp2
                    go_roundw
                    case rel=>exact⟨j-1,by congr 1;omega,by omega,Zh (ab (nq+1) j (j-1) (by omega) (by omega))⟩
                    case measure=>simp [intOf];omega)
                  |(have aj:=Zh (Z.drewN nq)
                    clear af ag ab Z
                    first
                     |(at_end
                       go_roundw
                       case rel=>exact⟨k,s+1,rfl,by go_num,by omega,by omega,by omega,aj⟩
                       case measure=>simp [intOf];omega)
                     |(at_loop
                       go_loopw [10] (λO U=> ∃j:Nat,O= .int .i64 j/\k+1<=j/\j<=b/\Hid (AZ A U Az zs0)) (λO _=>b-(intOf O).toNat)
                       case atStart=>exact⟨k+1,by go_num,Nat.le_refl _,by omega,aj⟩
                       case round=>
                        exact Yag)))
               |(clear af ag ab
                 first
                  |(at_end
                    go_roundw
                    case rel=>exact⟨k,s+1,rfl,by go_num,by omega,by omega,by omega,Z⟩
                    case measure=>simp [intOf];omega)
                  |(at_loop
                    go_loopw [10] (λO U=> ∃j:Nat,O= .int .i64 j/\k+1<=j/\j<=b/\Hid (AZ A U Az zs0)) (λO _=>b-(intOf O).toNat)
                    case atStart=>exact⟨k+1,by go_num,Nat.le_refl _,by omega,Z⟩
                    case round=>
                     exact Yag)))
           |(skip
             first
              |(at_end
                go_roundw
                case rel=>exact⟨k,s+1,rfl,by go_num,by omega,by omega,by omega,aa⟩
                case measure=>simp [intOf];omega)
              |(at_loop
                go_loopw [10] (λO U=> ∃j:Nat,O= .int .i64 j/\k+1<=j/\j<=b/\Hid (AZ A U Az zs0)) (λO _=>b-(intOf O).toNat)
                case atStart=>exact⟨k+1,by go_num,Nat.le_refl _,by omega,aa⟩
                case round=>
                 exact Yag)))
     . go_quiet (first|(go_at_call 183;refine Calls.quiet_of_same ((Bf _ _ _).mono λ_ _ h=>⟨h.1,h.2.symm⟩)))
       go_wp2;go_ret;exact⟨true,rfl,V.drewN _⟩
  . go_ret
    exact⟨false,rfl,ac⟩
end
