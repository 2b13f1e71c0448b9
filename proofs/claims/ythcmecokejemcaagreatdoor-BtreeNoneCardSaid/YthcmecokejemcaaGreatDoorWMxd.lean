/-
  The seat's own texts, part xd: So4.
-/
import Derived.Test.YthcmecokejemcaaGreatDoorWMxc
import Derived.Sort.WalkA6
set_option linter.unusedSimpArgs false
set_option linter.unusedVariables false
set_option maxHeartbeats 4000000
namespace Go.Proofs.YthcmecokejemcaaGreatDoor
open Go.RowKit Go.Shelf
section
variable {A W W' w:World} {blk off c:Nat} {zs0:List Nat}
set_option maxRecDepth 100000 in
theorem soPI_at(h:SRow A W blk zs0)(ho:off=0)(a b:Nat)(hab:a<b)(hb:b≤zs0.length)(hsz:zs0.length<4611686018427387904):
 Calls Tryz.prog 142 #[.slice (some ⟨blk,off,none⟩) zs0.length c, .int .i64 (a:Nat), .int .i64 (b:Nat)] W fun e w' => ∃t:Bool,e= .returned (.bool t)∧SRow A w' blk zs0:=by
 obtain⟨n,hn⟩: ∃n,n=zs0.length:=⟨_,rfl⟩
 rw [←hn] at hb hsz ⊢
 have hoH:=Lib.hid ho
 have hnH:=Lib.hid hn
 have hH:=Lib.hid h
 clear h ho hn
 go_enter Tryz.func142,Tryz.ntmps142
 go_wp2
 go_loopw [7,8] (fun vi vs wr=> ∃i s:Nat,vi= .int .i64 i∧vs= .int .i64 s∧s≤5∧a<i∧i≤b∧Hid (SRow A wr blk zs0)) (fun _ vs _=>5-(intOf vs).toNat)
 case atStart=>exact⟨a+1,0,by go_num,rfl,by omega,by omega,by omega,hH⟩
 case round=>
  obtain⟨i,s,rfl,rfl,hs5,hai,hib,hst⟩:=hrel
  go_wp2
  · have hs:s<5:=by omega
    go_loopw [7] (fun vi wr2=> ∃k:Nat,vi= .int .i64 k∧i≤k∧k≤b∧Hid (SRow A wr2 blk zs0)) (fun vi _=>b-(intOf vi).toNat)
    case atStart=>exact⟨i,rfl,Nat.le_refl _,hib,hst⟩
    case round=>
     obtain⟨k,rfl,hik,hkb,hst2⟩:=hrel
     clear hst
     obtain⟨G,hcw,hfw,hsw⟩:=hst2.out.open off hoH.out
     rw [←hnH.out] at hcw hfw hsw
     go_wp2
     by_cases hkb' :k<b
     · go_quiet (first|(go_at_call 143;refine Calls.quiet_of_same ((soLess_at _ _ _).mono fun _ _ h=>⟨h.1,h.2.symm⟩)))
       go_wp2
       all_goals first
        |(at_end
          go_roundw
          case rel=>exact⟨k+1,by go_num,by omega,by omega,Lib.hid (hst2.out.drewN nq)⟩
          case measure=>simp [intOf];omega)
        |(at_ret
          go_ret
          exact⟨false,rfl,hst2.out.drewN _⟩)
        |(at_region 11
          go_region
          have hst3:=Lib.hid (hsw.out (nq+1) k (k-1) (by omega) (by omega))
          clear hsw hcw hfw hst2
          go_wp2
          all_goals first
           |(at_loop
             go_loopw [9] (fun vj wr2=> ∃j:Nat,vj= .int .i64 j∧j≤k-1∧Hid (SRow A wr2 blk zs0)) (fun vj _=>(intOf vj).toNat)
             case atStart=>exact⟨k-1,by congr 1;omega,Nat.le_refl _,hst3⟩
             case round=>
              clear hst3
              obtain⟨j,rfl,hjk,hst5⟩:=hrel
              obtain⟨G5,hcw5,hfw5,hsw5⟩:=hst5.out.open off hoH.out
              rw [←hnH.out] at hcw5 hfw5 hsw5
              go_wp2
              all_goals first
               |(at_region 16
                 go_quiet (first|(go_at_call 143;refine Calls.quiet_of_same ((soLess_at _ _ _).mono fun _ _ h=>⟨h.1,h.2.symm⟩)))
                 go_wp2
                 all_goals first
                  |(at_region 17
                    go_region
                    all_goals go_wp2
                    go_roundw
                    case rel=>exact⟨j-1,by congr 1;omega,by omega,Lib.hid (hsw5.out (nq+1) j (j-1) (by omega) (by omega))⟩
                    case measure=>simp [intOf];omega)
                  |(have hst6:=Lib.hid (hst5.out.drewN nq)
                    clear hcw5 hfw5 hsw5 hst5
                    first
                     |(at_end
                       go_roundw
                       case rel=>exact⟨k,s+1,rfl,by go_num,by omega,by omega,by omega,hst6⟩
                       case measure=>simp [intOf];omega)
                     |(at_loop
                       go_loopw [10] (fun vj wr2=> ∃j:Nat,vj= .int .i64 j∧k+1≤j∧j≤b∧Hid (SRow A wr2 blk zs0)) (fun vj _=>b-(intOf vj).toNat)
                       case atStart=>exact⟨k+1,by go_num,Nat.le_refl _,by omega,hst6⟩
                       case round=>
                        obtain⟨j,rfl,hkj,hjb,hst4⟩:=hrel
                        obtain⟨G4,hcw4,hfw4,hsw4⟩:=hst4.out.open off hoH.out
                        rw [←hnH.out] at hcw4 hfw4 hsw4
                        go_wp2
                        all_goals first
                         |(at_region 22
                           go_quiet (first|(go_at_call 143;refine Calls.quiet_of_same ((soLess_at _ _ _).mono fun _ _ h=>⟨h.1,h.2.symm⟩)))
                           go_wp2
                           all_goals first
                            |(at_region 23
                              go_region
                              all_goals go_wp2
                              go_roundw
                              case rel=>exact⟨j+1,by go_num,by omega,by omega,Lib.hid (hsw4.out (nq+1) j (j-1) (by omega) (by omega))⟩
                              case measure=>simp [intOf];omega)
                            |(at_end
                              go_roundw
                              case rel=>exact⟨k,s+1,rfl,by go_num,by omega,by omega,by omega,Lib.hid (hst4.out.drewN nq)⟩
                              case measure=>simp [intOf];omega))
                         |(at_end
                           go_roundw
                           case rel=>exact⟨k,s+1,rfl,by go_num,by omega,by omega,by omega,hst4⟩
                           case measure=>simp [intOf];omega))))
               |(clear hcw5 hfw5 hsw5
                 first
                  |(at_end
                    go_roundw
                    case rel=>exact⟨k,s+1,rfl,by go_num,by omega,by omega,by omega,hst5⟩
                    case measure=>simp [intOf];omega)
                  |(at_loop
                    go_loopw [10] (fun vj wr2=> ∃j:Nat,vj= .int .i64 j∧k+1≤j∧j≤b∧Hid (SRow A wr2 blk zs0)) (fun vj _=>b-(intOf vj).toNat)
                    case atStart=>exact⟨k+1,by go_num,Nat.le_refl _,by omega,hst5⟩
                    case round=>
                     obtain⟨j,rfl,hkj,hjb,hst4⟩:=hrel
                     obtain⟨G4,hcw4,hfw4,hsw4⟩:=hst4.out.open off hoH.out
                     rw [←hnH.out] at hcw4 hfw4 hsw4
                     go_wp2
                     all_goals first
                      |(at_region 22
                        go_quiet (first|(go_at_call 143;refine Calls.quiet_of_same ((soLess_at _ _ _).mono fun _ _ h=>⟨h.1,h.2.symm⟩)))
                        go_wp2
                        all_goals first
                         |(at_region 23
                           go_region
                           all_goals go_wp2
                           go_roundw
                           case rel=>exact⟨j+1,by go_num,by omega,by omega,Lib.hid (hsw4.out (nq+1) j (j-1) (by omega) (by omega))⟩
                           case measure=>simp [intOf];omega)
                         |(at_end
                           go_roundw
                           case rel=>exact⟨k,s+1,rfl,by go_num,by omega,by omega,by omega,Lib.hid (hst4.out.drewN nq)⟩
                           case measure=>simp [intOf];omega))
                      |(at_end
                        go_roundw
                        case rel=>exact⟨k,s+1,rfl,by go_num,by omega,by omega,by omega,hst4⟩
                        case measure=>simp [intOf];omega))))
           |(skip
             first
              |(at_end
                go_roundw
                case rel=>exact⟨k,s+1,rfl,by go_num,by omega,by omega,by omega,hst3⟩
                case measure=>simp [intOf];omega)
              |(at_loop
                go_loopw [10] (fun vj wr2=> ∃j:Nat,vj= .int .i64 j∧k+1≤j∧j≤b∧Hid (SRow A wr2 blk zs0)) (fun vj _=>b-(intOf vj).toNat)
                case atStart=>exact⟨k+1,by go_num,Nat.le_refl _,by omega,hst3⟩
                case round=>
                 obtain⟨j,rfl,hkj,hjb,hst4⟩:=hrel
                 obtain⟨G4,hcw4,hfw4,hsw4⟩:=hst4.out.open off hoH.out
                 rw [←hnH.out] at hcw4 hfw4 hsw4
                 go_wp2
                 all_goals first
                  |(at_region 22
                    go_quiet (first|(go_at_call 143;refine Calls.quiet_of_same ((soLess_at _ _ _).mono fun _ _ h=>⟨h.1,h.2.symm⟩)))
                    go_wp2
                    all_goals first
                     |(at_region 23
                       go_region
                       all_goals go_wp2
                       go_roundw
                       case rel=>exact⟨j+1,by go_num,by omega,by omega,Lib.hid (hsw4.out (nq+1) j (j-1) (by omega) (by omega))⟩
                       case measure=>simp [intOf];omega)
                     |(at_end
                       go_roundw
                       case rel=>exact⟨k,s+1,rfl,by go_num,by omega,by omega,by omega,Lib.hid (hst4.out.drewN nq)⟩
                       case measure=>simp [intOf];omega))
                  |(at_end
                    go_roundw
                    case rel=>exact⟨k,s+1,rfl,by go_num,by omega,by omega,by omega,hst4⟩
                    case measure=>simp [intOf];omega))))
     · go_quiet (first|(go_at_call 143;refine Calls.quiet_of_same ((soLess_at _ _ _).mono fun _ _ h=>⟨h.1,h.2.symm⟩)))
       go_wp2
       go_ret
       exact⟨true,rfl,hst2.out.drewN _⟩
  · go_ret
    exact⟨false,rfl,hst.out⟩
end
end Go.Proofs.YthcmecokejemcaaGreatDoor
