/-
  The seat's own texts, part xc: So3.
-/
import Derived.Test.YthcmecokejemcaaGreatDoorWMxb
import Derived.RegionTactic
set_option linter.unusedSimpArgs false
set_option linter.unusedVariables false
set_option maxHeartbeats 4000000
namespace Go.Proofs.YthcmecokejemcaaGreatDoor
open Go.RowKit Go.Shelf
section
variable {A W W' w:World} {blk off c:Nat} {zs0:List Nat}
set_option maxRecDepth 100000 in
theorem soPE_at(h:SRow A W blk zs0)(ho:off=0)(a b pivot:Nat)(hap:a≤pivot)(hpb:pivot<b)(hb:b≤zs0.length)(hsz:zs0.length<4611686018427387904):
 Calls Tryz.prog 144 #[.slice (some ⟨blk,off,none⟩) zs0.length c, .int .i64 (a:Nat), .int .i64 (b:Nat), .int .i64 (pivot:Nat)] W fun e w' => ∃x:Nat,e= .returned (.int .i64 (x:Nat))∧(a<x∧x≤b)∧SRow A w' blk zs0:=by
 obtain⟨n,hn⟩: ∃n,n=zs0.length:=⟨_,rfl⟩
 rw [←hn] at hb hsz ⊢
 have hoH:=Lib.hid ho
 have hnH:=Lib.hid hn
 have hla:a<n:=by omega
 have hlp:pivot<n:=by omega
 obtain⟨G,hcw,hfw,hsw⟩:=h.open off hoH.out
 rw [←hnH.out] at hcw hfw hsw
 have ca:=hcw a hla
 have fa:=hfw a hla
 have cp:=hcw pivot hlp
 have fp:=hfw pivot hlp
 obtain⟨v',hy'⟩:=cell?_setCell_some (w:=W) (p:=⟨blk,off+a,none⟩) (x:= .int .u64 (G pivot:Nat)) (q:=⟨blk,off+pivot,none⟩) cp
 clear hcw hfw h ho hn
 go_enter Tryz.func144,Tryz.ntmps144
 go_wp2
 go_region
 go_wp2
 go_loopw [9,10] (fun vi vj wr=> ∃i j:Nat,vi= .int .i64 i∧vj= .int .i64 j∧a<i∧i≤j+1∧j<b∧Hid (SRow A wr blk zs0)) (fun vi vj _=>(intOf vj).toNat+1-(intOf vi).toNat)
 case atStart=>exact⟨a+1,b-1,by go_num,by go_num,by omega,by omega,by omega,Lib.hid (hsw.out 1 a pivot hla hlp)⟩
 case round=>
  obtain⟨i,j,rfl,rfl,hai,hij,hjb,hst⟩:=hrel
  clear ca fa cp fp hy' v' hsw
  rename World=>W1
  obtain⟨G,hc,hf,hsw⟩:=hst.out.open off hoH.out
  rw [←hnH.out] at hc hf hsw
  go_wp2
  go_loopw [9] (fun vi w1=> ∃(i' n1:Nat),vi= .int .i64 i' ∧i≤i' ∧i' ≤j+1∧w1=W1.drewN n1) (fun vi _=>j+1-(intOf vi).toNat)
  case atStart=>exact⟨i,0,rfl,Nat.le_refl _,hij,rfl⟩
  case round=>
   obtain⟨i',n1,rfl,hii,hij',hw1⟩:=hrel
   have hcw: ∀t,t<n→wr.cell? ⟨blk,off+t,none⟩=some (.int .u64 (G t:Nat)):=fun t ht=>by rw [hw1];exact hc t ht
   have HW1:Hid (wr=W1.drewN n1):=Lib.hid hw1
   clear hw1
   by_cases hle:i' ≤j
   · go_wp2_with fail
     go_big_quiet (first|(go_at_call 143;refine Calls.quiet_of_same ((soLess_at _ _ _).mono fun _ _ h=>⟨h.1,h.2.symm⟩)))
     go_wp2
     · go_roundw
       case rel=>exact⟨i' +1,n1+nq,by go_num,by omega,by omega,by rw [HW1.out,World.drewN_drewN]⟩
       case measure=>simp [intOf];omega
     · have ht1:Hid (G a<G i'):=Lib.hid (by
        first
         |assumption
         |(have h9:(!decide (G a<G i'))=false:=by assumption
           simpa using h9))
       have hw2:wr.drewN nq=W1.drewN (n1+nq):=by rw [HW1.out,World.drewN_drewN]
       clear hcw HW1
       go_loopw [10] (fun vj w2=> ∃(j' n2:Nat),vj= .int .i64 j' ∧j' ≤j∧i' ≤j' +1∧w2=W1.drewN n2) (fun vj _=>(intOf vj).toNat)
       case atStart=>exact⟨j,n1+nq,rfl,Nat.le_refl _,hij',hw2⟩
       case round=>
        clear hw2
        obtain⟨j',n2,rfl,hjj,hij2,hw2⟩:=hrel
        have hcw: ∀t,t<n→wr.cell? ⟨blk,off+t,none⟩=some (.int .u64 (G t:Nat)):=fun t ht=>by rw [hw2];exact hc t ht
        have HW2:Hid (wr=W1.drewN n2):=Lib.hid hw2
        clear hw2
        by_cases hle2:i' ≤j'
        · go_wp2_with fail
          go_big_quiet (first|(go_at_call 143;refine Calls.quiet_of_same ((soLess_at _ _ _).mono fun _ _ h=>⟨h.1,h.2.symm⟩)))
          go_wp2
          · have hlt0:=hle2
            go_roundw
            case rel=>exact⟨j' -1,n2+nq,by go_num,by omega,by omega,by rw [HW2.out,World.drewN_drewN]⟩
            case measure=>simp [intOf];omega
          · have ht2: ¬G a<G j' :=by
             first
              |assumption
              |(have h9:decide (G a<G j')=false:=by assumption
                simpa using h9)
            have hne:i' ≠j' :=by
             rintro rfl
             exact ht2 ht1.out
            have hlt3:i' <j' :=by omega
            clear ht2 hne
            have hw3:wr.drewN nq=W1.drewN (n2+nq):=by rw [HW2.out,World.drewN_drewN]
            clear hcw
            generalize wr.drewN nq=W3 at hw3 ⊢
            have hc3: ∀t,t<n→W3.cell? ⟨blk,off+t,none⟩=some (.int .u64 (G t:Nat)):=fun t ht=>by rw [hw3];exact hc t ht
            have hf3: ∀t,t<n→W3.frozen? ⟨blk,off+t,none⟩=false:=fun t ht=>by rw [hw3];exact hf t ht
            have HW3:Hid (W3=W1.drewN (n2+nq)):=Lib.hid hw3
            clear hw3 HW2
            obtain⟨v3,hy3⟩:=cell?_setCell_some (w:=W3) (p:=⟨blk,off+i',none⟩) (x:= .int .u64 (G j' :Nat)) (q:=⟨blk,off+j',none⟩) (hc3 j' (by omega))
            go_wp2
            go_region
            all_goals go_wp2
            all_goals go_roundw
            case rel=>exact⟨i' +1,j' -1,by go_num,by go_num,by omega,by omega,by omega,Lib.hid (by rw [HW3.out];have h9:=hsw.out (n2+nq+1) i' j' (by omega) (by omega);exact h9)⟩
            case measure=>simp [intOf];omega
        · go_wp2_with fail
          go_big_quiet (first|(go_at_call 143;refine Calls.quiet_of_same ((soLess_at _ _ _).mono fun _ _ h=>⟨h.1,h.2.symm⟩)))
          have hw3:wr.drewN nq=W1.drewN (n2+nq):=by rw [HW2.out,World.drewN_drewN]
          clear hcw
          generalize wr.drewN nq=W3 at hw3 ⊢
          have hc3: ∀t,t<n→W3.cell? ⟨blk,off+t,none⟩=some (.int .u64 (G t:Nat)):=fun t ht=>by rw [hw3];exact hc t ht
          have hf3: ∀t,t<n→W3.frozen? ⟨blk,off+t,none⟩=false:=fun t ht=>by rw [hw3];exact hf t ht
          have HW3:Hid (W3=W1.drewN (n2+nq)):=Lib.hid hw3
          clear hw3 HW2
          go_wp2
          go_ret
          exact⟨i',rfl,⟨by omega,by omega⟩,by rw [HW3.out];exact hst.out.drewN _⟩
   · go_wp2_with fail
     go_big_quiet (first|(go_at_call 143;refine Calls.quiet_of_same ((soLess_at _ _ _).mono fun _ _ h=>⟨h.1,h.2.symm⟩)))
     go_wp2
     have hw2:wr.drewN nq=W1.drewN (n1+nq):=by rw [HW1.out,World.drewN_drewN]
     clear hcw HW1
     go_loopw [10] (fun vj w2=> ∃(j' n2:Nat),vj= .int .i64 j' ∧j' ≤j∧i' ≤j' +1∧w2=W1.drewN n2) (fun vj _=>(intOf vj).toNat)
     case atStart=>exact⟨j,n1+nq,rfl,Nat.le_refl _,hij',hw2⟩
     case round=>
      clear hw2
      obtain⟨j',n2,rfl,hjj,hij2,hw2⟩:=hrel
      have hcw: ∀t,t<n→wr.cell? ⟨blk,off+t,none⟩=some (.int .u64 (G t:Nat)):=fun t ht=>by rw [hw2];exact hc t ht
      have HW2:Hid (wr=W1.drewN n2):=Lib.hid hw2
      clear hw2
      by_cases hle2:i' ≤j'
      · exfalso;omega
      · go_wp2_with fail
        go_big_quiet (first|(go_at_call 143;refine Calls.quiet_of_same ((soLess_at _ _ _).mono fun _ _ h=>⟨h.1,h.2.symm⟩)))
        have hw3:wr.drewN nq=W1.drewN (n2+nq):=by rw [HW2.out,World.drewN_drewN]
        clear hcw
        generalize wr.drewN nq=W3 at hw3 ⊢
        have hc3: ∀t,t<n→W3.cell? ⟨blk,off+t,none⟩=some (.int .u64 (G t:Nat)):=fun t ht=>by rw [hw3];exact hc t ht
        have hf3: ∀t,t<n→W3.frozen? ⟨blk,off+t,none⟩=false:=fun t ht=>by rw [hw3];exact hf t ht
        have HW3:Hid (W3=W1.drewN (n2+nq)):=Lib.hid hw3
        clear hw3 HW2
        go_wp2
        go_ret
        exact⟨i',rfl,⟨by omega,by omega⟩,by rw [HW3.out];exact hst.out.drewN _⟩
set_option maxRecDepth 100000 in
theorem soPart_at(h:SRow A W blk zs0)(ho:off=0)(a b pivot:Nat)(hap:a≤pivot)(hpb:pivot<b)(hb:b≤zs0.length)(hsz:zs0.length<4611686018427387904):
 Calls Tryz.prog 145 #[.slice (some ⟨blk,off,none⟩) zs0.length c, .int .i64 (a:Nat), .int .i64 (b:Nat), .int .i64 (pivot:Nat)] W fun e w' => ∃(x:Nat) (t:Bool),e= .returned (.tuple #[.int .i64 (x:Nat), .bool t])∧(a≤x∧x<b)∧SRow A w' blk zs0:=by
 obtain⟨n,hn⟩: ∃n,n=zs0.length:=⟨_,rfl⟩
 rw [←hn] at hb hsz ⊢
 have hoH:=Lib.hid ho
 have hnH:=Lib.hid hn
 have hla:a<n:=by omega
 have hlp:pivot<n:=by omega
 obtain⟨G,hcw,hfw,hsw⟩:=h.open off hoH.out
 rw [←hnH.out] at hcw hfw hsw
 have ca:=hcw a hla
 have fa:=hfw a hla
 have cp:=hcw pivot hlp
 have fp:=hfw pivot hlp
 obtain⟨v',hy'⟩:=cell?_setCell_some (w:=W) (p:=⟨blk,off+a,none⟩) (x:= .int .u64 (G pivot:Nat)) (q:=⟨blk,off+pivot,none⟩) cp
 clear hcw hfw h ho hn
 have HW0:=Lib.hid (hsw.out 1 a pivot hla hlp)
 go_enter Tryz.func145,Tryz.ntmps145
 go_wp2
 go_region
 go_wp2
 have hst:=HW0.out
 clear HW0 ca fa cp fp hy' v' hsw
 have e0:((W.setCell ⟨blk,off+a,none⟩ (.int .u64 (G pivot:Nat))).setCell ⟨blk,off+pivot,none⟩ (.int .u64 (G a:Nat))).drew=(((W.drewN 1).setCell ⟨blk,off+a,none⟩ (.int .u64 (G pivot:Nat))).setCell ⟨blk,off+pivot,none⟩ (.int .u64 (G a:Nat))):=rfl
 rw [←e0] at hst
 clear e0
 generalize ((W.setCell ⟨blk,off+a,none⟩ (.int .u64 (G pivot:Nat))).setCell ⟨blk,off+pivot,none⟩ (.int .u64 (G a:Nat))).drew=W1 at hst ⊢
 have hst:=Lib.hid hst
 obtain⟨G,hc,hf,hsw⟩:=hst.out.open off hoH.out
 rw [←hnH.out] at hc hf hsw
 have e1:((a:Int)+1)=((a+1:Nat):Int):=by omega
 have e2:((b:Int)-1)=((b-1:Nat):Int):=by omega
 rw [e1,e2]
 clear e1 e2
 obtain⟨i,hi⟩: ∃i,i=a+1:=⟨_,rfl⟩
 obtain⟨j,hj⟩: ∃j,j=b-1:=⟨_,rfl⟩
 rw [←hi,←hj]
 have hai:a<i:=by omega
 have hij:i≤j+1:=by omega
 have hjb:j<b:=by omega
 clear hi hj
 go_loopw [10] (fun vi w1=> ∃(i' n1:Nat),vi= .int .i64 i' ∧i≤i' ∧i' ≤j+1∧w1=W1.drewN n1) (fun vi _=>j+1-(intOf vi).toNat)
 case atStart=>exact⟨i,0,rfl,Nat.le_refl _,hij,rfl⟩
 case round=>
  obtain⟨i',n1,rfl,hii,hij',hw1⟩:=hrel
  have hcw: ∀t,t<n→wr.cell? ⟨blk,off+t,none⟩=some (.int .u64 (G t:Nat)):=fun t ht=>by rw [hw1];exact hc t ht
  have HW1:Hid (wr=W1.drewN n1):=Lib.hid hw1
  clear hw1
  by_cases hle:i' ≤j
  · go_wp2_with fail
    go_big_quiet (first|(go_at_call 143;refine Calls.quiet_of_same ((soLess_at _ _ _).mono fun _ _ h=>⟨h.1,h.2.symm⟩)))
    go_wp2
    · go_roundw
      case rel=>exact⟨i' +1,n1+nq,by go_num,by omega,by omega,by rw [HW1.out,World.drewN_drewN]⟩
      case measure=>simp [intOf];omega
    · have ht1:Hid (¬G i' <G a):=Lib.hid (by
       first
        |assumption
        |(have h9:decide (G i' <G a)=false:=by assumption
          simpa using h9))
      have hw2:wr.drewN nq=W1.drewN (n1+nq):=by rw [HW1.out,World.drewN_drewN]
      clear hcw HW1
      go_loopw [11] (fun vj w2=> ∃(j' n2:Nat),vj= .int .i64 j' ∧j' ≤j∧i' ≤j' +1∧w2=W1.drewN n2) (fun vj _=>(intOf vj).toNat)
      case atStart=>exact⟨j,n1+nq,rfl,Nat.le_refl _,hij',hw2⟩
      case round=>
       clear hw2
       obtain⟨j',n2,rfl,hjj,hij2,hw2⟩:=hrel
       have hcw: ∀t,t<n→wr.cell? ⟨blk,off+t,none⟩=some (.int .u64 (G t:Nat)):=fun t ht=>by rw [hw2];exact hc t ht
       have HW2:Hid (wr=W1.drewN n2):=Lib.hid hw2
       clear hw2
       by_cases hle2:i' ≤j'
       · go_wp2_with fail
         go_big_quiet (first|(go_at_call 143;refine Calls.quiet_of_same ((soLess_at _ _ _).mono fun _ _ h=>⟨h.1,h.2.symm⟩)))
         go_wp2
         · have hlt0:=hle2
           go_roundw
           case rel=>exact⟨j' -1,n2+nq,by go_num,by omega,by omega,by rw [HW2.out,World.drewN_drewN]⟩
           case measure=>simp [intOf];omega
         · have ht2:G j' <G a:=by
            first
             |assumption
             |(have h9:(!decide (G j' <G a))=false:=by assumption
               simpa using h9)
           have hne:i' ≠j' :=by
            rintro rfl
            exact ht1.out ht2
           have hlt3:i' <j' :=by omega
           clear ht2 hne
           have hw3:wr.drewN nq=W1.drewN (n2+nq):=by rw [HW2.out,World.drewN_drewN]
           clear hcw
           generalize wr.drewN nq=W3 at hw3 ⊢
           have hc3: ∀t,t<n→W3.cell? ⟨blk,off+t,none⟩=some (.int .u64 (G t:Nat)):=fun t ht=>by rw [hw3];exact hc t ht
           have hf3: ∀t,t<n→W3.frozen? ⟨blk,off+t,none⟩=false:=fun t ht=>by rw [hw3];exact hf t ht
           have HW3:Hid (W3=W1.drewN (n2+nq)):=Lib.hid hw3
           clear hw3 HW2
           obtain⟨v3,hy3⟩:=cell?_setCell_some (w:=W3) (p:=⟨blk,off+i',none⟩) (x:= .int .u64 (G j' :Nat)) (q:=⟨blk,off+j',none⟩) (hc3 j' (by omega))
           go_wp2
           go_region
           all_goals go_wp2
           go_loopw [10,11] (fun vi vj wr=> ∃i j:Nat,vi= .int .i64 i∧vj= .int .i64 j∧a<i∧i≤j+1∧j<b∧Hid (SRow A wr blk zs0)) (fun vi vj _=>(intOf vj).toNat+1-(intOf vi).toNat)
           case atStart=>exact⟨i' +1,j' -1,by go_num,by go_num,by omega,by omega,by omega,Lib.hid (by rw [HW3.out];have h9:=hsw.out (n2+nq+1) i' j' (by omega) (by omega);exact h9)⟩
           case round=>
            obtain⟨i,j,rfl,rfl,hai,hij,hjb,hst⟩:=hrel
            clear hc hf hsw hc3 hf3 hy3 HW3 ht1
            rename World=>W1
            obtain⟨G,hc,hf,hsw⟩:=hst.out.open off hoH.out
            rw [←hnH.out] at hc hf hsw
            go_wp2
            go_loopw [10] (fun vi w1=> ∃(i' n1:Nat),vi= .int .i64 i' ∧i≤i' ∧i' ≤j+1∧w1=W1.drewN n1) (fun vi _=>j+1-(intOf vi).toNat)
            case atStart=>exact⟨i,0,rfl,Nat.le_refl _,hij,rfl⟩
            case round=>
             obtain⟨i',n1,rfl,hii,hij',hw1⟩:=hrel
             have hcw: ∀t,t<n→wr.cell? ⟨blk,off+t,none⟩=some (.int .u64 (G t:Nat)):=fun t ht=>by rw [hw1];exact hc t ht
             have HW1:Hid (wr=W1.drewN n1):=Lib.hid hw1
             clear hw1
             by_cases hle:i' ≤j
             · go_wp2_with fail
               go_big_quiet (first|(go_at_call 143;refine Calls.quiet_of_same ((soLess_at _ _ _).mono fun _ _ h=>⟨h.1,h.2.symm⟩)))
               go_wp2
               · go_roundw
                 case rel=>exact⟨i' +1,n1+nq,by go_num,by omega,by omega,by rw [HW1.out,World.drewN_drewN]⟩
                 case measure=>simp [intOf];omega
               · have ht1:Hid (¬G i' <G a):=Lib.hid (by
                  first
                   |assumption
                   |(have h9:decide (G i' <G a)=false:=by assumption
                     simpa using h9))
                 have hw2:wr.drewN nq=W1.drewN (n1+nq):=by rw [HW1.out,World.drewN_drewN]
                 clear hcw HW1
                 go_loopw [11] (fun vj w2=> ∃(j' n2:Nat),vj= .int .i64 j' ∧j' ≤j∧i' ≤j' +1∧w2=W1.drewN n2) (fun vj _=>(intOf vj).toNat)
                 case atStart=>exact⟨j,n1+nq,rfl,Nat.le_refl _,hij',hw2⟩
                 case round=>
                  clear hw2
                  obtain⟨j',n2,rfl,hjj,hij2,hw2⟩:=hrel
                  have hcw: ∀t,t<n→wr.cell? ⟨blk,off+t,none⟩=some (.int .u64 (G t:Nat)):=fun t ht=>by rw [hw2];exact hc t ht
                  have HW2:Hid (wr=W1.drewN n2):=Lib.hid hw2
                  clear hw2
                  by_cases hle2:i' ≤j'
                  · go_wp2_with fail
                    go_big_quiet (first|(go_at_call 143;refine Calls.quiet_of_same ((soLess_at _ _ _).mono fun _ _ h=>⟨h.1,h.2.symm⟩)))
                    go_wp2
                    · have hlt0:=hle2
                      go_roundw
                      case rel=>exact⟨j' -1,n2+nq,by go_num,by omega,by omega,by rw [HW2.out,World.drewN_drewN]⟩
                      case measure=>simp [intOf];omega
                    · have ht2:G j' <G a:=by
                       first
                        |assumption
                        |(have h9:(!decide (G j' <G a))=false:=by assumption
                          simpa using h9)
                      have hne:i' ≠j' :=by
                       rintro rfl
                       exact ht1.out ht2
                      have hlt3:i' <j' :=by omega
                      clear ht2 hne
                      have hw3:wr.drewN nq=W1.drewN (n2+nq):=by rw [HW2.out,World.drewN_drewN]
                      clear hcw
                      generalize wr.drewN nq=W3 at hw3 ⊢
                      have hc3: ∀t,t<n→W3.cell? ⟨blk,off+t,none⟩=some (.int .u64 (G t:Nat)):=fun t ht=>by rw [hw3];exact hc t ht
                      have hf3: ∀t,t<n→W3.frozen? ⟨blk,off+t,none⟩=false:=fun t ht=>by rw [hw3];exact hf t ht
                      have HW3:Hid (W3=W1.drewN (n2+nq)):=Lib.hid hw3
                      clear hw3 HW2
                      obtain⟨v3,hy3⟩:=cell?_setCell_some (w:=W3) (p:=⟨blk,off+i',none⟩) (x:= .int .u64 (G j' :Nat)) (q:=⟨blk,off+j',none⟩) (hc3 j' (by omega))
                      go_wp2
                      go_region
                      all_goals go_wp2
                      all_goals go_roundw
                      case rel=>exact⟨i' +1,j' -1,by go_num,by go_num,by omega,by omega,by omega,Lib.hid (by rw [HW3.out];have h9:=hsw.out (n2+nq+1) i' j' (by omega) (by omega);exact h9)⟩
                      case measure=>simp [intOf];omega
                  · go_wp2_with fail
                    go_big_quiet (first|(go_at_call 143;refine Calls.quiet_of_same ((soLess_at _ _ _).mono fun _ _ h=>⟨h.1,h.2.symm⟩)))
                    have hw3:wr.drewN nq=W1.drewN (n2+nq):=by rw [HW2.out,World.drewN_drewN]
                    clear hcw
                    generalize wr.drewN nq=W3 at hw3 ⊢
                    have hc3: ∀t,t<n→W3.cell? ⟨blk,off+t,none⟩=some (.int .u64 (G t:Nat)):=fun t ht=>by rw [hw3];exact hc t ht
                    have hf3: ∀t,t<n→W3.frozen? ⟨blk,off+t,none⟩=false:=fun t ht=>by rw [hw3];exact hf t ht
                    have HW3:Hid (W3=W1.drewN (n2+nq)):=Lib.hid hw3
                    clear hw3 HW2
                    obtain⟨v3,hy3⟩:=cell?_setCell_some (w:=W3) (p:=⟨blk,off+j',none⟩) (x:= .int .u64 (G a:Nat)) (q:=⟨blk,off+a,none⟩) (hc3 a (by omega))
                    have hlj:j' <n:=by omega
                    go_wp2
                    go_region
                    all_goals go_wp2
                    all_goals go_ret2
                    exact⟨j',false,rfl,⟨by omega,by omega⟩,by rw [HW3.out];have h9:=hsw.out (n2+nq+1) j' a (by omega) (by omega);exact h9⟩
             · go_wp2_with fail
               go_big_quiet (first|(go_at_call 143;refine Calls.quiet_of_same ((soLess_at _ _ _).mono fun _ _ h=>⟨h.1,h.2.symm⟩)))
               go_wp2
               have hw2:wr.drewN nq=W1.drewN (n1+nq):=by rw [HW1.out,World.drewN_drewN]
               clear hcw HW1
               go_loopw [11] (fun vj w2=> ∃(j' n2:Nat),vj= .int .i64 j' ∧j' ≤j∧i' ≤j' +1∧w2=W1.drewN n2) (fun vj _=>(intOf vj).toNat)
               case atStart=>exact⟨j,n1+nq,rfl,Nat.le_refl _,hij',hw2⟩
               case round=>
                clear hw2
                obtain⟨j',n2,rfl,hjj,hij2,hw2⟩:=hrel
                have hcw: ∀t,t<n→wr.cell? ⟨blk,off+t,none⟩=some (.int .u64 (G t:Nat)):=fun t ht=>by rw [hw2];exact hc t ht
                have HW2:Hid (wr=W1.drewN n2):=Lib.hid hw2
                clear hw2
                by_cases hle2:i' ≤j'
                · exfalso;omega
                · go_wp2_with fail
                  go_big_quiet (first|(go_at_call 143;refine Calls.quiet_of_same ((soLess_at _ _ _).mono fun _ _ h=>⟨h.1,h.2.symm⟩)))
                  have hw3:wr.drewN nq=W1.drewN (n2+nq):=by rw [HW2.out,World.drewN_drewN]
                  clear hcw
                  generalize wr.drewN nq=W3 at hw3 ⊢
                  have hc3: ∀t,t<n→W3.cell? ⟨blk,off+t,none⟩=some (.int .u64 (G t:Nat)):=fun t ht=>by rw [hw3];exact hc t ht
                  have hf3: ∀t,t<n→W3.frozen? ⟨blk,off+t,none⟩=false:=fun t ht=>by rw [hw3];exact hf t ht
                  have HW3:Hid (W3=W1.drewN (n2+nq)):=Lib.hid hw3
                  clear hw3 HW2
                  obtain⟨v3,hy3⟩:=cell?_setCell_some (w:=W3) (p:=⟨blk,off+j',none⟩) (x:= .int .u64 (G a:Nat)) (q:=⟨blk,off+a,none⟩) (hc3 a (by omega))
                  have hlj:j' <n:=by omega
                  go_wp2
                  go_region
                  all_goals go_wp2
                  all_goals go_ret2
                  exact⟨j',false,rfl,⟨by omega,by omega⟩,by rw [HW3.out];have h9:=hsw.out (n2+nq+1) j' a (by omega) (by omega);exact h9⟩
       · go_wp2_with fail
         go_big_quiet (first|(go_at_call 143;refine Calls.quiet_of_same ((soLess_at _ _ _).mono fun _ _ h=>⟨h.1,h.2.symm⟩)))
         have hw3:wr.drewN nq=W1.drewN (n2+nq):=by rw [HW2.out,World.drewN_drewN]
         clear hcw
         generalize wr.drewN nq=W3 at hw3 ⊢
         have hc3: ∀t,t<n→W3.cell? ⟨blk,off+t,none⟩=some (.int .u64 (G t:Nat)):=fun t ht=>by rw [hw3];exact hc t ht
         have hf3: ∀t,t<n→W3.frozen? ⟨blk,off+t,none⟩=false:=fun t ht=>by rw [hw3];exact hf t ht
         have HW3:Hid (W3=W1.drewN (n2+nq)):=Lib.hid hw3
         clear hw3 HW2
         obtain⟨v3,hy3⟩:=cell?_setCell_some (w:=W3) (p:=⟨blk,off+j',none⟩) (x:= .int .u64 (G a:Nat)) (q:=⟨blk,off+a,none⟩) (hc3 a (by omega))
         have hlj:j' <n:=by omega
         go_wp2
         go_region
         all_goals go_wp2
         all_goals go_ret2
         exact⟨j',true,rfl,⟨by omega,by omega⟩,by rw [HW3.out];have h9:=hsw.out (n2+nq+1) j' a (by omega) (by omega);exact h9⟩
  · go_wp2_with fail
    go_big_quiet (first|(go_at_call 143;refine Calls.quiet_of_same ((soLess_at _ _ _).mono fun _ _ h=>⟨h.1,h.2.symm⟩)))
    go_wp2
    have hw2:wr.drewN nq=W1.drewN (n1+nq):=by rw [HW1.out,World.drewN_drewN]
    clear hcw HW1
    go_loopw [11] (fun vj w2=> ∃(j' n2:Nat),vj= .int .i64 j' ∧j' ≤j∧i' ≤j' +1∧w2=W1.drewN n2) (fun vj _=>(intOf vj).toNat)
    case atStart=>exact⟨j,n1+nq,rfl,Nat.le_refl _,hij',hw2⟩
    case round=>
     clear hw2
     obtain⟨j',n2,rfl,hjj,hij2,hw2⟩:=hrel
     have hcw: ∀t,t<n→wr.cell? ⟨blk,off+t,none⟩=some (.int .u64 (G t:Nat)):=fun t ht=>by rw [hw2];exact hc t ht
     have HW2:Hid (wr=W1.drewN n2):=Lib.hid hw2
     clear hw2
     by_cases hle2:i' ≤j'
     · exfalso;omega
     · go_wp2_with fail
       go_big_quiet (first|(go_at_call 143;refine Calls.quiet_of_same ((soLess_at _ _ _).mono fun _ _ h=>⟨h.1,h.2.symm⟩)))
       have hw3:wr.drewN nq=W1.drewN (n2+nq):=by rw [HW2.out,World.drewN_drewN]
       clear hcw
       generalize wr.drewN nq=W3 at hw3 ⊢
       have hc3: ∀t,t<n→W3.cell? ⟨blk,off+t,none⟩=some (.int .u64 (G t:Nat)):=fun t ht=>by rw [hw3];exact hc t ht
       have hf3: ∀t,t<n→W3.frozen? ⟨blk,off+t,none⟩=false:=fun t ht=>by rw [hw3];exact hf t ht
       have HW3:Hid (W3=W1.drewN (n2+nq)):=Lib.hid hw3
       clear hw3 HW2
       obtain⟨v3,hy3⟩:=cell?_setCell_some (w:=W3) (p:=⟨blk,off+j',none⟩) (x:= .int .u64 (G a:Nat)) (q:=⟨blk,off+a,none⟩) (hc3 a (by omega))
       have hlj:j' <n:=by omega
       go_wp2
       go_region
       all_goals go_wp2
       all_goals go_ret2
       exact⟨j',true,rfl,⟨by omega,by omega⟩,by rw [HW3.out];have h9:=hsw.out (n2+nq+1) j' a (by omega) (by omega);exact h9⟩
end
end Go.Proofs.YthcmecokejemcaaGreatDoor
