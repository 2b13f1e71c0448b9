/-
  The seat's own texts, part xb: So1, So2.
-/
import Derived.Test.YthcmecokejemcaaGreatDoorWMxa
import Derived.WalkKit
import Derived.BigGuard
import Derived.BigCall
import Derived.CellFam
import Derived.Deep.Draws
import Derived.Deep.QuietTactic
import Derived.BigQuiet
import Derived.Deep.LoopGhost
set_option linter.unusedSimpArgs false
set_option linter.unusedVariables false
set_option maxHeartbeats 4000000
namespace Go.Proofs.YthcmecokejemcaaGreatDoor
open Go.RowKit Go.Shelf
section
variable {w:World} {blk off c:Nat} {zs0:List Nat} {A:World}
set_option maxRecDepth 100000 in
theorem soIns_at(h:SRow A w blk zs0)(ho:off=0)(a b:Nat)(hab:a≤b)(hb:b≤zs0.length)(hsz:zs0.length<4611686018427387904):
 Calls Tryz.prog 137 #[.slice (some ⟨blk,off,none⟩) zs0.length c, .int .i64 (a:Nat), .int .i64 (b:Nat)] w fun e w' =>e= .returned (.tuple #[])∧SRow A w' blk zs0:=by
 obtain⟨n,hn⟩: ∃n,n=zs0.length:=⟨_,rfl⟩
 rw [←hn] at hb hsz ⊢
 have hoH:=Lib.hid ho
 have hnH:=Lib.hid hn
 have hH:=Lib.hid h
 clear h ho hn
 go_enter Tryz.func137,Tryz.ntmps137
 go_wp2
 go_loopw [6] (fun vi wr=> ∃i:Nat,vi= .int .i64 i∧a<i∧i≤b+1∧Hid (SRow A wr blk zs0)) (fun vi _=>b+1-(intOf vi).toNat)
 case atStart=>exact⟨a+1,by go_num,by omega,by omega,hH⟩
 case round=>
  obtain⟨i,rfl,hai,hib,hr⟩:=hrel
  go_wp2
  · go_loopw [7] (fun vj wr2=> ∃j:Nat,vj= .int .i64 j∧a≤j∧j≤i∧Hid (SRow A wr2 blk zs0)) (fun vj _=>(intOf vj).toNat)
    case atStart=>exact⟨i,rfl,by omega,Nat.le_refl _,hr⟩
    case round=>
     obtain⟨j,rfl,haj,hji,hr2⟩:=hrel
     have hlt:i<b:=by assumption
     obtain⟨G,hcw,hfw,hsw⟩:=hr2.out.open off hoH.out
     rw [←hnH.out] at hcw hfw hsw
     go_wp2
     by_cases hja:a<j
     · go_quiet (first|(go_at_call 143;refine Calls.quiet_of_same ((soLess_at _ _ _).mono fun _ _ h=>⟨h.1,h.2.symm⟩)))
       go_wp2
       · go_region
         all_goals go_wp2
         go_roundw
         case rel=>exact⟨j-1,by congr 1;omega,by omega,by omega,Lib.hid (hsw.out (nq+1) j (j-1) (by omega) (by omega))⟩
         case measure=>simp [intOf];omega
       · go_roundw
         case rel=>exact⟨i+1,by go_num,by omega,by omega,Lib.hid (hr2.out.drewN nq)⟩
         case measure=>simp [intOf];omega
     · go_quiet (first|(go_at_call 143;refine Calls.quiet_of_same ((soLess_at _ _ _).mono fun _ _ h=>⟨h.1,h.2.symm⟩)))
       go_wp2
       go_roundw
       case rel=>exact⟨i+1,by go_num,by omega,by omega,Lib.hid (hr2.out.drewN nq)⟩
       case measure=>simp [intOf];omega
  · go_end0
    exact⟨rfl,hr.out⟩
set_option maxRecDepth 100000 in
theorem soSift_at(h:SRow A w blk zs0)(ho:off=0)(lo hi first:Nat)(hlo:lo≤hi)(hb:first+hi≤zs0.length)(hsz:zs0.length<4611686018427387904):
 Calls Tryz.prog 154 #[.slice (some ⟨blk,off,none⟩) zs0.length c, .int .i64 (lo:Nat), .int .i64 (hi:Nat), .int .i64 (first:Nat)] w fun e w' =>e= .returned (.tuple #[])∧SRow A w' blk zs0:=by
 obtain⟨n,hn⟩: ∃n,n=zs0.length:=⟨_,rfl⟩
 rw [←hn] at hb hsz ⊢
 have hoH:=Lib.hid ho
 have hnH:=Lib.hid hn
 have hH:=Lib.hid h
 clear h ho hn
 go_enter Tryz.func154,Tryz.ntmps154
 go_wp2
 go_loopg [8] (hi-lo) (fun k s8 wr=> ∃root:Nat,s8= .int .i64 root∧root≤hi∧hi-root≤k∧Hid (SRow A wr blk zs0))
 case atStart=>exact⟨lo,rfl,hlo,Nat.le_refl _,hH⟩
 case round=>
  obtain⟨root,rfl,hr,hk,hst⟩:=hrel
  obtain⟨G,hcw,hfw,hsw⟩:=hst.out.open off hoH.out
  rw [←hnH.out] at hcw hfw hsw
  by_cases h0:hi≤2*root+1
  · have h0z:(hi:Int)≤2*(root:Int)+1:=by omega
    go_wp2
    go_end0
    exact⟨rfl,hst.out⟩
  · have h0z: ¬((hi:Int)≤2*(root:Int)+1):=by omega
    by_cases h1:2*root+2<hi
    · have h1z:2*(root:Int)+1+1<(hi:Int):=by omega
      go_wp2_with fail
      go_big_quiet (first|(go_at_call 143;refine Calls.quiet_of_same ((soLess_at _ _ _).mono fun _ _ h=>⟨h.1,h.2.symm⟩)))
      go_wp2_with fail
      · have hr2:=Lib.hid (hst.out.drewN nq)
        revert nq
        intro nq1 hr2
        clear hcw hfw hsw hst
        generalize wr.drewN nq1=wr2 at hr2 ⊢
        obtain⟨G,hcw,hfw,hsw⟩:=hr2.out.open off hoH.out
        rw [←hnH.out] at hcw hfw hsw
        go_big_quiet (first|(go_at_call 143;refine Calls.quiet_of_same ((soLess_at _ _ _).mono fun _ _ h=>⟨h.1,h.2.symm⟩)))
        go_wp2_with fail
        · (try simp only [Exit.inBlock,Exit.then]);refine bodyPost_ret (results_none rfl _ _ _) rfl ?_
          exact⟨rfl,hr2.out.drewN nq⟩
        · have hr3:=Lib.hid (hr2.out.drewN nq)
          clear hcw hfw hsw hr2
          generalize wr2.drewN nq=wr3 at hr3 ⊢
          obtain⟨G,hcw,hfw,hsw⟩:=hr3.out.open off hoH.out
          rw [←hnH.out] at hcw hfw hsw
          go_region
          go_wp2
          go_roundg (hi-(2*root+2))
          case measure=>omega
          case rel=>exact⟨2*root+2,by simp<;>omega,by omega,Nat.le_refl _,Lib.hid (hsw.out 1 (first+root) (first+(2*root+2)) (by omega) (by omega))⟩
      · have hr2:=Lib.hid (hst.out.drewN nq)
        revert nq
        intro nq1 hr2
        clear hcw hfw hsw hst
        generalize wr.drewN nq1=wr2 at hr2 ⊢
        obtain⟨G,hcw,hfw,hsw⟩:=hr2.out.open off hoH.out
        rw [←hnH.out] at hcw hfw hsw
        go_big_quiet (first|(go_at_call 143;refine Calls.quiet_of_same ((soLess_at _ _ _).mono fun _ _ h=>⟨h.1,h.2.symm⟩)))
        go_wp2_with fail
        · (try simp only [Exit.inBlock,Exit.then]);refine bodyPost_ret (results_none rfl _ _ _) rfl ?_
          exact⟨rfl,hr2.out.drewN nq⟩
        · have hr3:=Lib.hid (hr2.out.drewN nq)
          clear hcw hfw hsw hr2
          generalize wr2.drewN nq=wr3 at hr3 ⊢
          obtain⟨G,hcw,hfw,hsw⟩:=hr3.out.open off hoH.out
          rw [←hnH.out] at hcw hfw hsw
          go_region
          go_wp2
          go_roundg (hi-(2*root+1))
          case measure=>omega
          case rel=>exact⟨2*root+1,by simp<;>omega,by omega,Nat.le_refl _,Lib.hid (hsw.out 1 (first+root) (first+(2*root+1)) (by omega) (by omega))⟩
    · have h1z:decide (2*(root:Int)+1+1<(hi:Int))=false:=decide_eq_false (by omega)
      go_wp2_with fail
      go_big_quiet (first|(go_at_call 143;refine Calls.quiet_of_same ((soLess_at _ _ _).mono fun _ _ h=>⟨h.1,h.2.symm⟩)))
      go_wp2_with fail
      have hr2:=Lib.hid (hst.out.drewN nq)
      revert nq
      intro nq1 hr2
      clear hcw hfw hsw hst
      generalize wr.drewN nq1=wr2 at hr2 ⊢
      obtain⟨G,hcw,hfw,hsw⟩:=hr2.out.open off hoH.out
      rw [←hnH.out] at hcw hfw hsw
      go_big_quiet (first|(go_at_call 143;refine Calls.quiet_of_same ((soLess_at _ _ _).mono fun _ _ h=>⟨h.1,h.2.symm⟩)))
      go_wp2_with fail
      · (try simp only [Exit.inBlock,Exit.then]);refine bodyPost_ret (results_none rfl _ _ _) rfl ?_
        exact⟨rfl,hr2.out.drewN nq⟩
      · have hr3:=Lib.hid (hr2.out.drewN nq)
        clear hcw hfw hsw hr2
        generalize wr2.drewN nq=wr3 at hr3 ⊢
        obtain⟨G,hcw,hfw,hsw⟩:=hr3.out.open off hoH.out
        rw [←hnH.out] at hcw hfw hsw
        go_region
        go_wp2
        go_roundg (hi-(2*root+1))
        case measure=>omega
        case rel=>exact⟨2*root+1,by simp<;>omega,by omega,Nat.le_refl _,Lib.hid (hsw.out 1 (first+root) (first+(2*root+1)) (by omega) (by omega))⟩
theorem half_start' {a b:Nat}(hab:a≤b):Int.tdiv ((b:Int)-(a:Int)-1) 2=(((b-a-1)/2+1:Nat):Int)-1:=by
 rcases Nat.eq_zero_or_pos (b-a) with h|h
 · have:(b:Int)-(a:Int)-1= -1:=by omega
   rw [this,h]
   decide
 · rw [Int.tdiv_eq_ediv_of_nonneg (by omega)]
   omega
set_option maxRecDepth 100000 in
theorem soHeap_at(h:SRow A w blk zs0)(ho:off=0)(a b:Nat)(hab:a≤b)(hb:b≤zs0.length)(hsz:zs0.length<4611686018427387904):
 Calls Tryz.prog 138 #[.slice (some ⟨blk,off,none⟩) zs0.length c, .int .i64 (a:Nat), .int .i64 (b:Nat)] w fun e w' =>e= .returned (.tuple #[])∧SRow A w' blk zs0:=by
 have hSift:Hid (∀(W:World) (lo hi:Nat),SRow A W blk zs0→lo≤hi→a+hi≤zs0.length→Calls Tryz.prog 154 #[.slice (some ⟨blk,off,none⟩) zs0.length c, .int .i64 (lo:Nat), .int .i64 (hi:Nat), .int .i64 (a:Nat)] W fun e w' =>e= .returned (.tuple #[])∧SRow A w' blk zs0):=Lib.hid fun W lo hi h1 h2 h3=>soSift_at h1 ho lo hi a h2 h3 hsz
 have ecast:((b-a:Nat):Int)=(b:Int)-(a:Int):=by omega
 obtain⟨n,hn⟩: ∃n,n=zs0.length:=⟨_,rfl⟩
 rw [←hn] at hb hsz ⊢
 have hoH:=Lib.hid ho
 have hnH:=Lib.hid hn
 have hH:=Lib.hid h
 clear h ho hn
 rw [←hnH.out] at hSift
 go_enter Tryz.func138,Tryz.ntmps138
 go_wp2
 go_loopg [9] ((b-a-1)/2+1) (fun k s9 wr=>s9= .int .i64 ((k:Int)-1)∧k≤(b-a-1)/2+1∧Hid (SRow A wr blk zs0))
 case atStart=>exact⟨by rw [half_start' hab],Nat.le_refl _,hH⟩
 case round=>
  obtain⟨rfl,hkk,hst⟩:=hrel
  cases gk with
  |zero=>
   clear hkk
   go_wp2
   go_loopg [10] (b-a) (fun k s10 wr2=>s10= .int .i64 ((k:Int)-1)∧k≤b-a∧Hid (SRow A wr2 blk zs0))
   case atStart=>exact⟨by rw [ecast],Nat.le_refl _,hst⟩
   case round=>
    obtain⟨rfl,hkk,hst2⟩:=hrel
    cases gk with
    |zero=>
     go_wp2
     go_end0
     exact⟨rfl,hst2.out⟩
    |succ k=>
     obtain⟨G,hcw,hfw,hsw⟩:=hst2.out.open off hoH.out
     rw [←hnH.out] at hcw hfw hsw
     rcases Nat.eq_zero_or_pos k with hk0|hkp
     · subst hk0
       go_wp2_with fail
       go_region
       go_wp2_with fail
       refine(hSift.out _ 0 0 (hsw.out 1 a a (by omega) (by omega)) (Nat.le_refl _) (by omega)).mono ?_
       rintro e w1 ⟨rfl,hw1⟩
       have hw1H:=Lib.hid hw1
       clear hw1
       go_wp2
       go_roundg 0
       case measure=>omega
       case rel=>exact⟨by simp,by omega,hw1H⟩
     · skip
       go_wp2_with fail
       go_region
       go_wp2_with fail
       refine(hSift.out _ 0 k (hsw.out 1 a (a+k) (by omega) (by omega)) (Nat.zero_le _) (by omega)).mono ?_
       rintro e w1 ⟨rfl,hw1⟩
       have hw1H:=Lib.hid hw1
       clear hw1
       go_wp2
       go_roundg k
       case measure=>omega
       case rel=>exact⟨by simp,by omega,hw1H⟩
  |succ k=>
   have hcall:=hSift.out wr k (b-a) hst.out (by omega) (by omega)
   rw [ecast] at hcall
   go_wp2_with fail
   refine hcall.mono ?_
   rintro e w1 ⟨rfl,hw1⟩
   have hw1H:=Lib.hid hw1
   clear hw1
   go_wp2
   go_roundg k
   case measure=>omega
   case rel=>exact⟨by simp,by omega,hw1H⟩
set_option maxRecDepth 100000 in
theorem soRev_at(h:SRow A w blk zs0)(ho:off=0)(a b:Nat)(hab:a≤b)(hb:b≤zs0.length)(hsz:zs0.length<4611686018427387904):
 Calls Tryz.prog 141 #[.slice (some ⟨blk,off,none⟩) zs0.length c, .int .i64 (a:Nat), .int .i64 (b:Nat)] w fun e w' =>e= .returned (.tuple #[])∧SRow A w' blk zs0:=by
 obtain⟨n,hn⟩: ∃n,n=zs0.length:=⟨_,rfl⟩
 rw [←hn] at hb hsz ⊢
 have hoH:=Lib.hid ho
 have hnH:=Lib.hid hn
 have hH:=Lib.hid h
 clear h ho hn
 go_enter Tryz.func141,Tryz.ntmps141
 go_wp2
 go_loopg [6,7] (b-a) (fun k s6 s7 wr=> ∃(i jn:Nat) (jz:Int),s6= .int .i64 i∧s7= .int .i64 jz∧((i:Int)<jz→jz=jn∧jn<n)∧(jz<4611686018427387904)∧(-1≤jz)∧i≤n+1∧jn-i≤k∧Hid (SRow A wr blk zs0))
 case atStart=>exact⟨a,b-1,(b:Int)-1,rfl,rfl,fun h=>⟨by omega,by omega⟩,by omega,by omega,by omega,by omega,hH⟩
 case round=>
  obtain⟨i,jn,jz,rfl,rfl,h1,hz1,hz2,hin,hk,hst⟩:=hrel
  by_cases hlt:(i:Int)<jz
  · obtain⟨rfl,hjn⟩:=h1 hlt
    have hij:i<jn:=by omega
    obtain⟨G,hcw,hfw,hsw⟩:=hst.out.open off hoH.out
    rw [←hnH.out] at hcw hfw hsw
    clear h1
    go_wp2_with fail
    go_region
    go_wp2
    go_roundg (jn-1-(i+1))
    case measure=>omega
    case rel=>exact⟨i+1,jn-1,(jn:Int)-1,by simp,rfl,fun h=>⟨by omega,by omega⟩,by omega,by omega,by omega,Nat.le_refl _,Lib.hid (hsw.out 1 i jn (by omega) (by omega))⟩
  · go_wp2
    go_end0
    exact⟨rfl,hst.out⟩
end
structure SRC(A W:World)(blk sb:Nat)(zs0:List Nat)(s:Nat):Prop where
 row:SRow A W blk zs0
 bx:Box W sb 3 [.int .i64 (s:Nat)]
 ge:A.heap.size≤sb
 ne:sb≠blk
section
variable {A W W' :World} {blk sb off c s:Nat} {zs0:List Nat}
theorem SRC.drewN(h:SRC A W blk sb zs0 s)(q:Nat):SRC A (W.drewN q) blk sb zs0 s:=⟨h.row.drewN q,h.bx.below (Tx.drewN_below W q),h.ge,h.ne⟩
theorem SRC.store(h:SRC A W blk sb zs0 s)(q t:Nat):SRC A ((W.drewN q).setCell ⟨sb,0,none⟩ (.int .i64 (t:Nat))) blk sb zs0 t:=by
 have h1:=h.drewN q
 refine⟨?_,h1.bx.set 0 _,h.ge,h.ne⟩
 obtain⟨zs,g1,⟨sp,g2⟩,g3⟩:=h1.row
 refine⟨zs,g1,⟨sp,g2.other (p:=⟨sb,0,none⟩) (Ne.symm h.ne) _⟩, ?_⟩
 refine⟨g3.os,g3.tape,g3.output,Nat.le_trans g3.size (by simp [World.setCell]),fun k hk hn=> ?_⟩
 exact(Below.heap_setCell _ ⟨sb,0,none⟩ _ k (by have:=h.ge;show k≠sb;omega)).trans (g3.block k hk hn)
set_option maxRecDepth 100000 in
theorem soOrd_at(h:SRC A W blk sb zs0 s)(ho:off=0)(a b:Nat)(ha:a<zs0.length)(hb:b<zs0.length)(hsz:zs0.length<4611686018427387904)(hs:s<1000):
 Calls Tryz.prog 171 #[.slice (some ⟨blk,off,none⟩) zs0.length c, .int .i64 (a:Nat), .int .i64 (b:Nat), .pointer (some ⟨sb,0,none⟩)] W fun e w' => ∃x y s' :Nat,e= .returned (.tuple #[.int .i64 (x:Nat), .int .i64 (y:Nat)])∧(x=a∧y=b∨x=b∧y=a)∧s' ≤s+1∧SRC A w' blk sb zs0 s' :=by
 obtain⟨n,hn⟩: ∃n,n=zs0.length:=⟨_,rfl⟩
 rw [←hn] at ha hb hsz ⊢
 have hoH:=Lib.hid ho
 have hnH:=Lib.hid hn
 have hH:=Lib.hid h
 obtain⟨G,hcw,hfw,hsw⟩:=h.row.open off hoH.out
 rw [←hnH.out] at hcw hfw hsw
 have cs:=h.bx.at' (i:=0) rfl
 have fs:=h.bx.free 0
 clear h ho hn
 go_enter Tryz.func171,Tryz.ntmps171
 go_wp2
 go_quiet (first|(go_at_call 143;refine Calls.quiet_of_same ((soLess_at _ _ _).mono fun _ _ h=>⟨h.1,h.2.symm⟩)))
 go_wp2
 · go_ret2
   exact⟨b,a,s+1,rfl, .inr ⟨rfl,rfl⟩,Nat.le_refl _,hH.out.store nq (s+1)⟩
 · go_ret2
   exact⟨a,b,s,rfl, .inl ⟨rfl,rfl⟩,by omega,hH.out.drewN nq⟩
set_option maxRecDepth 100000 in
theorem soMed_at(h:SRC A W blk sb zs0 s)(ho:off=0)(a b d:Nat)(ha:a<zs0.length)(hb:b<zs0.length)(hd:d<zs0.length)(hsz:zs0.length<4611686018427387904)(hs:s<900):
 Calls Tryz.prog 158 #[.slice (some ⟨blk,off,none⟩) zs0.length c, .int .i64 (a:Nat), .int .i64 (b:Nat), .int .i64 (d:Nat), .pointer (some ⟨sb,0,none⟩)] W fun e w' => ∃x s' :Nat,e= .returned (.int .i64 (x:Nat))∧(x=a∨x=b∨x=d)∧s' ≤s+3∧SRC A w' blk sb zs0 s' :=by
 have hO:Hid (∀(W:World) (s:Nat) (x y:Nat),SRC A W blk sb zs0 s→x<zs0.length→y<zs0.length→s<1000→Calls Tryz.prog 171 #[.slice (some ⟨blk,off,none⟩) zs0.length c, .int .i64 (x:Nat), .int .i64 (y:Nat), .pointer (some ⟨sb,0,none⟩)] W fun e w' => ∃x' y' s' :Nat,e= .returned (.tuple #[.int .i64 (x' :Nat), .int .i64 (y' :Nat)])∧(x' =x∧y' =y∨x' =y∧y' =x)∧s' ≤s+1∧SRC A w' blk sb zs0 s'):=Lib.hid fun W s x y h1 h2 h3 h4=>soOrd_at h1 ho x y h2 h3 hsz h4
 obtain⟨n,hn⟩: ∃n,n=zs0.length:=⟨_,rfl⟩
 rw [←hn] at ha hb hd hsz ⊢
 have hoH:=Lib.hid ho
 have hnH:=Lib.hid hn
 have hH:=Lib.hid h
 rw [←hnH.out] at hO
 clear h ho hn
 go_enter Tryz.func158,Tryz.ntmps158
 go_wp2_with fail
 refine(hO.out W s a b hH.out ha hb (by omega)).mono ?_
 rintro e w1 ⟨x1,y1,s1,rfl,h1,l1,hr1⟩
 have hr1H:=Lib.hid hr1
 have h1H:=Lib.hid (And.intro h1 l1)
 have hx1:x1<n:=by omega
 have hy1:y1<n:=by omega
 clear hr1 h1 l1
 go_wp2_with fail
 refine(hO.out w1 s1 y1 d hr1H.out hy1 hd (by have:=h1H.out.2;omega)).mono ?_
 rintro e w2 ⟨x2,y2,s2,rfl,h2,l2,hr2⟩
 have hr2H:=Lib.hid hr2
 have h2H:=Lib.hid (And.intro h2 l2)
 have hx2:x2<n:=by omega
 clear hr2 h2 l2
 go_wp2_with fail
 refine(hO.out w2 s2 x1 x2 hr2H.out hx1 hx2 (by have:=h1H.out.2;have:=h2H.out.2;omega)).mono ?_
 rintro e w3 ⟨x3,y3,s3,rfl,h3,l3,hr3⟩
 have hr3H:=Lib.hid hr3
 have h3H:=Lib.hid (And.intro h3 l3)
 clear hr3 h3 l3
 go_wp2
 go_ret
 have:=h1H.out
 have:=h2H.out
 have:=h3H.out
 exact⟨y3,s3,rfl,by omega,by omega,hr3H.out⟩
set_option maxRecDepth 100000 in
theorem soAdj_at(h:SRC A W blk sb zs0 s)(ho:off=0)(a:Nat)(ha0:1≤a)(ha:a+1<zs0.length)(hsz:zs0.length<4611686018427387904)(hs:s<900):
 Calls Tryz.prog 157 #[.slice (some ⟨blk,off,none⟩) zs0.length c, .int .i64 (a:Nat), .pointer (some ⟨sb,0,none⟩)] W fun e w' => ∃x s' :Nat,e= .returned (.int .i64 (x:Nat))∧(a≤x+1∧x≤a+1)∧s' ≤s+3∧SRC A w' blk sb zs0 s' :=by
 obtain⟨b,rfl⟩: ∃b,a=b+1:=⟨a-1,by omega⟩
 have hM:=soMed_at (c:=c) h ho b (b+1) (b+1+1) (by omega) (by omega) (by omega) hsz hs
 push_cast at hM
 have hMH:=Lib.hid hM
 have e1:(b:Int)+1-1=(b:Int):=by omega
 obtain⟨n,hn⟩: ∃n,n=zs0.length:=⟨_,rfl⟩
 rw [←hn] at hMH ha hsz ⊢
 clear h ho hn hM
 push_cast
 go_enter Tryz.func157,Tryz.ntmps157
 go_wp2_with fail
 refine hMH.out.mono ?_
 rintro e w1 ⟨x,s',rfl,h1,h2,h3⟩
 have hH:=Lib.hid (And.intro h1 (And.intro h2 h3))
 clear h1 h2 h3
 go_wp2
 go_ret
 have:=hH.out
 exact⟨x,s',rfl,by omega,this.2.1,this.2.2⟩
set_option maxRecDepth 100000 in
theorem soPiv_at(h:SRow A W blk zs0)(ho:off=0)(a b:Nat)(hab:a<b)(hb:b≤zs0.length)(hsz:zs0.length<4611686018427387904):
 Calls Tryz.prog 140 #[.slice (some ⟨blk,off,none⟩) zs0.length c, .int .i64 (a:Nat), .int .i64 (b:Nat)] W fun e w' => ∃(x:Nat) (hc:Nat),e= .returned (.tuple #[.int .i64 (x:Nat), .int .i64 (hc:Nat)])∧(a≤x∧x<b)∧hc≤2∧SRow A w' blk zs0:=by
 obtain⟨W0,hW0⟩: ∃V,V=W.alloc (.cells #[.int .i64 0] 3):=⟨_,rfl⟩
 obtain⟨sb,hsb⟩: ∃b,b=W.heap.size:=⟨_,rfl⟩
 have hb0:Below W.heap.size W W0:=by rw [hW0];exact(Below.refl _ W).alloc (Nat.le_refl _) _
 have hne:sb≠blk:=by have:=h.lt;omega
 have hge:A.heap.size≤sb:=by obtain⟨_,_,_,g⟩:=h;have:=g.size;omega
 have hC:SRC A W0 blk sb zs0 0:=⟨h.below hb0,by rw [hW0,hsb];exact Box.new W _ [.int .i64 0],hge,hne⟩
 have hM:Hid (∀(V:World) (s x y z:Nat),SRC A V blk sb zs0 s→x<zs0.length→y<zs0.length→z<zs0.length→s<900→Calls Tryz.prog 158 #[.slice (some ⟨blk,off,none⟩) zs0.length c, .int .i64 (x:Nat), .int .i64 (y:Nat), .int .i64 (z:Nat), .pointer (some ⟨sb,0,none⟩)] V fun e w' => ∃v s' :Nat,e= .returned (.int .i64 (v:Nat))∧(v=x∨v=y∨v=z)∧s' ≤s+3∧SRC A w' blk sb zs0 s'):=Lib.hid fun V s x y z h1 h2 h3 h4 h5=>soMed_at h1 ho x y z h2 h3 h4 hsz h5
 have hD:Hid (∀(V:World) (s x:Nat),SRC A V blk sb zs0 s→1≤x→x+1<zs0.length→s<900→Calls Tryz.prog 157 #[.slice (some ⟨blk,off,none⟩) zs0.length c, .int .i64 (x:Nat), .pointer (some ⟨sb,0,none⟩)] V fun e w' => ∃v s' :Nat,e= .returned (.int .i64 (v:Nat))∧(x≤v+1∧v≤x+1)∧s' ≤s+3∧SRC A w' blk sb zs0 s'):=Lib.hid fun V s x h1 h2 h3 h4=>soAdj_at h1 ho x h2 h3 hsz h4
 obtain⟨n,hn⟩: ∃n,n=zs0.length:=⟨_,rfl⟩
 rw [←hn] at hb hsz hM hD ⊢
 have hnH:=Lib.hid hn
 have hCH:=Lib.hid hC
 have hWH:=Lib.hid (And.intro hW0 hsb)
 obtain⟨I,hI⟩: ∃I:Nat,I=a+(b-a)/4*1:=⟨_,rfl⟩
 obtain⟨J,hJ⟩: ∃J:Nat,J=a+(b-a)/4*2:=⟨_,rfl⟩
 obtain⟨K,hK⟩: ∃K:Nat,K=a+(b-a)/4*3:=⟨_,rfl⟩
 have eI:((a:Int)+((b:Int)-(a:Int))/4)=(I:Int):=by omega
 have eJ:((a:Int)+((b:Int)-(a:Int))/4*2)=(J:Int):=by omega
 have eK:((a:Int)+((b:Int)-(a:Int))/4*3)=(K:Int):=by omega
 have hIJK:=Lib.hid (show(8≤b-a→a+2≤I∧I+2≤J∧J+2≤K∧K+2≤b)∧a≤J∧J<b from⟨fun _=>by omega,by omega,by omega⟩)
 clear h ho hn hW0 hsb hb0 hne hge hC hI hJ hK
 by_cases h8:b-a≥8
 · obtain⟨⟨g1,g2,g3,g4⟩,g5,g6⟩:(a+2≤I∧I+2≤J∧J+2≤K∧K+2≤b)∧a≤J∧J<b:=⟨hIJK.out.1 h8,hIJK.out.2⟩
   by_cases h50:b-a≥50
   · go_enter Tryz.func140,Tryz.ntmps140
     go_wp2_with fail
     rw [←hWH.out.1,←hWH.out.2]
     refine(hD.out W0 0 I hCH.out (by omega) (by omega) (by omega)).mono ?_
     rintro e w1 ⟨i1,s1,rfl,p1,q1,hr1⟩
     have hr1H:=Lib.hid hr1
     have pq1:=Lib.hid (And.intro p1 q1)
     clear hr1 p1 q1
     go_wp2_with fail
     refine(hD.out w1 s1 J hr1H.out (by omega) (by omega) (by have:=pq1.out;omega)).mono ?_
     rintro e w2 ⟨j1,s2,rfl,p2,q2,hr2⟩
     have hr2H:=Lib.hid hr2
     have pq2:=Lib.hid (And.intro p2 q2)
     clear hr2 p2 q2
     go_wp2_with fail
     refine(hD.out w2 s2 K hr2H.out (by omega) (by omega) (by have:=pq1.out;have:=pq2.out;omega)).mono ?_
     rintro e w3 ⟨k1,s3,rfl,p3,q3,hr3⟩
     have hr3H:=Lib.hid hr3
     have pq3:=Lib.hid (And.intro p3 q3)
     clear hr3 p3 q3
     go_wp2_with fail
     refine(hM.out w3 s3 i1 j1 k1 hr3H.out (by have:=pq1.out;omega) (by have:=pq2.out;omega) (by have:=pq3.out;omega) (by have:=pq1.out;have:=pq2.out;have:=pq3.out;omega)).mono ?_
     rintro e w4 ⟨p,s4,rfl,p4,q4,hr4⟩
     have cs:=hr4.bx.at' (i:=0) rfl
     have hr4H:=Lib.hid hr4
     have hp4:Hid (a≤p∧p<b):=Lib.hid (by have:=pq1.out;have:=pq2.out;have:=pq3.out;omega)
     clear hr4 p4 q4
     go_wp2
     all_goals
      go_ret2
      first
       |exact⟨p,1,rfl,hp4.out,by omega,hr4H.out.row⟩
       |exact⟨p,2,rfl,hp4.out,by omega,hr4H.out.row⟩
       |exact⟨p,0,rfl,hp4.out,by omega,hr4H.out.row⟩
   · go_enter Tryz.func140,Tryz.ntmps140
     go_wp2_with fail
     rw [←hWH.out.1,←hWH.out.2]
     refine(hM.out W0 0 I J K hCH.out (by omega) (by omega) (by omega) (by omega)).mono ?_
     rintro e w4 ⟨p,s4,rfl,p4,q4,hr4⟩
     have cs:=hr4.bx.at' (i:=0) rfl
     have hr4H:=Lib.hid hr4
     have hp4:Hid (a≤p∧p<b):=Lib.hid (by omega)
     clear hr4 p4 q4
     go_wp2
     all_goals
      go_ret2
      first
       |exact⟨p,1,rfl,hp4.out,by omega,hr4H.out.row⟩
       |exact⟨p,2,rfl,hp4.out,by omega,hr4H.out.row⟩
       |exact⟨p,0,rfl,hp4.out,by omega,hr4H.out.row⟩
 · have g5:=hIJK.out.2
   have cs:=hCH.out.bx.at' (i:=0) rfl
   rw [hWH.out.1,hWH.out.2] at cs
   go_enter Tryz.func140,Tryz.ntmps140
   go_wp2
   all_goals
    try rw [←hWH.out.1]
    go_ret2
    first
     |exact⟨J,1,rfl,g5,by omega,hCH.out.row⟩
     |exact⟨J,2,rfl,g5,by omega,hCH.out.row⟩
     |exact⟨J,0,rfl,g5,by omega,hCH.out.row⟩
end
end Go.Proofs.YthcmecokejemcaaGreatDoor
