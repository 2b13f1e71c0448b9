/-
  The seat's own texts, part xe: So5, So6, So7, So8.
-/
import Derived.Test.YthcmecokejemcaaGreatDoorWMxd
import Derived.Sort.Walk7a
import Derived.Shelf.Small.Bits
import Derived.Ground.NamesProg
import Derived.Shelf.Lay
import Derived.Shelf.SlGeneric
import Derived.Deep.Cut
set_option linter.unusedSimpArgs false
set_option linter.unusedVariables false
set_option maxHeartbeats 6400000
namespace Go.Proofs.YthcmecokejemcaaGreatDoor
open Go.RowKit Go.Shelf Go.Sort
def Tryz.len125_ren:Go.Shelf.Ren:=⟨fun|125=>123|128=>146|129=>147|n=>n,fun|46=>184|3=>3|51=>29|53=>22|4=>4|5=>5|9=>9|n=>n,fun|n=>n⟩
theorem Tryz.len125:Go.Proofs.Lays.n125 Tryz.prog Tryz.len125_ren:={
 mixed:=by kernel_rfl
 f125:=Tryz.func123.trans (congrArg some (by kernel_rfl))
 f128:=Tryz.func146.trans (congrArg some (by kernel_rfl))
 f129:=Tryz.func147.trans (congrArg some (by kernel_rfl))
 t3:=Tryz.underlying3
 a3:=Tryz.isAgg3
 z3:=Tryz.sizeOf3
 v3:=Tryz.zeroValue3
 t4:=Tryz.underlying4
 a4:=Tryz.isAgg4
 z4:=Tryz.sizeOf4
 v4:=Tryz.zeroValue4
 t5:=Tryz.underlying5
 a5:=Tryz.isAgg5
 z5:=Tryz.sizeOf5
 v5:=Tryz.zeroValue5
 t9:=Tryz.underlying9
 a9:=Tryz.isAgg9
 z9:=Tryz.sizeOf9
 v9:=Tryz.zeroValue9
 t46:=Tryz.underlying184
 a46:=Tryz.isAgg184
 z46:=Tryz.sizeOf184
 v46:=Tryz.zeroValue184
 t51:=Tryz.underlying29
 a51:=Tryz.isAgg29
 z51:=Tryz.sizeOf29
 v51:=Tryz.zeroValue29
 t53:=Tryz.underlying22
 a53:=Tryz.isAgg22
 z53:=Tryz.sizeOf22
 v53:=Tryz.zeroValue22 }
set_option maxRecDepth 100000 in
theorem soLen_at(n:Nat)(hn:n<4611686018427387904)(w:World):Calls Tryz.prog 123 #[.int .u64 (n:Int)] w fun e w' =>e= .returned (.int .i64 (bitsLen n:Nat))∧w' =w:=by
 have h:=Any.bits_Len Tryz.len125 (n:Int) w (by omega) (by omega)
 rwa [Int.toNat_natCast,bitLen_eq _ (by omega)] at h
set_option maxRecDepth 100000 in
theorem soPow_at(n:Nat)(hn:n<4611686018427387904)(w:World):Calls Tryz.prog 155 #[.int .i64 n] w fun e w' =>e= .returned (.int .u64 ((1 <<< bitsLen n:Nat):Int))∧w' =w:=by
 have hLen:=Lib.hid (soLen_at n hn)
 have hk:bitsLen n≤62:=(bitsLen_le_iff n 62).2 (by omega)
 have hp:=wrap_two_pow (bitsLen n) hk
 go_enter Tryz.func155,Tryz.ntmps155
 go_wp2_with (first|(go_at_call 123;refine(hLen.out _).mono ?_;rintro e w' ⟨rfl,rfl⟩))
 go_ret
 exact⟨rfl,rfl⟩
set_option maxRecDepth 100000 in
theorem soXor_at(rb ro X:Nat)(hX:X<18446744073709551616)(w:World)(hc:w.cell? ⟨rb,ro,none⟩=some (.int .u64 X))(hf:w.frozen? ⟨rb,ro,none⟩=false):
 Calls Tryz.prog 156 #[.pointer (some ⟨rb,ro,none⟩)] w fun e w' =>e= .returned (.int .u64 (xorNextN X:Nat))∧w' =(w.setCell ⟨rb,ro,none⟩ (.int .u64 (xorNextN X:Nat))).drewN 3:=by
 obtain⟨A,hA⟩: ∃A:Nat,A=X ^^^ (X*8192%18446744073709551616):=⟨_,rfl⟩
 obtain⟨B,hB⟩: ∃B:Nat,B=A ^^^ (A/128):=⟨_,rfl⟩
 obtain⟨C,hC⟩: ∃C:Nat,C=B ^^^ (B*131072%18446744073709551616):=⟨_,rfl⟩
 have lA:A<18446744073709551616:=by rw [hA];exact Nat.xor_lt_two_pow (n:=64) (by omega) (by omega)
 have lB:B<18446744073709551616:=by rw [hB];exact Nat.xor_lt_two_pow (n:=64) (by omega) (by omega)
 have e1:bits .xor .u64 (X:Int) (IntKind.u64.wrap ((X:Int)*8192))=(A:Int):=by
  rw [IntKind.wrap_u64,show((X:Int)*8192%18446744073709551616)=((X*8192%18446744073709551616:Nat):Int) by omega,bits_xor_u64_nat _ _ hX (by omega),hA]
 have e2:bits .xor .u64 (A:Int) ((A:Int)/128)=(B:Int):=by
  rw [show((A:Int)/128)=((A/128:Nat):Int) by omega,bits_xor_u64_nat _ _ lA (by omega),hB]
 have e3:bits .xor .u64 (B:Int) (IntKind.u64.wrap ((B:Int)*131072))=(C:Int):=by
  rw [IntKind.wrap_u64,show((B:Int)*131072%18446744073709551616)=((B*131072%18446744073709551616:Nat):Int) by omega,bits_xor_u64_nat _ _ lB (by omega),hC]
 have hv:xorNextN X=C:=by unfold xorNextN;simp only [];rw [←hA,←hB,←hC]
 rw [hv]
 clear hA hB hC hv
 have hss: ∀v v',(w.setCell ⟨rb,ro,none⟩ v).setCell ⟨rb,ro,none⟩ v' =w.setCell ⟨rb,ro,none⟩ v' :=setCell_setCell w rb ro
 go_enter Tryz.func156,Tryz.ntmps156
 go_wp2
 go_region
 all_goals go_wp2
 all_goals go_region
 all_goals go_wp2
 all_goals go_region
 all_goals go_wp2
 go_ret
 exact⟨rfl,rfl⟩
structure SRX(A W:World)(blk sb:Nat)(zs0:List Nat)(s:Nat):Prop where
 row:SRow A W blk zs0
 bx:Box W sb 223 [.int .u64 (s:Nat)]
 ge:A.heap.size≤sb
 ne:sb≠blk
section
variable {A W W' w:World} {blk off c sb s:Nat} {zs0:List Nat}
theorem SRX.drewN(h:SRX A W blk sb zs0 s)(q:Nat):SRX A (W.drewN q) blk sb zs0 s:=⟨h.row.drewN q,h.bx.below (Tx.drewN_below W q),h.ge,h.ne⟩
theorem SRX.store(h:SRX A W blk sb zs0 s)(t:Nat):SRX A (W.setCell ⟨sb,0,none⟩ (.int .u64 (t:Nat))) blk sb zs0 t:=by
 refine⟨?_,h.bx.set 0 _,h.ge,h.ne⟩
 obtain⟨zs,g1,⟨sp,g2⟩,g3⟩:=h.row
 refine⟨zs,g1,⟨sp,g2.other (p:=⟨sb,0,none⟩) (Ne.symm h.ne) _⟩, ?_⟩
 refine⟨g3.os,g3.tape,g3.output,Nat.le_trans g3.size (by simp [World.setCell]),fun k hk hn=> ?_⟩
 exact(Below.heap_setCell _ ⟨sb,0,none⟩ _ k (by have:=h.ge;show k≠sb;omega)).trans (g3.block k hk hn)
theorem SRX.open(h:SRX A W blk sb zs0 s)(off:Nat)(ho:off=0): ∃G:Nat→Nat,(∀t,t<zs0.length→W.cell? ⟨blk,off+t,none⟩=some (.int .u64 (G t:Nat)))∧(∀t,t<zs0.length→W.frozen? ⟨blk,off+t,none⟩=false)∧
 Hid (∀q i j,i<zs0.length→j<zs0.length→SRX A (((W.drewN q).setCell ⟨blk,off+i,none⟩ (.int .u64 (G j:Nat))).setCell ⟨blk,off+j,none⟩ (.int .u64 (G i:Nat))) blk sb zs0 s):=by
 obtain⟨G,h1,h2,h3⟩:=h.row.open off ho
 exact⟨G,h1,h2,Lib.hid fun q i j hi hj=>⟨h3.out q i j hi hj,((h.bx.below (Tx.drewN_below W q)).other (p:=⟨blk,off+i,none⟩) h.ne _).other (p:=⟨blk,off+j,none⟩) h.ne _,h.ge,h.ne⟩⟩
theorem soNext_at(h:SRX A W blk sb zs0 s)(hs:s<18446744073709551616):Calls Tryz.prog 156 #[.pointer (some ⟨sb,0,none⟩)] W fun e w' => ∃t:Nat,e= .returned (.int .u64 (t:Nat))∧t<18446744073709551616∧SRX A w' blk sb zs0 t:=
 (soXor_at sb 0 s hs W (h.bx.at' (i:=0) rfl) (h.bx.free 0)).mono fun e w' ⟨h1,h2⟩=>⟨_,h1,xorNextN_lt s hs,by rw [h2];exact(h.store _).drewN 3⟩
set_option maxRecDepth 100000 in
theorem soBrk_go(h:SRow A W blk zs0)(ho:off=0)(a L:Nat)(hb:a+L≤zs0.length)(hsz:zs0.length<4611686018427387904)(h8:8≤L):
 Calls Tryz.prog 139 #[.slice (some ⟨blk,off,none⟩) zs0.length c, .int .i64 (a:Nat), .int .i64 ((a+L:Nat):Int)] W fun e w' =>e= .returned (.tuple #[])∧SRow A w' blk zs0:=by
 obtain⟨M,hM⟩: ∃M:Nat,M=1 <<< bitsLen L:=⟨_,rfl⟩
 have hM1:1≤M:=by rw [hM,Nat.one_shiftLeft];exact Nat.two_pow_pos _
 have hM2:M≤2*L:=by rw [hM,Nat.one_shiftLeft];exact two_pow_bitsLen_le (by omega)
 have hNP:Hid (∀w,Calls Tryz.prog 155 #[.int .i64 (L:Int)] w fun e w' =>e= .returned (.int .u64 (M:Int))∧w' =w):=Lib.hid (by rw [hM];exact fun w=>soPow_at L (by omega) w)
 clear hM
 obtain⟨W0,hW0⟩: ∃V,V=W.alloc (.cells #[.int .u64 (L:Int)] 223):=⟨_,rfl⟩
 obtain⟨sb,hsb⟩: ∃b,b=W.heap.size:=⟨_,rfl⟩
 have hb0:Below W.heap.size W W0:=by rw [hW0];exact(Below.refl _ W).alloc (Nat.le_refl _) _
 have hne:sb≠blk:=by have:=h.lt;omega
 have hge:A.heap.size≤sb:=by obtain⟨_,_,_,g⟩:=h;have:=g.size;omega
 have hC:=Lib.hid (show SRX A W0 blk sb zs0 L from⟨h.below hb0,by rw [hW0,hsb];exact Box.new W _ [.int .u64 (L:Int)],hge,hne⟩)
 have hL64:L<18446744073709551616:=by omega
 obtain⟨n,hn⟩: ∃n,n=zs0.length:=⟨_,rfl⟩
 rw [←hn] at hb hsz ⊢
 have hoH:=Lib.hid ho
 have hnH:=Lib.hid hn
 have hWH:=Lib.hid (And.intro hW0 hsb)
 clear h ho hn hW0 hsb hb0 hne hge
 go_enter Tryz.func139,Tryz.ntmps139
 go_wp2_with (first|(go_at_call 155;rw [show((a:Int)+(L:Int)-(a:Int))=(L:Int) by omega];refine(hNP.out _).mono ?_;rintro e w' ⟨rfl,rfl⟩))
 rw [←hWH.out.1,←hWH.out.2]
 go_loopw [9] (fun vi wr=> ∃t r:Nat,vi= .int .i64 ((a+L/4*2-1+t:Nat):Int)∧t≤3∧r<18446744073709551616∧Hid (SRX A wr blk sb zs0 r)) (fun vi _=>a+L/4*2+3-(intOf vi).toNat)
 case atStart=>exact⟨0,L,by congr 1;omega,by omega,hL64,hC⟩
 case round=>
  obtain⟨t,r,rfl,ht,hr,hst⟩:=hrel
  by_cases ht3:t<3
  · go_wp2_with fail
    refine(soNext_at hst.out hr).mono ?_
    rintro e w1 ⟨r',rfl,lr',hx1⟩
    have hr' :=Lib.hid (And.intro lr' hx1)
    obtain⟨O,hO⟩: ∃O:Nat,O=r' &&& (M-1):=⟨_,rfl⟩
    have lO:O≤M-1:=by rw [hO];exact Nat.and_le_right
    have eAnd:bits .and .u64 (r' :Int) ((M:Int)-1)=(O:Int):=by
     rw [show((M:Int)-1)=((M-1:Nat):Int) by omega,bits_and_u64_nat _ _ lr' (by omega),hO]
    obtain⟨G,hcw,hfw,hsw⟩:=hx1.open off hoH.out
    rw [←hnH.out] at hcw hfw hsw
    clear hO lr' hx1 hst
    go_wp2
    · have hLO:L≤O:=by omega
      by_cases hEq:a+L/4*2-1+t=a+(O-L)
      all_goals
       go_region
       all_goals go_wp2
       go_roundw
       case rel=>
        refine⟨t+1,r',by first|rfl|(congr 1<;>omega),by omega,hr'.out.1, ?_⟩
        have h9:=hsw.out 1 (a+L/4*2-1+t) (a+(O-L)) (by omega) (by omega)
        (try rw [hEq] at h9)
        exact Lib.hid h9
       case measure=>simp [intOf];omega
    · have hLO: ¬L≤O:=by omega
      by_cases hEq:a+L/4*2-1+t=a+O
      all_goals
       go_region
       all_goals go_wp2
       go_roundw
       case rel=>
        refine⟨t+1,r',by first|rfl|(congr 1<;>omega),by omega,hr'.out.1, ?_⟩
        have h9:=hsw.out 1 (a+L/4*2-1+t) (a+O) (by omega) (by omega)
        (try rw [hEq] at h9)
        exact Lib.hid h9
       case measure=>simp [intOf];omega
  · go_wp2
    go_end0
    exact⟨rfl,hst.out.row⟩
set_option maxRecDepth 100000 in
theorem soBrk_at(h:SRow A W blk zs0)(ho:off=0)(a b:Nat)(hab:a≤b)(hb:b≤zs0.length)(hsz:zs0.length<4611686018427387904):
 Calls Tryz.prog 139 #[.slice (some ⟨blk,off,none⟩) zs0.length c, .int .i64 (a:Nat), .int .i64 (b:Nat)] W fun e w' =>e= .returned (.tuple #[])∧SRow A w' blk zs0:=by
 obtain⟨L,rfl⟩: ∃L,b=a+L:=⟨b-a,by omega⟩
 by_cases h8:8≤L
 · exact soBrk_go h ho a L hb hsz h8
 · have hH:=Lib.hid h
   clear h ho
   go_enter Tryz.func139,Tryz.ntmps139
   go_wp2
   go_end0
   exact⟨rfl,hH.out⟩
end
end Go.Proofs.YthcmecokejemcaaGreatDoor
namespace Go.Proofs.YthcmecokejemcaaGreatDoor
open Go.RowKit Go.Shelf
section
variable {A W W' w:World} {blk off c:Nat} {zs0:List Nat}
set_option maxRecDepth 1000000 in
theorem soPdq_at(ho:off=0)(hsz:zs0.length<4611686018427387904): ∀(N:Nat) (w:World) (a b limit:Nat),b-a<N→SRow A w blk zs0→a≤b→b≤zs0.length→limit<4611686018427387904→
 Calls Tryz.prog 122 #[.slice (some ⟨blk,off,none⟩) zs0.length c, .int .i64 (a:Nat), .int .i64 (b:Nat), .int .i64 (limit:Nat)] w fun e w' =>e= .returned (.tuple #[])∧SRow A w' blk zs0:=by
 have hIns:Hid (∀(V:World) (x y:Nat),SRow A V blk zs0→x≤y→y≤zs0.length→Calls Tryz.prog 137 #[.slice (some ⟨blk,off,none⟩) zs0.length c, .int .i64 (x:Nat), .int .i64 (y:Nat)] V fun e w' =>e= .returned (.tuple #[])∧SRow A w' blk zs0):=Lib.hid (fun V x y h1 h2 h3=>soIns_at h1 ho x y h2 h3 hsz)
 have hHeap:Hid (∀(V:World) (x y:Nat),SRow A V blk zs0→x≤y→y≤zs0.length→Calls Tryz.prog 138 #[.slice (some ⟨blk,off,none⟩) zs0.length c, .int .i64 (x:Nat), .int .i64 (y:Nat)] V fun e w' =>e= .returned (.tuple #[])∧SRow A w' blk zs0):=Lib.hid (fun V x y h1 h2 h3=>soHeap_at h1 ho x y h2 h3 hsz)
 have hBrk:Hid (∀(V:World) (x y:Nat),SRow A V blk zs0→x≤y→y≤zs0.length→Calls Tryz.prog 139 #[.slice (some ⟨blk,off,none⟩) zs0.length c, .int .i64 (x:Nat), .int .i64 (y:Nat)] V fun e w' =>e= .returned (.tuple #[])∧SRow A w' blk zs0):=Lib.hid (fun V x y h1 h2 h3=>soBrk_at h1 ho x y h2 h3 hsz)
 have hRev:Hid (∀(V:World) (x y:Nat),SRow A V blk zs0→x≤y→y≤zs0.length→Calls Tryz.prog 141 #[.slice (some ⟨blk,off,none⟩) zs0.length c, .int .i64 (x:Nat), .int .i64 (y:Nat)] V fun e w' =>e= .returned (.tuple #[])∧SRow A w' blk zs0):=Lib.hid (fun V x y h1 h2 h3=>soRev_at h1 ho x y h2 h3 hsz)
 have hPiv:Hid (∀(V:World) (x y:Nat),SRow A V blk zs0→x<y→y≤zs0.length→Calls Tryz.prog 140 #[.slice (some ⟨blk,off,none⟩) zs0.length c, .int .i64 (x:Nat), .int .i64 (y:Nat)] V fun e w' => ∃(z:Nat) (hc:Nat),e= .returned (.tuple #[.int .i64 (z:Nat), .int .i64 (hc:Nat)])∧(x≤z∧z<y)∧hc≤2∧SRow A w' blk zs0):=Lib.hid (fun V x y h1 h2 h3=>soPiv_at h1 ho x y h2 h3 hsz)
 have hPar:Hid (∀(V:World) (x y:Nat),SRow A V blk zs0→x<y→y≤zs0.length→Calls Tryz.prog 142 #[.slice (some ⟨blk,off,none⟩) zs0.length c, .int .i64 (x:Nat), .int .i64 (y:Nat)] V fun e w' => ∃t:Bool,e= .returned (.bool t)∧SRow A w' blk zs0):=Lib.hid (fun V x y h1 h2 h3=>soPI_at h1 ho x y h2 h3 hsz)
 have hPE:Hid (∀(V:World) (x y p:Nat),SRow A V blk zs0→x≤p→p<y→y≤zs0.length→Calls Tryz.prog 144 #[.slice (some ⟨blk,off,none⟩) zs0.length c, .int .i64 (x:Nat), .int .i64 (y:Nat), .int .i64 (p:Nat)] V fun e w' => ∃z:Nat,e= .returned (.int .i64 (z:Nat))∧(x<z∧z≤y)∧SRow A w' blk zs0):=Lib.hid (fun V x y p h1 h2 h3 h4=>soPE_at h1 ho x y p h2 h3 h4 hsz)
 have hPart:Hid (∀(V:World) (x y p:Nat),SRow A V blk zs0→x≤p→p<y→y≤zs0.length→Calls Tryz.prog 145 #[.slice (some ⟨blk,off,none⟩) zs0.length c, .int .i64 (x:Nat), .int .i64 (y:Nat), .int .i64 (p:Nat)] V fun e w' => ∃(z:Nat) (t:Bool),e= .returned (.tuple #[.int .i64 (z:Nat), .bool t])∧(x≤z∧z<y)∧SRow A w' blk zs0):=Lib.hid (fun V x y p h1 h2 h3 h4=>soPart_at h1 ho x y p h2 h3 h4 hsz)
 obtain⟨n,hn⟩: ∃n,n=zs0.length:=⟨_,rfl⟩
 rw [←hn] at hsz hIns hHeap hBrk hRev hPiv hPar hPE hPart ⊢
 have hoH:=Lib.hid ho
 have hnH:=Lib.hid hn
 clear ho hn
 intro N
 induction N with
 |zero=>intro _ _ _ _ h;exact absurd h (Nat.not_lt_zero _)
 |succ N ih=>
  intro w a b limit hN h hab hb hlimit
  have hH:=Lib.hid h
  have ihH:=Lib.hid ih
  clear h ih
  go_enter Tryz.func122,Tryz.ntmps122
  go_wp2
  go_loopg [1,2,3,8,9] (b-a) (fun k s1 s2 s3 s8 s9 wr=> ∃(a' b' lim:Nat) (wb wp:Bool),s1= .int .i64 a' ∧s2= .int .i64 b' ∧s3= .int .i64 lim∧s8= .bool wb∧s9= .bool wp∧
   a' ≤b' ∧b' ≤n∧b' -a' ≤k∧k≤b-a∧lim≤limit∧Hid (SRow A wr blk zs0))
  case atStart=>exact⟨a,b,limit,true,true,rfl,rfl,rfl,rfl,rfl,hab,hb,Nat.le_refl _,Nat.le_refl _,Nat.le_refl _,hH⟩
  case round=>
   obtain⟨a',b',lim,wb,wp,rfl,rfl,rfl,rfl,rfl,hab',hb',hk,hkN,hlim,hst⟩:=hrel
   by_cases h12:b' -a' ≤12
   · have h12z:(b' :Int)-(a' :Int)≤12:=by omega
     go_wp2_with (go_at_call 137;refine(hIns.out _ a' b' hst.out hab' hb').mono ?_;rintro e w1 ⟨rfl,hw1⟩)
     (try simp only [Exit.inBlock,Exit.then]);refine bodyPost_ret (results_none rfl _ _ _) rfl ?_
     exact⟨rfl,hw1⟩
   · have h12z: ¬((b' :Int)-(a' :Int)≤12):=by omega
     by_cases hl0:lim=0
     · subst hl0
       go_wp2_with (go_at_call 138;refine(hHeap.out _ a' b' hst.out hab' hb').mono ?_;rintro e w1 ⟨rfl,hw1⟩)
       (try simp only [Exit.inBlock,Exit.then]);refine bodyPost_ret (results_none rfl _ _ _) rfl ?_
       exact⟨rfl,hw1⟩
     · have hl0z: ¬((lim:Int)=0):=by omega
       go_upto_if 35 with fail
       go_cut [3] from 19 (fun s3 wc=> ∃lim2:Nat,s3= .int .i64 lim2∧lim2≤lim∧Hid (SRow A wc blk zs0))
       case first=>
        cases wb
        · go_wp2_with (go_at_call 139;refine(hBrk.out _ a' b' hst.out hab' hb').mono ?_;rintro e w1 ⟨rfl,hw1⟩)
          go_meet
          case rel=>exact⟨lim-1,by congr 1;omega,by omega,Lib.hid hw1⟩
        · go_wp2_with fail
          go_meet
          case rel=>exact⟨lim,rfl,Nat.le_refl _,hst⟩
       case rest=>
        obtain⟨lim2,rfl,hlim2,hst1⟩:=hcut
        clear hst
        go_upto_if 50 with (go_at_call 140;refine(hPiv.out _ a' b' hst1.out (by omega) hb').mono ?_;rintro e w1 ⟨pv,hc,rfl,hpv,hhc,hw1⟩)
        have hst2:=Lib.hid hw1
        obtain⟨hpv1,hpv2⟩:=hpv
        clear hw1 hst1
        go_cut [11,12] from 19 (fun s11 s12 wc=> ∃pv2 hh:Nat,s11= .int .i64 pv2∧s12= .int .i64 hh∧a' ≤pv2∧pv2<b' ∧Hid (SRow A wc blk zs0))
        case first=>
         by_cases hh:hc=2
         · subst hh
           go_wp2_with (go_at_call 141;refine(hRev.out _ a' b' hst2.out hab' hb').mono ?_;rintro e w1 ⟨rfl,hw1⟩)
           go_meet
           case rel=>exact⟨b' -1-(pv-a'),1,by congr 1;omega,rfl,by omega,by omega,Lib.hid hw1⟩
         · have hhz: ¬((hc:Int)=2):=by omega
           go_wp2_with fail
           go_meet
           case rel=>exact⟨pv,hc,rfl,rfl,hpv1,hpv2,hst2⟩
        case rest=>
         obtain⟨pv2,hh,rfl,rfl,hq1,hq2,hst3⟩:=hcut
         clear hst2 hpv1 hpv2 hhc
         go_upto_region 15 with fail
         go_cut [12,68] from 19 (fun s12 s68 wx=> ∃t:Bool,s12= .int .i64 hh∧s68= .bool t∧wx=wc)
         case first=>
          by_cases hh1:(hh:Int)=1<;>cases wb<;>cases wp<;>
           (go_wp2_with fail
            go_meet
            exact⟨_,rfl,rfl,rfl⟩)
         case rest=>
          obtain⟨t68,rfl,rfl,rfl⟩:=hcut
          go_upto_if 68 with fail
          go_cut [] from 19 (fun wx=>Hid (SRow A wx blk zs0))
          case first=>
           cases t68
           · go_wp2_with fail
             go_meet
             case rel=>exact hst3
           · go_wp2_with fail
             refine(hPar.out _ a' b' hst3.out (by omega) hb').mono ?_
             rintro e w1 ⟨tp,rfl,hw1⟩
             have hw1H:=Lib.hid hw1
             clear hw1
             cases tp
             · go_wp2_with fail
               go_meet
               case rel=>exact hw1H
             · go_wp2_with fail
               (try simp only [Exit.inBlock,Exit.then]);refine bodyPost_ret (results_none rfl _ _ _) rfl ?_
               exact⟨rfl,hw1H.out⟩
          case rest=>
           have hst5:=hcut
           clear hcut hst3
           obtain⟨G,hcw,hfw,hsw⟩:=hst5.out.open off hoH.out
           rw [←hnH.out] at hcw hfw hsw
           go_upto_region 17 with fail
           go_cut [87] from 19 (fun s87 wx=> ∃t:Bool,s87= .bool t∧Hid (SRow A wx blk zs0))
           case first=>
            rcases Nat.eq_zero_or_pos a' with ha0|ha0
            · have ha0z:decide ((a' :Int)>0)=false:=decide_eq_false (by omega)
              go_big_quiet (first|(go_at_call 143;refine Calls.quiet_of_same ((soLess_at _ _ _).mono fun _ _ h=>⟨h.1,h.2.symm⟩)))
              go_wp2_with fail
              go_meet
              case rel=>exact⟨_,rfl,Lib.hid (hst5.out.drewN nq)⟩
            · have ha0z:(a' :Int)>0:=by omega
              go_big_quiet (first|(go_at_call 143;refine Calls.quiet_of_same ((soLess_at _ _ _).mono fun _ _ h=>⟨h.1,h.2.symm⟩)))
              go_wp2_with fail
              go_meet
              case rel=>exact⟨_,rfl,Lib.hid (hst5.out.drewN nq)⟩
           case rest=>
            obtain⟨t87,rfl,hst6⟩:=hcut
            clear hcw hfw hsw hst5
            cases t87
            · go_upto_if 113 with (go_at_call 145;refine(hPart.out _ a' b' pv2 hst6.out hq1 hq2 hb').mono ?_;rintro e w1 ⟨mid,ap,rfl,hmid,hw1⟩)
              have hst7:=Lib.hid hw1
              obtain⟨hm1,hm2⟩:=hmid
              clear hw1 hst6
              by_cases h4:mid-a' <b' -mid
              · have h4z:(mid:Int)-(a' :Int)<(b' :Int)-(mid:Int):=by omega
                go_wp2_with (go_at_call 122;refine(ihH.out _ a' mid lim2 (by omega) hst7.out hm1 (by omega) (by omega)).mono ?_;rintro e w8 ⟨rfl,hw8⟩)
                go_roundg (b' -(mid+1))
                case measure=>omega
                case rel=>exact⟨mid+1,b',lim2,_,ap,by simp,rfl,rfl,rfl,rfl,by omega,by omega,Nat.le_refl _,by omega,by omega,Lib.hid hw8⟩
              · have h4z: ¬((mid:Int)-(a' :Int)<(b' :Int)-(mid:Int)):=by omega
                have hih:=ihH.out
                have hcall:=fun V hV=>hih V (mid+1) b' lim2 (by omega) hV (by omega) (by omega) (by omega)
                push_cast at hcall
                have hcallH:=Lib.hid hcall
                clear hcall hih
                go_wp2_with (go_at_call 122;refine(hcallH.out _ hst7.out).mono ?_;rintro e w8 ⟨rfl,hw8⟩)
                go_roundg (mid-a')
                case measure=>omega
                case rel=>exact⟨a',mid,lim2,_,ap,rfl,rfl,rfl,rfl,rfl,by omega,by omega,Nat.le_refl _,by omega,by omega,Lib.hid hw8⟩
            · go_wp2_with (go_at_call 144;refine(hPE.out _ a' b' pv2 hst6.out hq1 hq2 hb').mono ?_;rintro e w1 ⟨mid,rfl,hmid,hw1⟩)
              go_roundg (b' -mid)
              case measure=>omega
              case rel=>exact⟨mid,b',lim2,wb,wp,rfl,rfl,rfl,rfl,rfl,hmid.2,hb',Nat.le_refl _,by omega,by omega,Lib.hid hw1⟩
end
attribute [local go_sem] Oper.semAt_some wide_fn
set_option maxRecDepth 100000 in
theorem valuesH_at(P:Option Addr)(n c:Nat)(w:World):Calls Tryz.prog 64 #[.slice P n c] w fun e w' =>e= .returned (.func (.func 97) #[] #[.pointer (some ⟨w.heap.size,0,none⟩)])∧w' =w.alloc (.cells #[.slice P n c] 43):=by
 go_enter Tryz.func64,Tryz.ntmps64
 go_wp2
 go_ret
 exact⟨rfl,rfl⟩
set_option maxRecDepth 100000 in
theorem values_stops{w:World}{P:Option Addr}{b bx c:Nat}{ws:List Nat}(hP:P=some ⟨b,0,none⟩∨ws= [])(hx:w.cell? ⟨bx,0,none⟩=some (.slice P ws.length c))(hc: ∀j (h:j<ws.length),w.cell? ⟨b,j,none⟩=some (.int .u64 (ws[j]:Nat)))(hb:b<w.heap.size)(hl:ws.length≤100000000):
 SeqStopsK Fence.wide 8 Tryz.prog 97 #[.pointer (some ⟨bx,0,none⟩)] (fun z:{z:Nat // z<ws.length}=> #[.int .u64 (ws[z.1]'z.2:Nat)]) (KeepTwo b bx) (fun xs=>xs.map (·.1)=List.range ws.length) (fun pre=> ∃t,List.range ws.length=pre.map (·.1)++t) ws.length w:=fun l J Jx W hBW hJ hJx hY h0=>by
 have hx1:=(hBW.cell (p:=⟨bx,0,none⟩) (cell_lt hx)).trans hx
 have hc0:Hid (∀j (h:j<ws.length),W.cell? ⟨b,j,none⟩=some (.int .u64 (ws[j]:Nat))):=Lib.hid (fun j h=>(hBW.cell (p:=⟨b,j,none⟩) hb).trans (hc j h))
 have J0:=Lib.hid h0
 have hPH:=Lib.hid hP
 clear hBW hx hc hb h0 hP
 refine callsIn_of_wp Tryz.func97 rfl trivial ?_ rfl
 simp only [Tryz.ntmps97,List.size_toArray,List.length_cons,List.length_nil,Nat.reduceAdd,Nat.reduceSub,Array.replicate_succ,Array.replicate_zero,List.push_toArray,List.append_toArray,List.nil_append,List.cons_append]
 gi_wp2_with fail
 gi_loopw [7] (fun iv wr=> ∃(pre:List {z:Nat // z<ws.length}) (i:Nat),i≤ws.length∧iv= .int .i64 i∧Hid (pre.map (·.1)=List.range i)∧Hid (∀j (h:j<ws.length),wr.cell? ⟨b,j,none⟩=some (.int .u64 (ws[j]:Nat)))∧Hid (J pre wr)) (fun iv _=>ws.length-(intOf iv).toNat)
 case atStart=>exact⟨[],0,by omega,rfl,Lib.hid rfl,hc0,J0⟩
 case round=>
  obtain⟨pre,i,hi,rfl,hp,hcs,hj⟩:=hrel
  by_cases hlt:i<ws.length
  · have hci:=hcs.out i hlt
    obtain rfl:P=some ⟨b,0,none⟩:=hPH.out.resolve_right (fun h=>by rw [h] at hlt;exact absurd hlt (Nat.not_lt_zero _))
    have hpl:pre.length=i:=by have:=congrArg List.length hp.out;simpa using this
    have hYH:=Lib.hid hY
    clear hY hx1
    gi_wp2_with fail
    obtain⟨fn,tmps,assign,body,hy,hRr⟩:=hYH.out pre ⟨i,hlt⟩ _ hj.out (by omega)
    have hRH2:=Lib.hid hRr
    clear hRr
    rw [hy]
    gi_wp2
    refine(hRH2.out).mono ?_
    have hmap:Hid ((pre++ [(⟨i,hlt⟩:{z:Nat // z<ws.length})]).map (·.1)=List.range (i+1)):=Lib.hid (by rw [List.map_append,hp.out,List.range_succ];rfl)
    rintro e W2 (⟨rfl,hJ2,hK2⟩|⟨rfl,hJx2⟩)
    · have hcs2:Hid (∀j (h:j<ws.length),W2.cell? ⟨b,j,none⟩=some (.int .u64 (ws[j]:Nat))):=Lib.hid (fun j h=>(World.cell?_of_block (a:=⟨b,j,none⟩) hK2.2.1).trans (hcs.out j h))
      have hJ4:=Lib.hid hJ2
      clear hJ2 hK2 hci
      gi_wp2
      go_roundw
      case rel=>exact⟨pre++ [⟨i,hlt⟩],i+1,by omega,by go_num,hmap,hcs2,hJ4⟩
      case measure=>simp [intOf];omega
    · have hJx4:=Lib.hid hJx2
      clear hJx2
      gi_wp2
      refine bodyPost_ret (results_none rfl _ _ _) rfl ?_
      refine⟨⟨_,rfl⟩, .inr ⟨_,⟨(List.range ws.length).drop (i+1), ?_⟩,hJx4.out⟩⟩
      rw [hmap.out]
      have:=List.take_append_drop (i+1) (List.range ws.length)
      rw [List.take_range,Nat.min_eq_left (by omega)] at this
      exact this.symm
  · obtain rfl:i=ws.length:=by omega
    clear hY
    gi_wp2
    go_end0
    exact⟨⟨_,rfl⟩, .inl ⟨_,hp.out,hj.out⟩⟩
set_option maxRecDepth 100000 in
theorem appendSeqH_at{w:World}{P:Option Addr}{b bx c:Nat}{ws:List Nat}(hP:P=some ⟨b,0,none⟩∨ws= [])(hx:w.cell? ⟨bx,0,none⟩=some (.slice P ws.length c))(hc: ∀j (h:j<ws.length),w.cell? ⟨b,j,none⟩=some (.int .u64 (ws[j]:Nat)))(hb:b<w.heap.size)(hlen:ws.length≤100000000):
 CallsIn Fence.wide 9 Tryz.prog 121 #[.slice none 0 0, .func (.func 97) #[] #[.pointer (some ⟨bx,0,none⟩)]] w fun e w' => ∃v,e= .returned v∧w'.ownsRow w.heap.size 23 1 v ws.length (hsV ws)∧Below w.heap.size w w' :=by
 obtain⟨i0,hi,hz0,hz1,hz2⟩:=info_parts Tryz.info_h
 have hlx:bx<w.heap.size:=cell_lt hx
 have hH:=Lib.hid (And.intro hP (And.intro hx hc))
 clear hP hx hc
 refine callsIn_of_wp_marks Tryz.func121 rfl trivial ?_ rfl
 simp only [Tryz.ntmps121,List.size_toArray,List.length_cons,List.length_nil,Nat.reduceAdd,Nat.reduceSub,Array.replicate_succ,Array.replicate_zero,List.push_toArray,List.append_toArray,List.nil_append,List.cons_append]
 gi_wp2_with fail
 have hbx:Boxed (w.alloc (Obj.cells #[Value.slice none 0 0] 43)) w.heap.size 43 (.slice none 0 0):=Boxed.new w _ _
 have hb2w:Below w.heap.size w (w.alloc (Obj.cells #[Value.slice none 0 0] 43)):=(Below.refl _ w).alloc (Nat.le_refl _) _
 have hSt:=Lib.hid (values_stops hH.out.1 ((hb2w.cell (p:=⟨bx,0,none⟩) hlx).trans hH.out.2.1) (fun j h=>(hb2w.cell (p:=⟨b,j,none⟩) hb).trans (hH.out.2.2 j h)) (Nat.lt_of_lt_of_le hb hb2w.size) hlen)
 have hz2' :w.heap.size+1≤(w.alloc (Obj.cells #[Value.slice none 0 0] 43)).heap.size:=by simp
 generalize w.alloc (Obj.cells #[Value.slice none 0 0] 43)=w2 at*
 refine wpIn_rangeFunc_ownH (α:={z:Nat // z<ws.length}) rfl (by omega) (gf:=97) (lb:= #[.pointer (some ⟨bx,0,none⟩)]) rfl trivial (enters_of Tryz.func97 (by kernel_rfl) rfl)
  hSt.out
  (fun h k=>h.trans k) (fun W l o o' hl' hl h1 h2=>KeepTwo.put W _ (by omega) (by omega)) (Below.refl _ _) (fun _=>rfl)
  (fun pre W=>RowI w 43 23 (pre.map (fun(z:{z:Nat // z<ws.length})=>Value.int .u64 (ws[z.1]'z.2:Nat))) W)
  (fun cd pre W=>False)
  (rowI_own w _ _ (fun pre:List {z:Nat // z<ws.length}=>pre.map (fun(z:{z:Nat // z<ws.length})=>Value.int .u64 (ws[z.1]'z.2:Nat))) _ (by omega))
  (fun _ _ _ _ _ hs _ _=>hs)
  ⟨_,hbx,World.ownsRow_nil _ _ _ _,hb2w⟩
  (fun z a' W=>a' ={ tmps:= #[Value.slice none 0 0,Value.func (Fn.func 97) #[] #[Value.pointer (some { block:=bx,off:=0 })],Value.pointer (some { block:=w.heap.size,off:=0 }),undef,Value.slice none 0 0,Value.int IntKind.u64 (ws[z.1]'z.2:Nat),Value.func (Fn.func 97) #[] #[Value.pointer (some { block:=bx,off:=0 })],Value.int IntKind.u64 (ws[z.1]'z.2:Nat),undef,undef,undef,undef,undef],defers:= [] })
  (fun _ _ _ _ _ _ hs _ _=>hs)
  ?assign ?body ?done ?stop
 case assign=>
  rintro l pre ⟨z,hz⟩ W K hi hK
  dsimp only at hK ⊢
  gi_wp2
  exact hK _ W (KeepsOthers.refl _ |>.from _) (KeepTwo.refl _ _ _) hi rfl
 case body=>
  rintro l pre ⟨z,hz⟩ a' W hl ⟨r,hr⟩ hi rfl hlenp
  dsimp only
  obtain⟨v,hv,hrow,hbw⟩:=hi
  have hnext:Hid ((pre++ [(⟨z,hz⟩:{z:Nat // z<ws.length})]).map (fun(z:{z:Nat // z<ws.length})=>Value.int .u64 (ws[z.1]'z.2:Nat))=pre.map (fun(z:{z:Nat // z<ws.length})=>Value.int .u64 (ws[z.1]'z.2:Nat))++ [Value.int .u64 (ws[z]:Nat)]):=Lib.hid (by rw [List.map_append];rfl)
  have hpl:(pre.map (fun(z:{z:Nat // z<ws.length})=>Value.int .u64 (ws[z.1]'z.2:Nat))).length≤100000000:=by rw [List.length_map];omega
  generalize pre.map (fun(z:{z:Nat // z<ws.length})=>Value.int .u64 (ws[z.1]'z.2:Nat))=told at*
  have hc:=hv.cell
  have hbH:=Lib.hid hbw
  have hrowH:=Lib.hid hrow
  have hvH:=Lib.hid hv
  clear hbw hrow hv
  have hzz:w.heap.size≤W.heap.size:=hbH.out.size
  gi_wp2_with (gi_at_builtin;refine wpListIn_append_own_at _ rfl _ _ 43 rfl w.heap.size 23 i0 (.int .u64 0) 1 8 Tryz.under_hs hi hz0 hz1 hz2 rfl (by decide) _ _ _ rfl (hrowH.out.alloc _) ⟨W.heap.size,0,none⟩ 1 1 [.int .u64 (ws[z]:Nat)] rfl rfl (cell_one_new _ _ _) (by simp [Value.oneCell']) (by unfold maxLen;omega) (by omega) (by simp;omega) ?_;intro v' w1 hown' hgrow _ hblk;obtain⟨g',cap',rfl⟩:=ownsRow_succ hown';obtain⟨b1,b2,b4,b5⟩:=row_append (l' :=told++ [Value.int .u64 (ws[z]:Nat)]) (by decide) hvH.out hrowH.out hbH.out (by simpa using hown') hgrow;have hc1:=b1.cell;have hf1:=b1.frozen)
  exact⟨b4.from _,⟨b5.size,b5.block b hb,b5.block bx hlx⟩,by show RowI w _ _ _ _;rw [hnext.out];exact b2⟩
 case done=>
  rintro D' xs W hD hxs hi hK
  have hrw:=words_row hxs
  rw [hrw] at hi
  have hwl:(wordsV ws).length=ws.length:=by simp [wordsV]
  obtain⟨v,hv,hrow,hbw⟩:=hi
  rw [hwl] at hrow
  have hc:=hv.cell
  have hbH:=Lib.hid hbw
  have hrowH:=Lib.hid hrow
  clear hbw hrow hv hxs hrw
  gi_wp2
  refine⟨by simp, .inl ⟨_,_,rfl,run_takeDeferred hK, ?_⟩⟩
  refine⟨v,by simp [results,Tryz.f121],v,rfl,ownsRow_kb (Cs:=fun _=>False) hrowH.out (KB.putObj _ hK rfl rfl) (fun _ h=>h.elim), ?_⟩
  exact hbH.out.trans (belowK_b (w:=w) (Nat.le_refl _) _ D' _ _ (by omega) hK rfl rfl)
 case stop=>
  rintro D' cd pre W hD hSp hf
  exact hf.elim
set_option maxRecDepth 100000 in
theorem collectH_at{w:World}{P:Option Addr}{b bx c:Nat}{ws:List Nat}(hP:P=some ⟨b,0,none⟩∨ws= [])(hx:w.cell? ⟨bx,0,none⟩=some (.slice P ws.length c))(hc: ∀j (h:j<ws.length),w.cell? ⟨b,j,none⟩=some (.int .u64 (ws[j]:Nat)))(hb:b<w.heap.size)(hlen:ws.length≤100000000):
 Calls Tryz.prog 95 #[.func (.func 97) #[] #[.pointer (some ⟨bx,0,none⟩)]] w fun e w' => ∃v,e= .returned v∧w'.ownsRow w.heap.size 23 1 v ws.length (hsV ws)∧Below w.heap.size w w' :=by
 have hA:=Lib.hid ((callsIn_wide (n:=9)).1 (appendSeqH_at hP hx hc hb hlen))
 clear hP hx hc
 go_enter Tryz.func95,Tryz.ntmps95
 go_wp2_with fail
 refine hA.out.mono ?_
 rintro e w1 ⟨v,rfl,hrow,hbw⟩
 obtain⟨A,c,rfl⟩:=ownsRow_form hrow
 have hrowH:=Lib.hid hrow
 have hbH:=Lib.hid hbw
 clear hrow hbw
 go_wp2
 go_ret
 exact⟨_,rfl,hrowH.out,hbH.out⟩
end Go.Proofs.YthcmecokejemcaaGreatDoor
namespace Go.Proofs.YthcmecokejemcaaGreatDoor
open Go.RowKit Go.Shelf Go.Sort
set_option maxRecDepth 100000 in
theorem soInsNil_at(c:Nat)(w:World):Calls Tryz.prog 137 #[.slice none 0 c, .int .i64 0, .int .i64 0] w fun e w' =>e= .returned (.tuple #[])∧w' =w:=by
 go_enter Tryz.func137,Tryz.ntmps137
 go_wp2
 go_loopw [6] (fun vi wr=>vi= .int .i64 1∧wr=w) (fun vi _=>0)
 case atStart=>exact⟨rfl,rfl⟩
 case round=>
  obtain⟨rfl,rfl⟩:=hrel
  go_wp2
  go_end0
  exact⟨rfl,rfl⟩
set_option maxRecDepth 100000 in
theorem soPdqNil_at(c:Nat)(w:World):Calls Tryz.prog 122 #[.slice none 0 c, .int .i64 0, .int .i64 0, .int .i64 0] w fun e w' =>e= .returned (.tuple #[])∧w' =w:=by
 have hI:=Lib.hid (soInsNil_at c w)
 go_enter Tryz.func122,Tryz.ntmps122
 go_wp2
 go_loopg [1,2,3,8,9] 0 (fun k s1 s2 s3 s8 s9 wr=>s1= .int .i64 0∧s2= .int .i64 0∧s3= .int .i64 0∧s8= .bool true∧s9= .bool true∧wr=w)
 case atStart=>exact⟨rfl,rfl,rfl,rfl,rfl,rfl⟩
 case round=>
  obtain⟨rfl,rfl,rfl,rfl,rfl,rfl⟩:=hrel
  go_wp2_with fail
  refine hI.out.mono ?_
  rintro e w1 ⟨rfl,rfl⟩
  go_wp2
  (try simp only [Exit.inBlock,Exit.then]);refine bodyPost_ret (results_none rfl _ _ _) rfl ?_
  exact⟨rfl,rfl⟩
set_option maxRecDepth 100000 in
theorem soSortNil_at(c:Nat)(w:World):Calls Tryz.prog 96 #[.slice none 0 c] w fun e w' =>e= .returned (.tuple #[])∧w' =w:=by
 have hP:=Lib.hid (soPdqNil_at c w)
 have hL:Hid (Calls Tryz.prog 123 #[.int .u64 0] w fun e w' =>e= .returned (.int .i64 0)∧w' =w):=Lib.hid (soLen_at 0 (by omega) w)
 go_enter Tryz.func96,Tryz.ntmps96
 go_wp2_with fail
 refine hL.out.mono ?_
 rintro e w1 ⟨rfl,rfl⟩
 go_wp2_with fail
 refine hP.out.mono ?_
 rintro e w1 ⟨rfl,rfl⟩
 go_wp2
 go_end0
 exact⟨rfl,rfl⟩
section
variable {A W w:World} {blk off c:Nat} {zs0:List Nat}
set_option maxRecDepth 100000 in
theorem soSort_at(h:SRow A W blk zs0)(ho:off=0)(hsz:zs0.length<4611686018427387904):Calls Tryz.prog 96 #[.slice (some ⟨blk,off,none⟩) zs0.length c] W fun e w' =>e= .returned (.tuple #[])∧SRow A w' blk zs0:=by
 have hk:bitsLen zs0.length≤62:=(bitsLen_le_iff zs0.length 62).2 (by omega)
 have hP:=soPdq_at (A:=A) (blk:=blk) (c:=c) ho hsz (zs0.length+1) W 0 zs0.length (bitsLen zs0.length) (by omega) h (Nat.zero_le _) (Nat.le_refl _) (by omega)
 have hPH:=Lib.hid hP
 have hL:=Lib.hid (soLen_at zs0.length hsz W)
 clear hP h ho
 generalize bitsLen zs0.length=m at*
 go_enter Tryz.func96,Tryz.ntmps96
 go_wp2_with fail
 refine hL.out.mono ?_
 rintro e w1 ⟨rfl,rfl⟩
 go_wp2_with fail
 refine hPH.out.mono ?_
 rintro e w1 ⟨rfl,hr⟩
 go_wp2
 go_end0
 exact⟨rfl,hr⟩
def HRow(W:World)(B:Nat)(v:Value)(zs:List Nat):Prop:=(v= .slice none 0 0∧zs= [])∨ ∃g cap,v= .slice (some ⟨g,0,none⟩) zs.length cap∧B≤g∧zs.length≤cap∧ ∃sp,Box W g 23 (hsV zs++sp)
theorem hrow_of{B:Nat}{v:Value}{zs:List Nat}(h:W.ownsRow B 23 1 v zs.length (hsV zs)):HRow W B v zs:=by
 rcases h.2 with ⟨h1,h2⟩|⟨g,cap,cur,h1,h2,h3,h4,h5,h6,h7⟩
 · exact .inl ⟨h1,List.eq_nil_of_length_eq_zero h2⟩
 · refine .inr ⟨g,cap,h1,h2,h4,cur.toList.drop zs.length, ?_⟩
   have e:hsV zs++cur.toList.drop zs.length=cur.toList:=by rw [←h7,Nat.mul_one];exact List.take_append_drop _ _
   rw [e]
   exact⟨cur,h3,by simp,fun i hi=>by
    simp only [Array.length_toList] at hi
    simp [hi]⟩
theorem HRow.below{W' :World}{B:Nat}{v:Value}{zs:List Nat}(h:HRow W B v zs)(hb:Below W.heap.size W W'):HRow W' B v zs:=by
 rcases h with h|⟨g,cap,h1,h2,h4,sp,h3⟩
 · exact .inl h
 · exact .inr ⟨g,cap,h1,h2,h4,sp,h3.below hb⟩
set_option maxRecDepth 100000 in
theorem sortedH_at{P:Option Addr}{b bx c:Nat}{ws:List Nat}(hP:P=some ⟨b,0,none⟩∨ws= [])(hx:w.cell? ⟨bx,0,none⟩=some (.slice P ws.length c))(hc: ∀j (h:j<ws.length),w.cell? ⟨b,j,none⟩=some (.int .u64 (ws[j]:Nat)))(hb:b<w.heap.size)(hlen:ws.length≤100000000):
 Calls Tryz.prog 63 #[.func (.func 97) #[] #[.pointer (some ⟨bx,0,none⟩)]] w fun e w' => ∃v zs,e= .returned v∧zs.Perm ws∧HRow w' w.heap.size v zs∧Below w.heap.size w w' :=by
 have hC:=Lib.hid (collectH_at hP hx hc hb hlen)
 clear hP hx hc
 go_enter Tryz.func63,Tryz.ntmps63
 go_wp2_with fail
 refine hC.out.mono ?_
 rintro e w1 ⟨v,rfl,hrow,hbw⟩
 rcases hrow_of hrow with ⟨rfl,rfl⟩|⟨g,cap,rfl,hg,hcap,sp,hbox⟩
 · have hbH:=Lib.hid hbw
   clear hrow hbw
   go_wp2_with fail
   refine(soSortNil_at 0 w1).mono ?_
   rintro e w2 ⟨rfl,rfl⟩
   go_wp2
   go_ret
   exact⟨_,[],rfl,List.Perm.refl _, .inl ⟨rfl,rfl⟩,hbH.out⟩
 · have hS:=Lib.hid (soSort_at (off:=0) (c:=cap) (SRow.start hbox) rfl (by omega))
   have hbH:=Lib.hid hbw
   have hgH:=Lib.hid (And.intro hg hcap)
   clear hrow hbw hbox hg hcap
   go_wp2_with fail
   refine hS.out.mono ?_
   rintro e w2 ⟨rfl,hr⟩
   have hrH:=Lib.hid hr
   clear hr
   go_wp2
   go_ret
   obtain⟨zs,p1,⟨sp2,p2⟩,p3⟩:=hrH.out
   refine⟨_,zs,rfl,p1, .inr ⟨g,cap,by rw [p1.length_eq];rfl,hgH.out.1,by rw [p1.length_eq];exact hgH.out.2,sp2,p2⟩, ?_⟩
   exact hbH.out.grown p3 hbH.out.size (fun k hk=>by cases hk;exact hgH.out.1)
set_option maxRecDepth 100000 in
theorem cloneH_at{v:Value}{B:Nat}{zs:List Nat}(h:HRow w B v zs)(hlen:zs.length≤100000000):
 Calls Tryz.prog 66 #[v] w fun e w' => ∃v',e= .returned v' ∧HRow w' w.heap.size v' zs∧Below w.heap.size w w' :=by
 have q22: ∀(w:World) (a:Option Addr) (n c n' c' :Nat),(binOp .eql 43 (.slice a n c) (.slice none n' c')).run Tryz.prog w= .ok (.bool a.isNone) w:=fun w a n c n' c' =>Lib.run_eql_slice_nil w _ _ a n c n' c' Tryz.under_hs
 obtain⟨i0,hi,hz0,hz1,hz2⟩:=info_parts Tryz.info_h
 rcases h with ⟨rfl,rfl⟩|⟨g,cap,rfl,hg,_,sp,hbox⟩
 · go_enter Tryz.func66,Tryz.ntmps66
   go_wp2
   go_ret
   exact⟨_,rfl, .inl ⟨rfl,rfl⟩,Below.refl _ _⟩
 · have hcell:Hid (∀j u,(hsV zs)[j]? =some u→w.cell? ⟨g,j,none⟩=some u):=Lib.hid fun j u hj=>hbox.at' (by rw [List.getElem?_append_left (List.getElem?_eq_some_iff.1 hj).1];exact hj)
   clear hbox hg
   go_enter Tryz.func66,Tryz.ntmps66
   go_wp2_with (at_builtin;refine wpList_append_own _ rfl _ _ 43 rfl w.heap.size 23 i0 (.int .u64 0) 1 8 Tryz.under_hs hi hz0 hz1 hz2 rfl (by decide) _ _ _ rfl (World.ownsRow_made w #[] 0 (Nat.le_refl _) (Nat.zero_le _) (by simp)) ⟨g,0,none⟩ zs.length cap (hsV zs) rfl ?qc1 ?qc2 ?qc3 ?qc4 ?qc5 ?qc6 ?_)
   case qc1=>simp [hsV]
   case qc2=>
    intro j u hj
    rw [Addr.add_lit,Nat.zero_add]
    exact Lib.cell?_alloc_some _ (hcell.out j u hj)
   case qc3=>exact hsV_one
   case qc4=>unfold maxLen;omega
   case qc5=>omega
   case qc6=>simp
   intro v' w1 hown hgrow hnil
   obtain⟨P',c',rfl⟩:=ownsRow_form hown
   go_wp2
   go_ret
   refine⟨_,rfl,hrow_of (by simpa using hown), ?_⟩
   exact((Below.refl _ w).alloc (Nat.le_refl _) _).grown hgrow (by simp) (by intro k hk;simp [Value.ownBlock] at hk;omega)
end
end Go.Proofs.YthcmecokejemcaaGreatDoor
