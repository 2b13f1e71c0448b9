/-
  The seat's own texts, part xh: BtWL, BtWJ.
-/
import Derived.Test.YthcmecokejemcaaGreatDoorWMxg
set_option linter.unusedSimpArgs false
set_option linter.unusedVariables false
set_option maxHeartbeats 8000000
namespace Go.Proofs.YthcmecokejemcaaGreatDoor
open Go.RowKit Go.Shelf
inductive InsTop(w:World)(s t:Nat)(F:Nat→Prop)(R:Nat→Option (List Nat))(H:List Nat)(P q most last G x ak av:Nat):Ending→World→Prop
 |bad {w' :World} (h:blobE R ak≠0∨(x≠0∧bnE R t x≠0)) (hb:Below w.heap.size w w'):InsTop w s t F R H P q most last G x ak av (.returned (.tuple #[.int .u64 0, .agg #[.int .u64 0, .int .u64 0], .bool false, .int .i64 8])) w'
 |here {w' :World} (h0:blobE R ak=0) (h1:x=0∨bnE R t x=0) (hf:(bdown R t (keyB R ak) 40 x 0).1.isSome=true) (hs:StoreIs w' s F (bswap R t (keyB R ak) ak av 40 x).1 H P q most last G) (hT:Turn w F w' F):
  InsTop w s t F R H P q most last G x ak av (.returned (.tuple #[.int .u64 (x:Nat),itV (bswap R t (keyB R ak) ak av 40 x).2, .bool true, .int .i64 0])) w'
 |full {w' :World} {er:Nat} {F' :Nat→Prop} (h0:blobE R ak=0) (h1:x=0∨bnE R t x=0) (hf:(bdown R t (keyB R ak) 40 x 0).1.isSome=false)
  (he:(er=3∧q<(P+bneed R t (keyB R ak) x*pgsN (6*t+2))*64)∨(er=10∧(most<H.length+bneed R t (keyB R ak) x∨last<G+bneed R t (keyB R ak) x)))
  (hs:StoreIs w' s F' R H (P+bneed R t (keyB R ak) x*pgsN (6*t+2)) q most last (G+bneed R t (keyB R ak) x)) (hT:Turn w F w' F'):
  InsTop w s t F R H P q most last G x ak av (.returned (.tuple #[.int .u64 0, .agg #[.int .u64 0, .int .u64 0], .bool false, .int .i64 (er:Nat)])) w'
 |put {w' :World} {st:List Nat} {R1:Nat→Option (List Nat)} {F' :Nat→Prop} (h0:blobE R ak=0) (h1:x=0∨bnE R t x=0) (hf:(bdown R t (keyB R ak) 40 x 0).1.isSome=false)
  (hl:st.length=bneed R t (keyB R ak) x) (hfr:Bt.Fresh R R1 t st) (h64: ∀z∈st,R1 z=some (BN.zero.wd t)∧z<18446744073709551616)
  (hs:StoreIs w' s F' (binTop t (keyB R ak) ak av R1 st.reverse x).1 (st.reverse++H) (P+bneed R t (keyB R ak) x*pgsN (6*t+2)) q most last (G+bneed R t (keyB R ak) x)) (hT:Turn w F w' F')
  (hn:(binTop t (keyB R ak) ak av R1 st.reverse x).2.2<18446744073709551616):
  InsTop w s t F R H P q most last G x ak av (.returned (.tuple #[.int .u64 ((binTop t (keyB R ak) ak av R1 st.reverse x).2.2:Nat), .agg #[.int .u64 0, .int .u64 0], .bool false, .int .i64 0])) w'
theorem bpath_lenle(R:Nat→Option (List Nat))(t:Nat)(key:ByteArray): ∀(f x:Nat),(bpath R t key f x).length≤f
 |0,_=>Nat.le_refl _
 |f+1,x=>by
  unfold bpath
  split
  · simp
  · rw [List.length_cons]
    split
    · simp
    · have:=bpath_lenle R t key f ((bnG R t x).kids.getD (plK R (bnG R t x).keys key) 0)
      omega
theorem bneed_le(R:Nat→Option (List Nat))(t:Nat)(key:ByteArray)(x:Nat):bneed R t key x≤41:=by
 unfold bneed
 split
 · omega
 · have h1:=Bt.need_le (bpath R t key 40 x)
   have h2:=bpath_lenle R t key 40 x
   omega
theorem mk_ine{N t s bl b2:Nat}{w8:World}{F' :Nat→Prop}{R R1:Nat→Option (List Nat)}{H' :List Nat}{P q most last G:Nat}{v:Value}{st:List Nat}(ht:BN.Deg t)(hsh:Short R)(hfr:Bt.Fresh R R1 t st)(h64: ∀x∈st,R1 x=some (BN.zero.wd t)∧x<18446744073709551616)
 (hs:StoreIs w8 s F' R1 H' P q most last G) (hmk:Mk N w8 s t F' bl b2 v st) (hbl:N≤bl) (hne:bl≠b2) (hN:s<N∧1<N) (hl:st.length≤100000):InE N w8.heap.size w8 s t F' bl b2 v.ownBlock H' P q most last G R1 st where
 str:=hs
 lo:=hs.lo
 tk:=⟨v,rfl,hmk.tk hne⟩
 l1:=hmk.bx.lt
 l2:=hmk.b2x.lt
 l3:=fun k hk=>rows_lt hmk.row k hk
 sh:=fun y ws hy=>by
  by_cases hm:y∈st
  · rw [(h64 y hm).1] at hy
    cases hy
    rw [BN.wd_len]
    have:=ht.2
    omega
  · rw [hfr.old y hm] at hy
    exact hsh y ws hy
 w64:=fun x hx=>(h64 x hx).2
 len:=hl
 hN:=hN
 hbN:=hbl
theorem ins_end{w W:World}{s b9:Nat}{F F' :Nat→Prop}{R' :Nat→Option (List Nat)}{H' :List Nat}{P q most last G:Nat}{vs:List Value}(hS:StoreIs W s F' R' H' P q most last G)(hT:Turn w F W F')(hb:w.heap.size≤b9)(x9:Box W b9 31 vs)(hv: ∃v,vs[0]? =some v∧ ∀p,v≠ .pointer p)(hF9: ¬F' b9)(h1:s<b9∧1<b9)(c d:Value):
 StoreIs ((W.setCell ⟨b9,0,none⟩ c).setCell ⟨b9,1,none⟩ d) s F' R' H' P q most last G∧Turn w F ((W.setCell ⟨b9,0,none⟩ c).setCell ⟨b9,1,none⟩ d) F' :=by
 obtain⟨v0,hv1,hv2⟩:=hv
 refine⟨hS.grown (grown_trans (grown_set W b9 0 _) (grown_set _ b9 1 _)) (fun k hk=> ?_),hT.minus ((Turn.set_fb W F' b9 0 _).trans (Turn.set_fb _ F' b9 1 _)) hb⟩
 obtain rfl:b9=k:=Option.some.inj hk
 refine⟨h1.1,h1.2,hF9,fun p hc=> ?_⟩
 rw [x9.at' (i:=0) hv1] at hc
 exact hv2 p (Option.some.inj hc)
theorem one_cells{W:World}{FF:Nat→Prop}{b x:Nat}(h:Box W b 23 [.int .u64 (x:Nat)])(hF: ¬FF b):CellsF W FF (some ⟨b,0,none⟩) (hsV [x]):=
 .inr ⟨b,0,rfl,h.lt,hF,fun j u hu=>by
  rw [Nat.zero_add]
  exact h.at' hu⟩
theorem two_cells{W:World}{FF:Nat→Prop}{b x y:Nat}(h:Box W b 23 [.int .u64 (x:Nat), .int .u64 (y:Nat)])(hF: ¬FF b):CellsF W FF (some ⟨b,0,none⟩) (hsV [x,y]):=
 .inr ⟨b,0,rfl,h.lt,hF,fun j u hu=>by
  rw [Nat.zero_add]
  exact h.at' hu⟩
theorem leaf_bnv{W:World}{FF:Nat→Prop}{g1 g2 a b:Nat}(h1:Box W g1 23 [.int .u64 (a:Nat)])(h2:Box W g2 23 [.int .u64 (b:Nat)])(f1: ¬FF g1)(f2: ¬FF g2):
 BNV W FF (.agg #[.slice (some ⟨g1,0,none⟩) 1 1, .slice (some ⟨g2,0,none⟩) 1 1, .slice none 0 0, .int .u64 1]) ⟨[a],[b],[],1⟩:=
 ⟨⟨_,1,_,1,none,0,rfl,one_cells h1 f1,one_cells h2 f2, .inl rfl⟩,by simp,by simp,by simp⟩
theorem top_bnv{W:World}{FF:Nat→Prop}{g1 g2 g3 a b x y z:Nat}(h1:Box W g1 23 [.int .u64 (a:Nat)])(h2:Box W g2 23 [.int .u64 (b:Nat)])(h3:Box W g3 23 [.int .u64 (x:Nat), .int .u64 (y:Nat)])(f1: ¬FF g1)(f2: ¬FF g2)(f3: ¬FF g3):
 BNV W FF (.agg #[.slice (some ⟨g1,0,none⟩) 1 1, .slice (some ⟨g2,0,none⟩) 1 1, .slice (some ⟨g3,0,none⟩) 2 2, .int .u64 (z:Nat)]) ⟨[a],[b],[x,y],z⟩:=
 ⟨⟨_,1,_,1,_,2,rfl,one_cells h1 f1,one_cells h2 f2,two_cells h3 f3⟩,by simp,by simp,by simp⟩
theorem top_wrap(R:Nat→Option (List Nat))(t x r:Nat)(h1:(bnG R t x).size<18446744073709551616)(h2:(bnG R t r).size<18446744073709551616):
 ∃u:Nat,IntKind.u64.wrap (wrap64 (bszR R t x+bszR R t r))=(u:Int)∧u<18446744073709551616∧IntKind.u64.wrap ((u:Int)+1)=((topSize R t x r:Nat):Int)∧topSize R t x r<18446744073709551616:=by
 refine⟨toU (wrap64 (bszR R t x+bszR R t r)),wrapU _,toU_lt _, ?_,Nat.mod_lt _ (by decide)⟩
 rw [wrapU]
 unfold topSize bszR toU wrap64
 omega
section
variable {s:Nat} {F:Nat→Prop} {R:Nat→Option (List Nat)} {H:List Nat} {P q most last G:Nat}
set_option maxRecDepth 100000 in
theorem btInsert_at{w:World}(hs:StoreIs w s F R H P q most last G)(hsh:Short R){t:Nat}(ht:BN.Deg t)(x:Nat)(hx:x<18446744073709551616)(ak av:Nat)(hak:ak<18446744073709551616)(hav:av<18446744073709551616):
 Calls Tryz.prog 9 #[.pointer (some ⟨s,0,none⟩), .int .i64 (t:Nat), .int .u64 (x:Nat), .agg #[.int .u64 (ak:Nat), .int .u64 (av:Nat)]] w (InsTop w s t F R H P q most last G x ak av):=by
 have hmo:Tryz.prog.follows .mixedOrders=true:=by kernel_rfl
 obtain⟨N0,h,-⟩:=hs.rd
 have hsN:=hs.s_lt
 have htN:1<w.heap.size:=by
  obtain⟨_,_,_,_,_,_,_,_,_,_,_,_,_,_,_,_,_,_,_,h4⟩:=h
  exact h4.2
 obtain⟨W0,hW0⟩: ∃W,W=(w.alloc (Obj.cells #[.int .u64 (ak:Nat), .int .u64 (av:Nat)] 31)).alloc (Obj.cells #[.int .u64 0, .int .u64 0] 31):=⟨_,rfl⟩
 obtain⟨W1,hW1⟩: ∃W,W=W0.alloc (Obj.cells #[.pointer (some ⟨s,0,none⟩), .int .i64 (t:Nat)] 74):=⟨_,rfl⟩
 obtain⟨b7,hb7⟩: ∃b,b=w.heap.size:=⟨_,rfl⟩
 obtain⟨b9,hb9⟩: ∃b,b=w.heap.size+1:=⟨_,rfl⟩
 obtain⟨b13,hb13⟩: ∃b,b=W0.heap.size:=⟨_,rfl⟩
 have hb0:Below w.heap.size w W0:=by rw [hW0];exact((Below.refl _ w).alloc (Nat.le_refl _) _).alloc (by simp) _
 have hb01:Below W0.heap.size W0 W1:=by rw [hW1];exact(Below.refl _ W0).alloc (Nat.le_refl _) _
 have hb1:Below w.heap.size w W1:=hb0.trans (hb01.mono hb0.size)
 have x7:Box W0 b7 31 [.int .u64 (ak:Nat), .int .u64 (av:Nat)]:=by rw [hW0,hb7];exact(Box.new w 31 [.int .u64 (ak:Nat), .int .u64 (av:Nat)]).alloc _
 have x9:Box W0 b9 31 [.int .u64 0, .int .u64 0]:=by
  rw [hW0,hb9]
  have:=Box.new (w.alloc (Obj.cells #[.int .u64 (ak:Nat), .int .u64 (av:Nat)] 31)) 31 [.int .u64 0, .int .u64 0]
  rwa [show(w.alloc (Obj.cells #[.int .u64 (ak:Nat), .int .u64 (av:Nat)] 31)).heap.size=w.heap.size+1 by simp] at this
 have x13:Box W1 b13 74 [.pointer (some ⟨s,0,none⟩), .int .i64 (t:Nat)]:=by rw [hW1,hb13];exact Box.new W0 _ _
 have hA:=Lib.hid (btAsked_at (h.below hb0) ht)
 have hB:=bget_at (h.below hb1) hsh ak hak
 unfold blobV at hB
 rw [show(blobR R ak).getD ⟨#[]⟩=keyB R ak from rfl] at hB
 obtain⟨key,hkey⟩: ∃k,k=keyB R ak:=⟨_,rfl⟩
 obtain⟨er,her⟩: ∃e,e=blobE R ak:=⟨_,rfl⟩
 rw [←hkey,←her] at hB
 have hBH:=Lib.hid hB
 have hkeyH:=Lib.hid hkey
 have herH:=Lib.hid her
 have hsH:=Lib.hid hs
 have hH:=Lib.hid h
 have htH:=Lib.hid ht
 have hlow:=Lib.hid (show w.heap.size≤b7∧w.heap.size≤b9∧w.heap.size≤b13∧s<b9∧1<b9 from⟨by omega,by omega,by rw [hb13];exact hb0.size,by omega,by omega⟩)
 have x7H:=Lib.hid (x7.below hb01)
 have x9H:=Lib.hid (x9.below hb01)
 have x13H:=Lib.hid x13
 have hb1H:=Lib.hid hb1
 have hW:=Lib.hid (And.intro hW0 (And.intro hb7 (And.intro hb9 (And.intro hb13 hW1))))
 have hN0:=Lib.hid (And.intro hsN htN)
 have c7:W1.cell? ⟨b7,0,none⟩=some (.int .u64 (ak:Nat)):=(x7.below hb01).at' (i:=0) rfl
 rw [hW1] at c7
 clear hs h ht hB hkey her hW0 hW1 hb7 hb9 hb13 hb0 hb01 hb1 x7 x9 x13 hsN htN
 go_enter Tryz.func9,Tryz.ntmps9
 go_wp2_with fail
 rw [←hW.out.1,←hW.out.2.2.1,←hW.out.2.1]
 refine hA.out.mono ?_
 rintro e w' ⟨rfl,rfl⟩
 go_wp2_with fail
 rw [←hW.out.2.2.2.2,←hW.out.2.2.2.1]
 refine hBH.out.mono ?_
 rintro e w2 ⟨rfl,hb2⟩
 clear c7
 have y7:=Lib.hid (x7H.out.below hb2)
 have y9:=Lib.hid (x9H.out.below hb2)
 have y13:=Lib.hid (x13H.out.below hb2)
 have hbw2:=Lib.hid (hb1H.out.trans (hb2.mono hb1H.out.size))
 have c13:=y13.out.at' (i:=0) rfl
 have c13b:=y13.out.at' (i:=1) rfl
 have hGt:=Lib.hid (btGet_at (hH.out.below hbw2.out) t htH.out x hx)
 clear hb2 x7H x9H x13H hBH hA
 go_wp2_with fail
 refine hGt.out.mono ?_
 rintro e w3 ⟨v1,v2,v3,rfl,hown,hb3⟩
 obtain⟨A1,q1,rfl⟩:=ownN_form hown.r1
 obtain⟨A2,q2,rfl⟩:=ownN_form hown.r2
 obtain⟨A3,q3,rfl⟩:=ownN_form hown.r3
 obtain⟨n1,hn1⟩: ∃z,z=(bnG R t x).keys.length:=⟨_,rfl⟩
 obtain⟨n2,hn2⟩: ∃z,z=(bnG R t x).vals.length:=⟨_,rfl⟩
 obtain⟨n3,hn3⟩: ∃z,z=(bnG R t x).kids.length:=⟨_,rfl⟩
 obtain⟨n4,hn4⟩: ∃z,z=(bnG R t x).size:=⟨_,rfl⟩
 rw [←hn1,←hn2,←hn3,←hn4]
 obtain⟨W4,hW4⟩: ∃W,W=w3.alloc (Obj.cells #[.slice A1 n1 q1, .slice A2 n2 q2, .slice A3 n3 q3, .int .u64 (n4:Nat)] 48):=⟨_,rfl⟩
 have hb24:Below w2.heap.size w2 W4:=hb3.trans (by rw [hW4];exact((Below.refl _ w3).alloc (Nat.le_refl _) _).mono hb3.size)
 have z7:=Lib.hid (y7.out.below hb24)
 have z9:=Lib.hid (y9.out.below hb24)
 have z13:=Lib.hid (y13.out.below hb24)
 have hbw4:=Lib.hid (hbw2.out.trans (hb24.mono hbw2.out.size))
 have hW4H:=Lib.hid hW4
 clear hb3 hb24 hown hW4 hn1 hn2 hn3 hn4 c13 c13b y7 y9 y13 hGt hbw2
 obtain⟨bn,hbn⟩: ∃b,b=decide (bnE R t x=0):=⟨_,rfl⟩
 rw [←hbn]
 have hbnH:=Lib.hid hbn
 clear hbn
 go_upto_region 7 with (fail)
 rw [←hW4H.out]
 have hbadH:Hid (¬(er=0∧(x=0∨bn=true))→ ∀W,Below w.heap.size w W→InsTop w s t F R H P q most last G x ak av (.returned (.tuple #[.int .u64 0, .agg #[.int .u64 0, .int .u64 0], .bool false, .int .i64 8])) W):=Lib.hid fun hbad W hW' => .bad (by
  rw [herH.out,hbnH.out] at hbad
  by_cases h1:blobE R ak=0
  · refine .inr ⟨fun h2=>hbad ⟨h1, .inl h2⟩,fun h2=>hbad ⟨h1, .inr (by simp [h2])⟩⟩
  · exact .inl h1) hW'
 by_cases hgood:er=0∧(x=0∨bn=true)
 · have hgH:=Lib.hid hgood
   have hbadx:=hbadH
   clear hbadH hbadx
   go_cut [54] from 45 (fun s54 wd=>s54= .bool false∧wd=W4)
   case first=>
    obtain⟨rfl,hg2⟩:=hgood
    by_cases hx0:x=0
    · subst hx0
      go_wp2_with fail
      go_meet
      case rel=>exact⟨rfl,rfl⟩
    · have hb1:bn=true:=hg2.resolve_left hx0
      subst hb1
      have hxx:((x:Int)==0)=false:=by simp;omega
      have hxx2:((x:Int) !=0)=true:=by simp;omega
      clear hg2
      go_wp2_with fail
      go_meet
      case rel=>exact⟨rfl,rfl⟩
   case rest=>
    clear hgood
    obtain⟨rfl,rfl⟩:=hcut
    have he0:Hid (blobE R ak=0):=Lib.hid (herH.out.symm.trans hgH.out.1)
    have hb01:Hid (x=0∨bnE R t x=0):=Lib.hid (hgH.out.2.imp id fun h9=>by rw [hbnH.out] at h9;exact of_decide_eq_true h9)
    have hF:=btFind_at (hH.out.below hbw4.out) hsh htH.out x hx key
    obtain⟨ia,iv,hab⟩:=itV_form (bdown R t key 40 x 0).1
    obtain⟨fnd,hfnd⟩: ∃b,b=(bdown R t key 40 x 0).1.isSome:=⟨_,rfl⟩
    rw [hab,←hfnd] at hF
    have hFH:=Lib.hid hF
    have hfndH:=Lib.hid hfnd
    clear hF hab hfnd
    go_wp2_with fail
    refine hFH.out.mono ?_
    rintro e w5 ⟨rfl,hb5⟩
    obtain⟨W6,hW6⟩: ∃W,W=w5.alloc (Obj.cells #[.int .u64 (ia:Nat), .int .u64 (iv:Nat)] 31):=⟨_,rfl⟩
    have hb46:Below wc.heap.size wc W6:=hb5.trans (by rw [hW6];exact((Below.refl _ w5).alloc (Nat.le_refl _) _).mono hb5.size)
    have y7:=Lib.hid (z7.out.below hb46)
    have y9:=Lib.hid (z9.out.below hb46)
    have y13:=Lib.hid (z13.out.below hb46)
    have hbw6:=Lib.hid (hbw4.out.trans (hb46.mono hbw4.out.size))
    have hW6H:=Lib.hid hW6
    clear hb5 hb46 hW6 hFH z7 z9 z13
    go_upto_region 10 with (fail)
    rw [←hW6H.out]
    cases hfb:fnd with
    |true=>
     as_aux_lemma=>
     subst hfb
     have hSw:=Lib.hid (btSwap_at (hsH.out.below hbw6.out) hsh htH.out x hx key ak av hak hav)
     have d0:=y13.out.at' (i:=0) rfl
     have d1:=y13.out.at' (i:=1) rfl
     have d2:=y7.out.at' (i:=0) rfl
     have d3:=y7.out.at' (i:=1) rfl
     go_wp2_with fail
     refine hSw.out.mono ?_
     rintro e w7 ⟨rfl,hS7,hT7⟩
     obtain⟨sa,sv,hsab⟩:=itV_form (bswap R t key ak av 40 x).2
     have hF0: ¬F b9:=fun h9=>by have:=hsH.out.lt h9;have:=hlow.out.2.1;omega
     have r9:=y9.out.turn hT7 hF0
     have hT:=(Turn.below (F:=F) hbw6.out).trans hT7
     have hend:=Lib.hid (ins_end hS7 hT hlow.out.2.1 r9 ⟨_,rfl,fun p h9=>by cases h9⟩ hF0 hlow.out.2.2.2 (.int .u64 (sa:Nat)) (.int .u64 (sv:Nat)))
     have c0:=r9.at' (i:=0) rfl
     have c1:=r9.at' (i:=1) rfl
     have f0:=r9.free 0
     have f1:=r9.free 1
     have hq:=Lib.hid ((r9.set 0 (.int .u64 (sa:Nat))).set 1 (.int .u64 (sv:Nat)))
     rw [hsab]
     have hsabH:=Lib.hid hsab
     clear hS7 hT7 r9 hT hF0 hSw d0 d1 d2 d3 hsab
     go_wp2
     have r0:=hq.out.at' (i:=0) rfl
     have r1:=hq.out.at' (i:=1) rfl
     refine bodyPost_ret (v:= .tuple #[.int .u64 (x:Nat), .agg #[.int .u64 (sa:Nat), .int .u64 (sv:Nat)], .bool true, .int .i64 0]) (by simp [results,Tryz.f9,go_sem,r0,r1]) rfl ?_
     have hk9:=hkeyH.out
     have hs9:=hsabH.out
     have hf9:=hfndH.out
     subst hk9
     rw [←hs9]
     exact .here he0.out hb01.out hf9.symm hend.out.1 hend.out.2
    |false=>
     subst hfb
     obtain⟨n,hn⟩: ∃n,n=bneed R t key x:=⟨_,rfl⟩
     have hn41:n≤41:=by rw [hn];exact bneed_le _ _ _ _
     have hNd:=Lib.hid (btNeed_at (hH.out.below (hbw6.out.trans ((below_drawn W6).mono hbw6.out.size))) hsh htH.out x hx key)
     rw [←hn] at hNd
     have hnH:=Lib.hid hn
     have hF13: ¬F b13:=fun h9=>by have:=hsH.out.lt h9;have:=hlow.out.2.2.1;omega
     have x1:=fun X:Exw F W6=>X.cell (y13.out.at' (i:=0) rfl) hF13
     have x2:=fun X:Exw F W6=>X.cell (y13.out.at' (i:=1) rfl) hF13
     clear hn
     go_upto_region 12 with (fail)
     refine wp_region_tree (fun w' => ∃X:Exw F W6,w' =X.W) [] (.r 0<| .r 1<| .r 2<| .r 3<| .a 4<| .a 5<| .r 6<| .r 7<| .r 8<| .r 9<| .r 10<| .nil) hmo (by kernel_rfl) (by kernel_rfl) (by kernel_rfl) (exw_start _ _) (fun _ _ d _ _ h=>by cases d<;>exact h) ?_
     iterate 4 (refine wpTree_r _ _ rfl rfl (by rintro _ ⟨X,rfl⟩;go_simp;exact rfl) ?_;go_simp)
     refine wpTree_a _ rfl (fun K hK=> ?_)
     go_wp2_with fail
     refine hNd.out.mono ?_
     rintro e w7 ⟨rfl,hb7⟩
     have hb67:Below W6.heap.size W6 w7:=(below_drawn W6).trans (hb7.mono (Nat.le_refl _))
     have hex:=exw_below (B:=F) hb67
     have u7:=Lib.hid (y7.out.below hb67)
     have u9:=Lib.hid (y9.out.below hb67)
     have u13:=Lib.hid (y13.out.below hb67)
     have hbw7:=Lib.hid (hbw6.out.trans (hb67.mono hbw6.out.size))
     have hMk:=Lib.hid (btMaker_at (hsH.out.below hbw7.out) t htH.out n (by omega))
     have hb67' :=hb67
     clear hb7 hb67 y7 y9 y13 hNd hbw6
     go_wp2
     refine hK _ _ hex ?_
     clear hK K hex
     have hb67H:=Lib.hid hb67'
     clear hb67'
     refine wpTree_a _ rfl (fun K hK=> ?_)
     go_wp2_with fail
     refine hMk.out.mono ?_
     rintro e w8 hR
     clear hMk
     rcases hR with ⟨st,F',R1,bl,b2,v,rfl,hl,hfr,h64,hS8,hT8,hmk,hgl,hg2,hne⟩|⟨er,F',rfl,herr,hS8,hT8⟩
     ·
      as_aux_lemma=>
      have hNN:s<w7.heap.size∧1<w7.heap.size:=⟨Nat.lt_of_lt_of_le hN0.out.1 hbw7.out.size,Nat.lt_of_lt_of_le hN0.out.2 hbw7.out.size⟩
      have hl2:st.length≤100000:=by omega
      have hE8:=Lib.hid (mk_ine htH.out hsh hfr h64 hS8 hmk hgl hne hNN hl2)
      have hF: ∀z,w.heap.size≤z→ ¬F z:=fun z h1 h2=>by have:=hsH.out.lt h2;omega
      have v7:=Lib.hid (u7.out.turn hT8 (hF _ hlow.out.1))
      have v9:=Lib.hid (u9.out.turn hT8 (hF _ hlow.out.2.1))
      have v13:=Lib.hid (u13.out.turn hT8 (hF _ hlow.out.2.2.1))
      have hF9:=Lib.hid (hT8.not u9.out.lt (hF _ hlow.out.2.1))
      have hn7:Hid (¬FB F' bl b7):=Lib.hid fun h9=>h9.elim (hT8.not u7.out.lt (hF _ hlow.out.1)) fun h8=>by have:=u7.out.lt;omega
      have hn9:Hid (¬FB F' bl b9):=Lib.hid fun h9=>h9.elim (hT8.not u9.out.lt (hF _ hlow.out.2.1)) fun h8=>by have:=u9.out.lt;omega
      have hn13:Hid (¬FB F' bl b13):=Lib.hid fun h9=>h9.elim (hT8.not u13.out.lt (hF _ hlow.out.2.2.1)) fun h8=>by have:=u13.out.lt;omega
      have hTw:=Lib.hid ((Turn.below (F:=F) hbw7.out).trans hT8)
      have hblw:Hid (w.heap.size≤bl):=Lib.hid (Nat.le_trans hbw7.out.size hgl)
      have hlH:Hid (st.length=bneed R t key x):=Lib.hid (hl.trans hnH.out)
      have hfrH:=Lib.hid hfr
      have h64H:=Lib.hid h64
      have hex8: ∃X:Exw F W6,w8=X.W:=⟨⟨w8,Nat.le_trans hb67H.out.size hT8.size,fun k hk hn=>(hT8.keep k (Nat.lt_of_lt_of_le hk hb67H.out.size) hn).trans (hb67H.out.block k hk)⟩,rfl⟩
      clear hNN hl2 hl hfr h64 hS8 hT8 hmk hgl hg2 hne hF
      go_wp2
      refine hK _ _ hex8 ?_
      clear hK K hex8 x1 x2
      iterate 5 (refine wpTree_r _ _ rfl rfl (by rintro _ ⟨X,rfl⟩;go_simp;exact rfl) ?_;go_simp)
      refine wpTree_nil ?_
      have hok16:Hid ((BN.mk [ak] [av] [] 1).Ok):=Lib.hid ⟨fun z hz=>(by rw [List.mem_singleton.1 hz];exact hak),fun z hz=>(by rw [List.mem_singleton.1 hz];exact hav),fun z hz=>absurd hz (by simp),show 1<18446744073709551616 by decide⟩
      by_cases hx0:x=0
      · subst hx0
        as_aux_lemma=>
        have x1:=fun X:Exw (FB F' bl) w8=>X.cell (v7.out.at' (i:=0) rfl) hn7.out
        have x2:=fun X:Exw (FB F' bl) w8=>X.cell (v7.out.at' (i:=1) rfl) hn7.out
        have x3:=fun X:Exw (FB F' bl) w8=>X.cell (v9.out.at' (i:=0) rfl) hn9.out
        have x4:=fun X:Exw (FB F' bl) w8=>X.cell (v9.out.at' (i:=1) rfl) hn9.out
        go_upto_region 16 with (fail)
        refine wp_region_tree (fun w' => ∃X:Exw (FB F' bl) w8,w' =X.W) [11,12,13] (.r 0<| .r 1<| .r 2<| .r 4<| .r 5<| .r 9<| .two 3 (.a 6<| .r 7<| .a 8<| .r 10<| .a 11<| .a 12<| .a 13<| .nil) 6 (.a 3<| .r 7<| .a 8<| .r 10<| .a 11<| .a 12<| .a 13<| .nil)) hmo (by kernel_rfl) (by kernel_rfl) (by kernel_rfl) (exw_start _ _) (fun _ _ d _ _ h=>by cases d<;>exact h) ?_
        iterate 6 (refine wpTree_r _ _ rfl rfl (by rintro _ ⟨X,rfl⟩;go_simp;exact rfl) ?_;go_simp)
        clear x1 x2 x3 x4
        refine wpTree_two _ _ rfl rfl (fun K hK=> ?_) (fun K hK=> ?_)
        · go_wp2
          obtain⟨g1,hg1⟩: ∃b,b=w8.heap.size:=⟨_,rfl⟩
          obtain⟨V1,hV1⟩: ∃W,W=(w8.alloc (Obj.cells #[.int .u64 (ak:Nat)] 23)).drew:=⟨_,rfl⟩
          rw [←hV1,←hg1]
          have hB1:Below w8.heap.size w8 V1:=by rw [hV1];exact((Below.refl _ w8).alloc (Nat.le_refl _) _).drew
          have yg1:Box V1 g1 23 [.int .u64 (ak:Nat)]:=by rw [hV1,hg1];exact box_drew (Box.new _ _ _)
          have hgeg1:w8.heap.size≤g1:=by rw [hg1];exact Nat.le_refl _
          have yg1:=Lib.hid yg1
          have hgeg1:=Lib.hid hgeg1
          have hB1H:=Lib.hid hB1
          refine hK _ _ (exw_below (B:=FB F' bl) hB1) ?_
          clear hK K hV1 hg1 hB1
          refine wpTree_a _ rfl (fun K hK=> ?_)
          go_wp2
          obtain⟨g2,hg2⟩: ∃b,b=V1.heap.size:=⟨_,rfl⟩
          obtain⟨V2,hV2⟩: ∃W,W=(V1.alloc (Obj.cells #[.int .u64 (av:Nat)] 23)):=⟨_,rfl⟩
          rw [←hV2,←hg2]
          have hB2:Below w8.heap.size w8 V2:=by rw [hV2];exact hB1H.out.alloc hB1H.out.size _
          have yg2:Box V2 g2 23 [.int .u64 (av:Nat)]:=by rw [hV2,hg2];exact Box.new _ _ _
          have yg1:Box V2 g1 23 [.int .u64 (ak:Nat)]:=by rw [hV2];exact yg1.out.alloc _
          have hgeg2:w8.heap.size≤g2:=by rw [hg2];exact hB1H.out.size
          have yg1:=Lib.hid yg1
          have yg2:=Lib.hid yg2
          have hgeg2:=Lib.hid hgeg2
          have hB2H:=Lib.hid hB2
          refine hK _ _ (exw_below (B:=FB F' bl) hB2) ?_
          clear hK K hV2 hg2 hB2
          refine wpTree_r _ _ rfl rfl (by rintro _ ⟨X,rfl⟩;go_simp;exact rfl) ?_
          go_simp
          have hEW:=hE8.out.low (hB2H.out.mono (Nat.le_refl _))
          as_aux_lemma=>
          obtain⟨vt,hvt,hTk⟩:=hEW.tk
          have nG: ∀{g},w8.heap.size≤g→ ¬FB F' bl g:=fun {g} h1 h2=>by have:=hE8.out.fb g h2;have:=Nat.le_refl w8.heap.size;omega
          have hTake:=btTake_at hEW.str htH.out hTk hEW.hN hEW.hbN hEW.w64 hEW.len (leaf_bnv yg1.out yg2.out (nG hgeg1.out) (nG hgeg2.out)) hok16.out
          obtain⟨pp,hpp⟩: ∃pp,pp=btake R1 t st.reverse ⟨[ak],[av],[],1⟩:=⟨_,rfl⟩
          rw [←hpp,hvt] at hTake
          have hTakeH:=Lib.hid hTake
          have hEH2:=Lib.hid hEW
          have hppH:=Lib.hid hpp
          have hT9:=Lib.hid (Turn.below (F:=FB F' bl) hB2H.out)
          have c9:=Lib.hid (v9.out.below hB2H.out)
          clear hTake hEW hTk hpp nG
          refine wpTree_a _ rfl (fun K hK=> ?_)
          go_wp2_with fail
          refine hTakeH.out.mono ?_
          rintro e w26 ⟨v',st',hv',rfl,hst',hS26,hT26,hTk26⟩
          have hE26:=hEH2.out.take htH.out hppH.out hv' hst' hS26 hT26 hTk26
          have hT26H:=Lib.hid (hT9.out.trans hT26)
          have hex:=exw_turn (hT9.out.trans hT26)
          have r9:=c9.out.turn hT26 hn9.out
          have hE26H:=Lib.hid hE26
          obtain⟨p1,p2,p3⟩:=pp
          dsimp only
          have c0:=r9.at' (i:=0) rfl
          have c1:=r9.at' (i:=1) rfl
          have f0:=r9.free 0
          have f1:=r9.free 1
          have hq:=Lib.hid ((r9.set 0 (.int .u64 0)).set 1 (.int .u64 0))
          have hend:=Lib.hid (ins_end hE26.1.str (hTw.out.minus hT26H.out hblw.out) hlow.out.2.1 r9 ⟨_,rfl,fun p h9=>by cases h9⟩ hF9.out hlow.out.2.2.2 (.int .u64 0) (.int .u64 0))
          clear hE26 hT26 hS26 hTk26 r9 hTakeH hst' hv' c9
          go_wp2
          refine hK _ _ hex ?_
          clear hK K hex
          refine wpTree_r _ _ rfl rfl (by rintro _ ⟨X,rfl⟩;go_simp;exact rfl) ?_
          go_simp
          refine wpTree_z _ rfl (by decide) (fun K hK=> ?_)
          go_wp2
          refine hK _ _ ?_
          clear hK K
          refine wpTree_z _ rfl (by decide) (fun K hK=> ?_)
          go_wp2
          refine hK _ _ ?_
          clear hK K
          refine wpTree_z _ rfl (by decide) (fun K hK=> ?_)
          go_wp2
          refine hK _ _ (wpTree_nil ?_)
          clear hK K
          go_wp2
          have r0:=hq.out.at' (i:=0) rfl
          have r1:=hq.out.at' (i:=1) rfl
          refine bodyPost_ret (v:= .tuple #[.int .u64 (p3:Nat), .agg #[.int .u64 0, .int .u64 0], .bool false, .int .i64 0]) (by simp [results,Tryz.f9,go_sem,r0,r1]) rfl ?_
          have hk9:=hkeyH.out
          have hn9:=hnH.out
          have hf9:=hfndH.out
          have hp9:=hppH.out
          subst hk9
          subst hn9
          have hbt:binTop t (keyB R ak) ak av R1 st.reverse 0=(p1,p2,p3):=hp9.symm
          have hS9:=hend.out.1
          have h9:=InsTop.put (w:=w) (F:=F) (x:=0) he0.out (.inl rfl) hf9.symm hlH.out hfrH.out h64H.out (by rw [hbt];exact hS9) hend.out.2 (by rw [hbt];exact hE26H.out.2)
          rw [hbt] at h9
          exact h9
        · go_wp2
          obtain⟨g2,hg2⟩: ∃b,b=w8.heap.size:=⟨_,rfl⟩
          obtain⟨V1,hV1⟩: ∃W,W=(w8.alloc (Obj.cells #[.int .u64 (av:Nat)] 23)).drew:=⟨_,rfl⟩
          rw [←hV1,←hg2]
          have hB1:Below w8.heap.size w8 V1:=by rw [hV1];exact((Below.refl _ w8).alloc (Nat.le_refl _) _).drew
          have yg2:Box V1 g2 23 [.int .u64 (av:Nat)]:=by rw [hV1,hg2];exact box_drew (Box.new _ _ _)
          have hgeg2:w8.heap.size≤g2:=by rw [hg2];exact Nat.le_refl _
          have yg2:=Lib.hid yg2
          have hgeg2:=Lib.hid hgeg2
          have hB1H:=Lib.hid hB1
          refine hK _ _ (exw_below (B:=FB F' bl) hB1) ?_
          clear hK K hV1 hg2 hB1
          refine wpTree_a _ rfl (fun K hK=> ?_)
          go_wp2
          obtain⟨g1,hg1⟩: ∃b,b=V1.heap.size:=⟨_,rfl⟩
          obtain⟨V2,hV2⟩: ∃W,W=(V1.alloc (Obj.cells #[.int .u64 (ak:Nat)] 23)):=⟨_,rfl⟩
          rw [←hV2,←hg1]
          have hB2:Below w8.heap.size w8 V2:=by rw [hV2];exact hB1H.out.alloc hB1H.out.size _
          have yg1:Box V2 g1 23 [.int .u64 (ak:Nat)]:=by rw [hV2,hg1];exact Box.new _ _ _
          have yg2:Box V2 g2 23 [.int .u64 (av:Nat)]:=by rw [hV2];exact yg2.out.alloc _
          have hgeg1:w8.heap.size≤g1:=by rw [hg1];exact hB1H.out.size
          have yg2:=Lib.hid yg2
          have yg1:=Lib.hid yg1
          have hgeg1:=Lib.hid hgeg1
          have hB2H:=Lib.hid hB2
          refine hK _ _ (exw_below (B:=FB F' bl) hB2) ?_
          clear hK K hV2 hg1 hB2
          refine wpTree_r _ _ rfl rfl (by rintro _ ⟨X,rfl⟩;go_simp;exact rfl) ?_
          go_simp
          have hEW:=hE8.out.low (hB2H.out.mono (Nat.le_refl _))
          as_aux_lemma=>
          obtain⟨vt,hvt,hTk⟩:=hEW.tk
          have nG: ∀{g},w8.heap.size≤g→ ¬FB F' bl g:=fun {g} h1 h2=>by have:=hE8.out.fb g h2;have:=Nat.le_refl w8.heap.size;omega
          have hTake:=btTake_at hEW.str htH.out hTk hEW.hN hEW.hbN hEW.w64 hEW.len (leaf_bnv yg1.out yg2.out (nG hgeg1.out) (nG hgeg2.out)) hok16.out
          obtain⟨pp,hpp⟩: ∃pp,pp=btake R1 t st.reverse ⟨[ak],[av],[],1⟩:=⟨_,rfl⟩
          rw [←hpp,hvt] at hTake
          have hTakeH:=Lib.hid hTake
          have hEH2:=Lib.hid hEW
          have hppH:=Lib.hid hpp
          have hT9:=Lib.hid (Turn.below (F:=FB F' bl) hB2H.out)
          have c9:=Lib.hid (v9.out.below hB2H.out)
          clear hTake hEW hTk hpp nG
          refine wpTree_a _ rfl (fun K hK=> ?_)
          go_wp2_with fail
          refine hTakeH.out.mono ?_
          rintro e w26 ⟨v',st',hv',rfl,hst',hS26,hT26,hTk26⟩
          have hE26:=hEH2.out.take htH.out hppH.out hv' hst' hS26 hT26 hTk26
          have hT26H:=Lib.hid (hT9.out.trans hT26)
          have hex:=exw_turn (hT9.out.trans hT26)
          have r9:=c9.out.turn hT26 hn9.out
          have hE26H:=Lib.hid hE26
          obtain⟨p1,p2,p3⟩:=pp
          dsimp only
          have c0:=r9.at' (i:=0) rfl
          have c1:=r9.at' (i:=1) rfl
          have f0:=r9.free 0
          have f1:=r9.free 1
          have hq:=Lib.hid ((r9.set 0 (.int .u64 0)).set 1 (.int .u64 0))
          have hend:=Lib.hid (ins_end hE26.1.str (hTw.out.minus hT26H.out hblw.out) hlow.out.2.1 r9 ⟨_,rfl,fun p h9=>by cases h9⟩ hF9.out hlow.out.2.2.2 (.int .u64 0) (.int .u64 0))
          clear hE26 hT26 hS26 hTk26 r9 hTakeH hst' hv' c9
          go_wp2
          refine hK _ _ hex ?_
          clear hK K hex
          refine wpTree_r _ _ rfl rfl (by rintro _ ⟨X,rfl⟩;go_simp;exact rfl) ?_
          go_simp
          refine wpTree_z _ rfl (by decide) (fun K hK=> ?_)
          go_wp2
          refine hK _ _ ?_
          clear hK K
          refine wpTree_z _ rfl (by decide) (fun K hK=> ?_)
          go_wp2
          refine hK _ _ ?_
          clear hK K
          refine wpTree_z _ rfl (by decide) (fun K hK=> ?_)
          go_wp2
          refine hK _ _ (wpTree_nil ?_)
          clear hK K
          go_wp2
          have r0:=hq.out.at' (i:=0) rfl
          have r1:=hq.out.at' (i:=1) rfl
          refine bodyPost_ret (v:= .tuple #[.int .u64 (p3:Nat), .agg #[.int .u64 0, .int .u64 0], .bool false, .int .i64 0]) (by simp [results,Tryz.f9,go_sem,r0,r1]) rfl ?_
          have hk9:=hkeyH.out
          have hn9:=hnH.out
          have hf9:=hfndH.out
          have hp9:=hppH.out
          subst hk9
          subst hn9
          have hbt:binTop t (keyB R ak) ak av R1 st.reverse 0=(p1,p2,p3):=hp9.symm
          have hS9:=hend.out.1
          have h9:=InsTop.put (w:=w) (F:=F) (x:=0) he0.out (.inl rfl) hf9.symm hlH.out hfrH.out h64H.out (by rw [hbt];exact hS9) hend.out.2 (by rw [hbt];exact hE26H.out.2)
          rw [hbt] at h9
          exact h9
      · have hxx:((x:Int)==0)=false:=by simp;omega
        have hI:=btIns_at htH.out key hak hav 40 (Nat.le_refl _) w8 R1 st x hE8.out (Nat.le_refl _) hx
        rw [show((40-40:Nat):Int)=0 from rfl] at hI
        obtain⟨p,hp⟩: ∃p,p=bins t key ak av 40 R1 st.reverse x:=⟨_,rfl⟩
        rw [←hp] at hI
        have hIH:=Lib.hid hI
        have hx0H:=Lib.hid hx0
        have hhkH:=Lib.hid hkeyH.out
        have hpH:Hid (p=bins t (keyB R ak) ak av 40 R1 st.reverse x):=Lib.hid (by rw [←hkeyH.out];exact hp)
        have d130:=v13.out.at' (i:=0) rfl
        have d131:=v13.out.at' (i:=1) rfl
        have d70:=v7.out.at' (i:=0) rfl
        have d71:=v7.out.at' (i:=1) rfl
        clear hI hp hx0
        go_wp2_with fail
        refine hIH.out.mono ?_
        rintro e w9 ⟨rfl,hE9,hT9,h649⟩
        clear d130 d131 d70 d71 hIH
        obtain⟨R2,L2,o⟩:=p
        have t9:=Lib.hid (v9.out.turn hT9 hn9.out)
        have t13:=Lib.hid (v13.out.turn hT9 hn13.out)
        have hE9H:=Lib.hid hE9
        have hT9H:=Lib.hid hT9
        have h649H:=Lib.hid h649
        have hM9:w8.heap.size≤w9.heap.size:=hT9.size
        have hM9H:=Lib.hid hM9
        clear hE9 hT9 h649 hM9
        rcases o with _|⟨ka,va,r⟩
        · simp only [splV]
          as_aux_lemma=>
          go_upto_region 18 with (fail)
          obtain⟨W10,hW10⟩: ∃W,W=w9.alloc (Obj.cells #[.bool false, .int .u64 0, .int .u64 0, .int .u64 0] 88):=⟨_,rfl⟩
          obtain⟨b20,hb20⟩: ∃b,b=w9.heap.size:=⟨_,rfl⟩
          rw [←hW10,←hb20]
          have hB:Below w9.heap.size w9 W10:=by rw [hW10];exact(Below.refl _ w9).alloc (Nat.le_refl _) _
          have x20:Box W10 b20 88 [.bool false, .int .u64 0, .int .u64 0, .int .u64 0]:=by rw [hW10,hb20];exact Box.new w9 _ _
          have s9:=t9.out.below hB
          have e200:=x20.at' (i:=0) rfl
          have x1:=fun X:Exw (fun _=>False) W10=>X.cell (s9.at' (i:=0) rfl) (fun h=>h)
          have x2:=fun X:Exw (fun _=>False) W10=>X.cell (s9.at' (i:=1) rfl) (fun h=>h)
          have c0:=s9.at' (i:=0) rfl
          have c1:=s9.at' (i:=1) rfl
          have f0:=s9.free 0
          have f1:=s9.free 1
          have hq:=Lib.hid (box_drew ((s9.set 0 (.int .u64 0)).set 1 (.int .u64 0)))
          have hend:=Lib.hid (ins_end (hE9H.out.low (hB.mono hM9H.out)).str (hTw.out.minus (hT9H.out.trans (Turn.below hB)) hblw.out) hlow.out.2.1 s9 ⟨_,rfl,fun p h9=>by cases h9⟩ hF9.out hlow.out.2.2.2 (.int .u64 0) (.int .u64 0))
          clear hW10 hb20 hB x20 s9
          go_upto_region 19 with (fail)
          refine wp_region_tree (fun w' => ∃X:Exw (fun _=>False) W10,w' =X.W) [3,4,5] (.r 0<| .r 1<| .r 2<| .a 3<| .a 4<| .a 5<| .nil) hmo (by kernel_rfl) (by kernel_rfl) (by kernel_rfl) (exw_start _ _) (fun _ _ d _ _ h=>by cases d<;>exact h) ?_
          iterate 3 (refine wpTree_r _ _ rfl rfl (by rintro _ ⟨X,rfl⟩;go_simp;exact rfl) ?_;go_simp)
          clear x1 x2
          refine wpTree_z _ rfl (by decide) (fun K hK=> ?_)
          go_wp2
          refine hK _ _ ?_
          clear hK K
          refine wpTree_z _ rfl (by decide) (fun K hK=> ?_)
          go_wp2
          refine hK _ _ ?_
          clear hK K
          refine wpTree_z _ rfl (by decide) (fun K hK=> ?_)
          go_wp2
          refine hK _ _ (wpTree_nil ?_)
          clear hK K
          go_wp2
          have r0:=hq.out.at' (i:=0) rfl
          have r1:=hq.out.at' (i:=1) rfl
          refine bodyPost_ret (v:= .tuple #[.int .u64 (x:Nat), .agg #[.int .u64 0, .int .u64 0], .bool false, .int .i64 0]) (by simp [results,Tryz.f9,go_sem,r0,r1]) rfl ?_
          have hk9:=hkeyH.out
          have hnn9:=hnH.out
          have hf9:=hfndH.out
          subst hk9
          subst hnn9
          have hbt:binTop t (keyB R ak) ak av R1 st.reverse x=(R2,L2,x):=by
           unfold binTop
           rw [if_neg hx0H.out,←hpH.out]
           rfl
          have hS9:=hend.out.1.below (below_drawn _)
          have h9:=InsTop.put (w:=w) (F:=F) (x:=x) he0.out hb01.out hf9.symm hlH.out hfrH.out h64H.out (by rw [hbt];exact hS9) (hend.out.2.trans (Turn.below (below_drawn _))) (by rw [hbt];exact hx)
          rw [hbt] at h9
          exact h9
        · simp only [splV]
          go_upto_region 18 with (fail)
          obtain⟨W10,hW10⟩: ∃W,W=w9.alloc (Obj.cells #[.bool true, .int .u64 (ka:Nat), .int .u64 (va:Nat), .int .u64 (r:Nat)] 88):=⟨_,rfl⟩
          obtain⟨b20,hb20⟩: ∃b,b=w9.heap.size:=⟨_,rfl⟩
          rw [←hW10,←hb20]
          have hB:Below w9.heap.size w9 W10:=by rw [hW10];exact(Below.refl _ w9).alloc (Nat.le_refl _) _
          have x20:Box W10 b20 88 [.bool true, .int .u64 (ka:Nat), .int .u64 (va:Nat), .int .u64 (r:Nat)]:=by rw [hW10,hb20];exact Box.new w9 _ _
          have hE10:=hE9H.out.low (hB.mono hM9H.out)
          obtain⟨hka64,hva64,hr64⟩:=h649H.out ka va r rfl
          have hSz:Hid (∀W,Below W10.heap.size W10 W→ ∀y,y<18446744073709551616→Calls Tryz.prog 27 #[.agg #[.pointer (some ⟨s,0,none⟩), .int .i64 (t:Nat)], .int .u64 (y:Nat)] W fun e w' =>e= .returned (.int .i64 (bszR R2 t y))∧Below W.heap.size W w'):=Lib.hid fun W hb y hy=>by
           obtain⟨N9,hr9,_⟩:=hE10.str.rd
           exact btSize_at (hr9.below hb) t htH.out y hy
          have hsz9: ∀y,(bnG R2 t y).size<18446744073709551616:=fun y=>by
           by_cases he9:bnE R2 t y=0
           · obtain⟨N9,hr9,_⟩:=hE10.str.rd
             exact(bnG_words hr9 htH.out he9).2.2.2.2
           · rw [bnG_off he9];show 0<_;decide
          obtain⟨u1,hu1,hu64,hu2,htl⟩:=top_wrap R2 t x r (hsz9 x) (hsz9 r)
          obtain⟨ts,hts⟩: ∃z,z=topSize R2 t x r:=⟨_,rfl⟩
          rw [←hts] at hu2 htl
          obtain⟨z1,hz1⟩: ∃z,z=bszR R2 t x:=⟨_,rfl⟩
          obtain⟨z2,hz2⟩: ∃z,z=bszR R2 t r:=⟨_,rfl⟩
          rw [←hz1,←hz2] at hu1
          obtain⟨z3,hz3⟩: ∃z,z=wrap64 (z1+z2):=⟨_,rfl⟩
          rw [←hz3] at hu1
          have hz4:IntKind.i64.wrap (z1+z2)=z3:=by rw [hz3];exact IntWalk.i64_left _
          have hz3' :wrap64 (z1+z2)=z3:=hz3.symm
          have hS1:=hSz.out W10.drew (below_drawn W10) x hx
          rw [←hz1] at hS1
          have hS1H:=Lib.hid hS1
          have hS2H:Hid (∀W,Below W10.heap.size W10 W→Calls Tryz.prog 27 #[.agg #[.pointer (some ⟨s,0,none⟩), .int .i64 (t:Nat)], .int .u64 (r:Nat)] W fun e w' =>e= .returned (.int .i64 z2)∧Below W.heap.size W w'):=Lib.hid fun W hb=>by rw [hz2];exact hSz.out W hb r hr64
          have htsH:=Lib.hid hts
          have hok21:Hid ((BN.mk [ka] [va] [x,r] ts).Ok):=Lib.hid ⟨fun z hz=>(by rw [List.mem_singleton.1 hz];exact hka64),fun z hz=>(by rw [List.mem_singleton.1 hz];exact hva64),fun z hz=>(by rcases List.mem_cons.1 hz with h9|h9;rw [h9];exact hx;rw [List.mem_singleton.1 h9];exact hr64),htl⟩
          have s9:=Lib.hid (t9.out.below hB)
          have s13:=t13.out.below hB
          have x20H:=Lib.hid x20
          have hE10H:=Lib.hid hE10
          have hBH:=Lib.hid hB
          have e200:=x20.at' (i:=0) rfl
          have x1:=fun X:Exw (fun _=>False) W10=>X.cell (s13.at' (i:=0) rfl) (fun h=>h)
          have x2:=fun X:Exw (fun _=>False) W10=>X.cell (s13.at' (i:=1) rfl) (fun h=>h)
          have x3:=fun X:Exw (fun _=>False) W10=>X.cell (x20.at' (i:=3) rfl) (fun h=>h)
          have hb20H:Hid (w9.heap.size≤b20):=Lib.hid (Nat.le_of_eq hb20.symm)
          clear hz1 hz2 hz3 hts hS1 hsz9 hE10 hW10 hb20 hB x20 s13 hka64 hva64 htl
          go_upto_region 20 with (fail)
          refine wp_region_tree (fun w' => ∃X:Exw (fun _=>False) W10,w' =X.W) [6,7,8,9,10] (.r 0<| .r 1<| .r 3<| .r 4<| .r 5<| .a 2<| .a 6<| .a 7<| .a 8<| .a 9<| .a 10<| .nil) hmo (by kernel_rfl) (by kernel_rfl) (by kernel_rfl) (exw_start _ _) (fun _ _ d _ _ h=>by cases d<;>exact h) ?_
          iterate 5 (refine wpTree_r _ _ rfl rfl (by rintro _ ⟨X,rfl⟩;go_simp;exact rfl) ?_;go_simp)
          clear x1 x2 x3
          refine wpTree_a _ rfl (fun K hK=> ?_)
          go_wp2_with fail
          refine hS1H.out.mono ?_
          rintro e w11 ⟨rfl,hb11⟩
          have hB11:Below W10.heap.size W10 w11:=(below_drawn W10).trans (hb11.mono (Nat.le_refl _))
          have hex:=exw_below (B:=fun _=>False) hB11
          have hS3H:=Lib.hid (hS2H.out w11 hB11)
          have hB11H:=Lib.hid hB11
          clear hb11 hB11
          go_wp2
          refine hK _ _ hex ?_
          clear hK K hex
          refine wpTree_z _ rfl (by decide) (fun K hK=> ?_)
          go_wp2_with fail
          refine hS3H.out.mono ?_
          rintro e w12 ⟨rfl,hb12⟩
          have hB12:Below W10.heap.size W10 w12:=hB11H.out.trans (hb12.mono hB11H.out.size)
          have hB12H:=Lib.hid hB12
          clear hb12 hB12
          go_wp2
          refine hK _ _ ?_
          clear hK K
          refine wpTree_z _ rfl (by decide) (fun K hK=> ?_)
          go_wp2
          refine hK _ _ ?_
          clear hK K
          refine wpTree_z _ rfl (by decide) (fun K hK=> ?_)
          go_wp2
          refine hK _ _ ?_
          clear hK K
          refine wpTree_z _ rfl (by decide) (fun K hK=> ?_)
          go_wp2
          refine hK _ _ ?_
          clear hK K
          refine wpTree_z _ rfl (by decide) (fun K hK=> ?_)
          go_wp2
          refine hK _ _ (wpTree_nil ?_)
          clear hK K
          have hM10:w8.heap.size≤W10.heap.size:=Nat.le_trans hM9H.out hBH.out.size
          have hE12:=Lib.hid (hE10H.out.low (hB12H.out.mono hM10))
          have hM12:Hid (w8.heap.size≤w12.heap.size):=Lib.hid (Nat.le_trans hM10 hB12H.out.size)
          have hT12:=Lib.hid ((hT9H.out.trans (Turn.below hBH.out)).trans (Turn.below hB12H.out))
          have v9:=Lib.hid (s9.out.below hB12H.out)
          have x20:=Lib.hid (x20H.out.below hB12H.out)
          have hn20: ¬FB F' bl b20:=fun h9=>by
           have h8:=hE8.out.fb b20 h9
           have:b20<w8.heap.size:=h8
           have:=hM9H.out
           exact absurd h8 (Nat.not_lt.2 (Nat.le_trans hM9H.out hb20H.out))
          clear hM10
          have x1:=fun X:Exw (FB F' bl) w12=>X.cell (x20.out.at' (i:=1) rfl) hn20
          have x2:=fun X:Exw (FB F' bl) w12=>X.cell (x20.out.at' (i:=2) rfl) hn20
          have x3:=fun X:Exw (FB F' bl) w12=>X.cell (x20.out.at' (i:=3) rfl) hn20
          have x4:=fun X:Exw (FB F' bl) w12=>X.cell (v9.out.at' (i:=0) rfl) hn9.out
          have x5:=fun X:Exw (FB F' bl) w12=>X.cell (v9.out.at' (i:=1) rfl) hn9.out
          go_upto_region 21 with (fail)
          refine wp_region_tree (fun w' => ∃X:Exw (FB F' bl) w12,w' =X.W) [18,19,20] (.r 0<| .r 1<| .r 2<| .r 3<| .r 5<| .r 6<| .r 7<| .r 9<| .r 10<| .r 11<| .r 13<| .r 16<| .three 4 (.two 8 (.a 12<| .r 14<| .a 15<| .r 17<| .a 18<| .a 19<| .a 20<| .nil) 12 (.a 8<| .r 14<| .a 15<| .r 17<| .a 18<| .a 19<| .a 20<| .nil)) 8 (.two 4 (.a 12<| .r 14<| .a 15<| .r 17<| .a 18<| .a 19<| .a 20<| .nil) 12 (.a 4<| .r 14<| .a 15<| .r 17<| .a 18<| .a 19<| .a 20<| .nil)) 12 (.two 4 (.a 8<| .r 14<| .a 15<| .r 17<| .a 18<| .a 19<| .a 20<| .nil) 8 (.a 4<| .r 14<| .a 15<| .r 17<| .a 18<| .a 19<| .a 20<| .nil))) hmo (by kernel_rfl) (by kernel_rfl) (by kernel_rfl) (exw_start _ _) (fun _ _ d _ _ h=>by cases d<;>exact h) ?_
          iterate 12 (refine wpTree_r _ _ rfl rfl (by rintro _ ⟨X,rfl⟩;go_simp;exact rfl) ?_;go_simp)
          clear x1 x2 x3 x4 x5 hn20 hu1 hu2 hz4 hz3'
          refine wpTree_three _ _ _ rfl rfl rfl (fun K hK=> ?_) (fun K hK=> ?_) (fun K hK=> ?_)
          · go_wp2
            obtain⟨g1,hg1⟩: ∃b,b=w12.heap.size:=⟨_,rfl⟩
            obtain⟨V1,hV1⟩: ∃W,W=(w12.alloc (Obj.cells #[.int .u64 (ka:Nat)] 23)).drew:=⟨_,rfl⟩
            rw [←hV1,←hg1]
            have hB1:Below w12.heap.size w12 V1:=by rw [hV1];exact((Below.refl _ w12).alloc (Nat.le_refl _) _).drew
            have yg1:Box V1 g1 23 [.int .u64 (ka:Nat)]:=by rw [hV1,hg1];exact box_drew (Box.new _ _ _)
            have hgeg1:w12.heap.size≤g1:=by rw [hg1];exact Nat.le_refl _
            have yg1:=Lib.hid yg1
            have hgeg1:=Lib.hid hgeg1
            have hB1H:=Lib.hid hB1
            refine hK _ _ (exw_below (B:=FB F' bl) hB1) ?_
            clear hK K hV1 hg1 hB1
            refine wpTree_two _ _ rfl rfl (fun K hK=> ?_) (fun K hK=> ?_)
            · go_wp2
              obtain⟨g2,hg2⟩: ∃b,b=V1.heap.size:=⟨_,rfl⟩
              obtain⟨V2,hV2⟩: ∃W,W=(V1.alloc (Obj.cells #[.int .u64 (va:Nat)] 23)):=⟨_,rfl⟩
              rw [←hV2,←hg2]
              have hB2:Below w12.heap.size w12 V2:=by rw [hV2];exact hB1H.out.alloc hB1H.out.size _
              have yg2:Box V2 g2 23 [.int .u64 (va:Nat)]:=by rw [hV2,hg2];exact Box.new _ _ _
              have yg1:Box V2 g1 23 [.int .u64 (ka:Nat)]:=by rw [hV2];exact yg1.out.alloc _
              have hgeg2:w12.heap.size≤g2:=by rw [hg2];exact hB1H.out.size
              have yg1:=Lib.hid yg1
              have yg2:=Lib.hid yg2
              have hgeg2:=Lib.hid hgeg2
              have hB2H:=Lib.hid hB2
              refine hK _ _ (exw_below (B:=FB F' bl) hB2) ?_
              clear hK K hV2 hg2 hB2
              refine wpTree_a _ rfl (fun K hK=> ?_)
              go_wp2
              obtain⟨g3,hg3⟩: ∃b,b=V2.heap.size:=⟨_,rfl⟩
              obtain⟨V3,hV3⟩: ∃W,W=(V2.alloc (Obj.cells #[.int .u64 (x:Nat), .int .u64 (r:Nat)] 23)):=⟨_,rfl⟩
              rw [←hV3,←hg3]
              have hB3:Below w12.heap.size w12 V3:=by rw [hV3];exact hB2H.out.alloc hB2H.out.size _
              have yg3:Box V3 g3 23 [.int .u64 (x:Nat), .int .u64 (r:Nat)]:=by rw [hV3,hg3];exact Box.new _ _ _
              have yg1:Box V3 g1 23 [.int .u64 (ka:Nat)]:=by rw [hV3];exact yg1.out.alloc _
              have yg2:Box V3 g2 23 [.int .u64 (va:Nat)]:=by rw [hV3];exact yg2.out.alloc _
              have hgeg3:w12.heap.size≤g3:=by rw [hg3];exact hB2H.out.size
              have yg1:=Lib.hid yg1
              have yg2:=Lib.hid yg2
              have yg3:=Lib.hid yg3
              have hgeg3:=Lib.hid hgeg3
              have hB3H:=Lib.hid hB3
              refine hK _ _ (exw_below (B:=FB F' bl) hB3) ?_
              clear hK K hV3 hg3 hB3
              refine wpTree_r _ _ rfl rfl (by rintro _ ⟨X,rfl⟩;go_simp;exact rfl) ?_
              go_simp
              have hEW:=hE12.out.low (hB3H.out.mono hM12.out)
              as_aux_lemma=>
              obtain⟨vt,hvt,hTk⟩:=hEW.tk
              have nG: ∀{g},w12.heap.size≤g→ ¬FB F' bl g:=fun {g} h1 h2=>by have:=hE12.out.fb g h2;have:=hM12.out;omega
              have hTake:=btTake_at hEW.str htH.out hTk hEW.hN hEW.hbN hEW.w64 hEW.len (top_bnv yg1.out yg2.out yg3.out (nG hgeg1.out) (nG hgeg2.out) (nG hgeg3.out)) hok21.out
              obtain⟨pp,hpp⟩: ∃pp,pp=btake R2 t L2.reverse.reverse ⟨[ka],[va],[x,r],ts⟩:=⟨_,rfl⟩
              rw [←hpp,hvt] at hTake
              have hTakeH:=Lib.hid hTake
              have hEH2:=Lib.hid hEW
              have hppH:=Lib.hid hpp
              have hT9:=Lib.hid (Turn.below (F:=FB F' bl) hB3H.out)
              have c9:=Lib.hid (v9.out.below hB3H.out)
              clear hTake hEW hTk hpp nG
              refine wpTree_a _ rfl (fun K hK=> ?_)
              go_wp2_with fail
              refine hTakeH.out.mono ?_
              rintro e w26 ⟨v',st',hv',rfl,hst',hS26,hT26,hTk26⟩
              have hE26:=hEH2.out.take htH.out hppH.out hv' hst' hS26 hT26 hTk26
              have hT26H:=Lib.hid (hT9.out.trans hT26)
              have hex:=exw_turn (hT9.out.trans hT26)
              have r9:=c9.out.turn hT26 hn9.out
              have hE26H:=Lib.hid hE26
              obtain⟨p1,p2,p3⟩:=pp
              dsimp only
              have c0:=r9.at' (i:=0) rfl
              have c1:=r9.at' (i:=1) rfl
              have f0:=r9.free 0
              have f1:=r9.free 1
              have hq:=Lib.hid ((r9.set 0 (.int .u64 0)).set 1 (.int .u64 0))
              have hend:=Lib.hid (ins_end hE26.1.str (hTw.out.minus (hT12.out.trans hT26H.out) hblw.out) hlow.out.2.1 r9 ⟨_,rfl,fun p h9=>by cases h9⟩ hF9.out hlow.out.2.2.2 (.int .u64 0) (.int .u64 0))
              clear hE26 hT26 hS26 hTk26 r9 hTakeH hst' hv' c9
              go_wp2
              refine hK _ _ hex ?_
              clear hK K hex
              refine wpTree_r _ _ rfl rfl (by rintro _ ⟨X,rfl⟩;go_simp;exact rfl) ?_
              go_simp
              refine wpTree_z _ rfl (by decide) (fun K hK=> ?_)
              go_wp2
              refine hK _ _ ?_
              clear hK K
              refine wpTree_z _ rfl (by decide) (fun K hK=> ?_)
              go_wp2
              refine hK _ _ ?_
              clear hK K
              refine wpTree_z _ rfl (by decide) (fun K hK=> ?_)
              go_wp2
              refine hK _ _ (wpTree_nil ?_)
              clear hK K
              go_wp2
              have r0:=hq.out.at' (i:=0) rfl
              have r1:=hq.out.at' (i:=1) rfl
              refine bodyPost_ret (v:= .tuple #[.int .u64 (p3:Nat), .agg #[.int .u64 0, .int .u64 0], .bool false, .int .i64 0]) (by simp [results,Tryz.f9,go_sem,r0,r1]) rfl ?_
              have hk9:=hkeyH.out
              have hnn9:=hnH.out
              have hf9:=hfndH.out
              have hp9:=hppH.out
              subst hk9
              subst hnn9
              have hbt:binTop t (keyB R ak) ak av R1 st.reverse x=(p1,p2,p3):=by
               unfold binTop
               rw [if_neg hx0H.out,←hpH.out,hp9,List.reverse_reverse,htsH.out]
               rfl
              have hS9:=hend.out.1
              have h9:=InsTop.put (w:=w) (F:=F) (x:=x) he0.out hb01.out hf9.symm hlH.out hfrH.out h64H.out (by rw [hbt];exact hS9) hend.out.2 (by rw [hbt];exact hE26H.out.2)
              rw [hbt] at h9
              exact h9
            · go_wp2
              obtain⟨g3,hg3⟩: ∃b,b=V1.heap.size:=⟨_,rfl⟩
              obtain⟨V2,hV2⟩: ∃W,W=(V1.alloc (Obj.cells #[.int .u64 (x:Nat), .int .u64 (r:Nat)] 23)):=⟨_,rfl⟩
              rw [←hV2,←hg3]
              have hB2:Below w12.heap.size w12 V2:=by rw [hV2];exact hB1H.out.alloc hB1H.out.size _
              have yg3:Box V2 g3 23 [.int .u64 (x:Nat), .int .u64 (r:Nat)]:=by rw [hV2,hg3];exact Box.new _ _ _
              have yg1:Box V2 g1 23 [.int .u64 (ka:Nat)]:=by rw [hV2];exact yg1.out.alloc _
              have hgeg3:w12.heap.size≤g3:=by rw [hg3];exact hB1H.out.size
              have yg1:=Lib.hid yg1
              have yg3:=Lib.hid yg3
              have hgeg3:=Lib.hid hgeg3
              have hB2H:=Lib.hid hB2
              refine hK _ _ (exw_below (B:=FB F' bl) hB2) ?_
              clear hK K hV2 hg3 hB2
              refine wpTree_a _ rfl (fun K hK=> ?_)
              go_wp2
              obtain⟨g2,hg2⟩: ∃b,b=V2.heap.size:=⟨_,rfl⟩
              obtain⟨V3,hV3⟩: ∃W,W=(V2.alloc (Obj.cells #[.int .u64 (va:Nat)] 23)):=⟨_,rfl⟩
              rw [←hV3,←hg2]
              have hB3:Below w12.heap.size w12 V3:=by rw [hV3];exact hB2H.out.alloc hB2H.out.size _
              have yg2:Box V3 g2 23 [.int .u64 (va:Nat)]:=by rw [hV3,hg2];exact Box.new _ _ _
              have yg1:Box V3 g1 23 [.int .u64 (ka:Nat)]:=by rw [hV3];exact yg1.out.alloc _
              have yg3:Box V3 g3 23 [.int .u64 (x:Nat), .int .u64 (r:Nat)]:=by rw [hV3];exact yg3.out.alloc _
              have hgeg2:w12.heap.size≤g2:=by rw [hg2];exact hB2H.out.size
              have yg1:=Lib.hid yg1
              have yg3:=Lib.hid yg3
              have yg2:=Lib.hid yg2
              have hgeg2:=Lib.hid hgeg2
              have hB3H:=Lib.hid hB3
              refine hK _ _ (exw_below (B:=FB F' bl) hB3) ?_
              clear hK K hV3 hg2 hB3
              refine wpTree_r _ _ rfl rfl (by rintro _ ⟨X,rfl⟩;go_simp;exact rfl) ?_
              go_simp
              have hEW:=hE12.out.low (hB3H.out.mono hM12.out)
              as_aux_lemma=>
              obtain⟨vt,hvt,hTk⟩:=hEW.tk
              have nG: ∀{g},w12.heap.size≤g→ ¬FB F' bl g:=fun {g} h1 h2=>by have:=hE12.out.fb g h2;have:=hM12.out;omega
              have hTake:=btTake_at hEW.str htH.out hTk hEW.hN hEW.hbN hEW.w64 hEW.len (top_bnv yg1.out yg2.out yg3.out (nG hgeg1.out) (nG hgeg2.out) (nG hgeg3.out)) hok21.out
              obtain⟨pp,hpp⟩: ∃pp,pp=btake R2 t L2.reverse.reverse ⟨[ka],[va],[x,r],ts⟩:=⟨_,rfl⟩
              rw [←hpp,hvt] at hTake
              have hTakeH:=Lib.hid hTake
              have hEH2:=Lib.hid hEW
              have hppH:=Lib.hid hpp
              have hT9:=Lib.hid (Turn.below (F:=FB F' bl) hB3H.out)
              have c9:=Lib.hid (v9.out.below hB3H.out)
              clear hTake hEW hTk hpp nG
              refine wpTree_a _ rfl (fun K hK=> ?_)
              go_wp2_with fail
              refine hTakeH.out.mono ?_
              rintro e w26 ⟨v',st',hv',rfl,hst',hS26,hT26,hTk26⟩
              have hE26:=hEH2.out.take htH.out hppH.out hv' hst' hS26 hT26 hTk26
              have hT26H:=Lib.hid (hT9.out.trans hT26)
              have hex:=exw_turn (hT9.out.trans hT26)
              have r9:=c9.out.turn hT26 hn9.out
              have hE26H:=Lib.hid hE26
              obtain⟨p1,p2,p3⟩:=pp
              dsimp only
              have c0:=r9.at' (i:=0) rfl
              have c1:=r9.at' (i:=1) rfl
              have f0:=r9.free 0
              have f1:=r9.free 1
              have hq:=Lib.hid ((r9.set 0 (.int .u64 0)).set 1 (.int .u64 0))
              have hend:=Lib.hid (ins_end hE26.1.str (hTw.out.minus (hT12.out.trans hT26H.out) hblw.out) hlow.out.2.1 r9 ⟨_,rfl,fun p h9=>by cases h9⟩ hF9.out hlow.out.2.2.2 (.int .u64 0) (.int .u64 0))
              clear hE26 hT26 hS26 hTk26 r9 hTakeH hst' hv' c9
              go_wp2
              refine hK _ _ hex ?_
              clear hK K hex
              refine wpTree_r _ _ rfl rfl (by rintro _ ⟨X,rfl⟩;go_simp;exact rfl) ?_
              go_simp
              refine wpTree_z _ rfl (by decide) (fun K hK=> ?_)
              go_wp2
              refine hK _ _ ?_
              clear hK K
              refine wpTree_z _ rfl (by decide) (fun K hK=> ?_)
              go_wp2
              refine hK _ _ ?_
              clear hK K
              refine wpTree_z _ rfl (by decide) (fun K hK=> ?_)
              go_wp2
              refine hK _ _ (wpTree_nil ?_)
              clear hK K
              go_wp2
              have r0:=hq.out.at' (i:=0) rfl
              have r1:=hq.out.at' (i:=1) rfl
              refine bodyPost_ret (v:= .tuple #[.int .u64 (p3:Nat), .agg #[.int .u64 0, .int .u64 0], .bool false, .int .i64 0]) (by simp [results,Tryz.f9,go_sem,r0,r1]) rfl ?_
              have hk9:=hkeyH.out
              have hnn9:=hnH.out
              have hf9:=hfndH.out
              have hp9:=hppH.out
              subst hk9
              subst hnn9
              have hbt:binTop t (keyB R ak) ak av R1 st.reverse x=(p1,p2,p3):=by
               unfold binTop
               rw [if_neg hx0H.out,←hpH.out,hp9,List.reverse_reverse,htsH.out]
               rfl
              have hS9:=hend.out.1
              have h9:=InsTop.put (w:=w) (F:=F) (x:=x) he0.out hb01.out hf9.symm hlH.out hfrH.out h64H.out (by rw [hbt];exact hS9) hend.out.2 (by rw [hbt];exact hE26H.out.2)
              rw [hbt] at h9
              exact h9
          · go_wp2
            obtain⟨g2,hg2⟩: ∃b,b=w12.heap.size:=⟨_,rfl⟩
            obtain⟨V1,hV1⟩: ∃W,W=(w12.alloc (Obj.cells #[.int .u64 (va:Nat)] 23)).drew:=⟨_,rfl⟩
            rw [←hV1,←hg2]
            have hB1:Below w12.heap.size w12 V1:=by rw [hV1];exact((Below.refl _ w12).alloc (Nat.le_refl _) _).drew
            have yg2:Box V1 g2 23 [.int .u64 (va:Nat)]:=by rw [hV1,hg2];exact box_drew (Box.new _ _ _)
            have hgeg2:w12.heap.size≤g2:=by rw [hg2];exact Nat.le_refl _
            have yg2:=Lib.hid yg2
            have hgeg2:=Lib.hid hgeg2
            have hB1H:=Lib.hid hB1
            refine hK _ _ (exw_below (B:=FB F' bl) hB1) ?_
            clear hK K hV1 hg2 hB1
            refine wpTree_two _ _ rfl rfl (fun K hK=> ?_) (fun K hK=> ?_)
            · go_wp2
              obtain⟨g1,hg1⟩: ∃b,b=V1.heap.size:=⟨_,rfl⟩
              obtain⟨V2,hV2⟩: ∃W,W=(V1.alloc (Obj.cells #[.int .u64 (ka:Nat)] 23)):=⟨_,rfl⟩
              rw [←hV2,←hg1]
              have hB2:Below w12.heap.size w12 V2:=by rw [hV2];exact hB1H.out.alloc hB1H.out.size _
              have yg1:Box V2 g1 23 [.int .u64 (ka:Nat)]:=by rw [hV2,hg1];exact Box.new _ _ _
              have yg2:Box V2 g2 23 [.int .u64 (va:Nat)]:=by rw [hV2];exact yg2.out.alloc _
              have hgeg1:w12.heap.size≤g1:=by rw [hg1];exact hB1H.out.size
              have yg2:=Lib.hid yg2
              have yg1:=Lib.hid yg1
              have hgeg1:=Lib.hid hgeg1
              have hB2H:=Lib.hid hB2
              refine hK _ _ (exw_below (B:=FB F' bl) hB2) ?_
              clear hK K hV2 hg1 hB2
              refine wpTree_a _ rfl (fun K hK=> ?_)
              go_wp2
              obtain⟨g3,hg3⟩: ∃b,b=V2.heap.size:=⟨_,rfl⟩
              obtain⟨V3,hV3⟩: ∃W,W=(V2.alloc (Obj.cells #[.int .u64 (x:Nat), .int .u64 (r:Nat)] 23)):=⟨_,rfl⟩
              rw [←hV3,←hg3]
              have hB3:Below w12.heap.size w12 V3:=by rw [hV3];exact hB2H.out.alloc hB2H.out.size _
              have yg3:Box V3 g3 23 [.int .u64 (x:Nat), .int .u64 (r:Nat)]:=by rw [hV3,hg3];exact Box.new _ _ _
              have yg2:Box V3 g2 23 [.int .u64 (va:Nat)]:=by rw [hV3];exact yg2.out.alloc _
              have yg1:Box V3 g1 23 [.int .u64 (ka:Nat)]:=by rw [hV3];exact yg1.out.alloc _
              have hgeg3:w12.heap.size≤g3:=by rw [hg3];exact hB2H.out.size
              have yg2:=Lib.hid yg2
              have yg1:=Lib.hid yg1
              have yg3:=Lib.hid yg3
              have hgeg3:=Lib.hid hgeg3
              have hB3H:=Lib.hid hB3
              refine hK _ _ (exw_below (B:=FB F' bl) hB3) ?_
              clear hK K hV3 hg3 hB3
              refine wpTree_r _ _ rfl rfl (by rintro _ ⟨X,rfl⟩;go_simp;exact rfl) ?_
              go_simp
              have hEW:=hE12.out.low (hB3H.out.mono hM12.out)
              as_aux_lemma=>
              obtain⟨vt,hvt,hTk⟩:=hEW.tk
              have nG: ∀{g},w12.heap.size≤g→ ¬FB F' bl g:=fun {g} h1 h2=>by have:=hE12.out.fb g h2;have:=hM12.out;omega
              have hTake:=btTake_at hEW.str htH.out hTk hEW.hN hEW.hbN hEW.w64 hEW.len (top_bnv yg1.out yg2.out yg3.out (nG hgeg1.out) (nG hgeg2.out) (nG hgeg3.out)) hok21.out
              obtain⟨pp,hpp⟩: ∃pp,pp=btake R2 t L2.reverse.reverse ⟨[ka],[va],[x,r],ts⟩:=⟨_,rfl⟩
              rw [←hpp,hvt] at hTake
              have hTakeH:=Lib.hid hTake
              have hEH2:=Lib.hid hEW
              have hppH:=Lib.hid hpp
              have hT9:=Lib.hid (Turn.below (F:=FB F' bl) hB3H.out)
              have c9:=Lib.hid (v9.out.below hB3H.out)
              clear hTake hEW hTk hpp nG
              refine wpTree_a _ rfl (fun K hK=> ?_)
              go_wp2_with fail
              refine hTakeH.out.mono ?_
              rintro e w26 ⟨v',st',hv',rfl,hst',hS26,hT26,hTk26⟩
              have hE26:=hEH2.out.take htH.out hppH.out hv' hst' hS26 hT26 hTk26
              have hT26H:=Lib.hid (hT9.out.trans hT26)
              have hex:=exw_turn (hT9.out.trans hT26)
              have r9:=c9.out.turn hT26 hn9.out
              have hE26H:=Lib.hid hE26
              obtain⟨p1,p2,p3⟩:=pp
              dsimp only
              have c0:=r9.at' (i:=0) rfl
              have c1:=r9.at' (i:=1) rfl
              have f0:=r9.free 0
              have f1:=r9.free 1
              have hq:=Lib.hid ((r9.set 0 (.int .u64 0)).set 1 (.int .u64 0))
              have hend:=Lib.hid (ins_end hE26.1.str (hTw.out.minus (hT12.out.trans hT26H.out) hblw.out) hlow.out.2.1 r9 ⟨_,rfl,fun p h9=>by cases h9⟩ hF9.out hlow.out.2.2.2 (.int .u64 0) (.int .u64 0))
              clear hE26 hT26 hS26 hTk26 r9 hTakeH hst' hv' c9
              go_wp2
              refine hK _ _ hex ?_
              clear hK K hex
              refine wpTree_r _ _ rfl rfl (by rintro _ ⟨X,rfl⟩;go_simp;exact rfl) ?_
              go_simp
              refine wpTree_z _ rfl (by decide) (fun K hK=> ?_)
              go_wp2
              refine hK _ _ ?_
              clear hK K
              refine wpTree_z _ rfl (by decide) (fun K hK=> ?_)
              go_wp2
              refine hK _ _ ?_
              clear hK K
              refine wpTree_z _ rfl (by decide) (fun K hK=> ?_)
              go_wp2
              refine hK _ _ (wpTree_nil ?_)
              clear hK K
              go_wp2
              have r0:=hq.out.at' (i:=0) rfl
              have r1:=hq.out.at' (i:=1) rfl
              refine bodyPost_ret (v:= .tuple #[.int .u64 (p3:Nat), .agg #[.int .u64 0, .int .u64 0], .bool false, .int .i64 0]) (by simp [results,Tryz.f9,go_sem,r0,r1]) rfl ?_
              have hk9:=hkeyH.out
              have hnn9:=hnH.out
              have hf9:=hfndH.out
              have hp9:=hppH.out
              subst hk9
              subst hnn9
              have hbt:binTop t (keyB R ak) ak av R1 st.reverse x=(p1,p2,p3):=by
               unfold binTop
               rw [if_neg hx0H.out,←hpH.out,hp9,List.reverse_reverse,htsH.out]
               rfl
              have hS9:=hend.out.1
              have h9:=InsTop.put (w:=w) (F:=F) (x:=x) he0.out hb01.out hf9.symm hlH.out hfrH.out h64H.out (by rw [hbt];exact hS9) hend.out.2 (by rw [hbt];exact hE26H.out.2)
              rw [hbt] at h9
              exact h9
            · go_wp2
              obtain⟨g3,hg3⟩: ∃b,b=V1.heap.size:=⟨_,rfl⟩
              obtain⟨V2,hV2⟩: ∃W,W=(V1.alloc (Obj.cells #[.int .u64 (x:Nat), .int .u64 (r:Nat)] 23)):=⟨_,rfl⟩
              rw [←hV2,←hg3]
              have hB2:Below w12.heap.size w12 V2:=by rw [hV2];exact hB1H.out.alloc hB1H.out.size _
              have yg3:Box V2 g3 23 [.int .u64 (x:Nat), .int .u64 (r:Nat)]:=by rw [hV2,hg3];exact Box.new _ _ _
              have yg2:Box V2 g2 23 [.int .u64 (va:Nat)]:=by rw [hV2];exact yg2.out.alloc _
              have hgeg3:w12.heap.size≤g3:=by rw [hg3];exact hB1H.out.size
              have yg2:=Lib.hid yg2
              have yg3:=Lib.hid yg3
              have hgeg3:=Lib.hid hgeg3
              have hB2H:=Lib.hid hB2
              refine hK _ _ (exw_below (B:=FB F' bl) hB2) ?_
              clear hK K hV2 hg3 hB2
              refine wpTree_a _ rfl (fun K hK=> ?_)
              go_wp2
              obtain⟨g1,hg1⟩: ∃b,b=V2.heap.size:=⟨_,rfl⟩
              obtain⟨V3,hV3⟩: ∃W,W=(V2.alloc (Obj.cells #[.int .u64 (ka:Nat)] 23)):=⟨_,rfl⟩
              rw [←hV3,←hg1]
              have hB3:Below w12.heap.size w12 V3:=by rw [hV3];exact hB2H.out.alloc hB2H.out.size _
              have yg1:Box V3 g1 23 [.int .u64 (ka:Nat)]:=by rw [hV3,hg1];exact Box.new _ _ _
              have yg2:Box V3 g2 23 [.int .u64 (va:Nat)]:=by rw [hV3];exact yg2.out.alloc _
              have yg3:Box V3 g3 23 [.int .u64 (x:Nat), .int .u64 (r:Nat)]:=by rw [hV3];exact yg3.out.alloc _
              have hgeg1:w12.heap.size≤g1:=by rw [hg1];exact hB2H.out.size
              have yg2:=Lib.hid yg2
              have yg3:=Lib.hid yg3
              have yg1:=Lib.hid yg1
              have hgeg1:=Lib.hid hgeg1
              have hB3H:=Lib.hid hB3
              refine hK _ _ (exw_below (B:=FB F' bl) hB3) ?_
              clear hK K hV3 hg1 hB3
              refine wpTree_r _ _ rfl rfl (by rintro _ ⟨X,rfl⟩;go_simp;exact rfl) ?_
              go_simp
              have hEW:=hE12.out.low (hB3H.out.mono hM12.out)
              as_aux_lemma=>
              obtain⟨vt,hvt,hTk⟩:=hEW.tk
              have nG: ∀{g},w12.heap.size≤g→ ¬FB F' bl g:=fun {g} h1 h2=>by have:=hE12.out.fb g h2;have:=hM12.out;omega
              have hTake:=btTake_at hEW.str htH.out hTk hEW.hN hEW.hbN hEW.w64 hEW.len (top_bnv yg1.out yg2.out yg3.out (nG hgeg1.out) (nG hgeg2.out) (nG hgeg3.out)) hok21.out
              obtain⟨pp,hpp⟩: ∃pp,pp=btake R2 t L2.reverse.reverse ⟨[ka],[va],[x,r],ts⟩:=⟨_,rfl⟩
              rw [←hpp,hvt] at hTake
              have hTakeH:=Lib.hid hTake
              have hEH2:=Lib.hid hEW
              have hppH:=Lib.hid hpp
              have hT9:=Lib.hid (Turn.below (F:=FB F' bl) hB3H.out)
              have c9:=Lib.hid (v9.out.below hB3H.out)
              clear hTake hEW hTk hpp nG
              refine wpTree_a _ rfl (fun K hK=> ?_)
              go_wp2_with fail
              refine hTakeH.out.mono ?_
              rintro e w26 ⟨v',st',hv',rfl,hst',hS26,hT26,hTk26⟩
              have hE26:=hEH2.out.take htH.out hppH.out hv' hst' hS26 hT26 hTk26
              have hT26H:=Lib.hid (hT9.out.trans hT26)
              have hex:=exw_turn (hT9.out.trans hT26)
              have r9:=c9.out.turn hT26 hn9.out
              have hE26H:=Lib.hid hE26
              obtain⟨p1,p2,p3⟩:=pp
              dsimp only
              have c0:=r9.at' (i:=0) rfl
              have c1:=r9.at' (i:=1) rfl
              have f0:=r9.free 0
              have f1:=r9.free 1
              have hq:=Lib.hid ((r9.set 0 (.int .u64 0)).set 1 (.int .u64 0))
              have hend:=Lib.hid (ins_end hE26.1.str (hTw.out.minus (hT12.out.trans hT26H.out) hblw.out) hlow.out.2.1 r9 ⟨_,rfl,fun p h9=>by cases h9⟩ hF9.out hlow.out.2.2.2 (.int .u64 0) (.int .u64 0))
              clear hE26 hT26 hS26 hTk26 r9 hTakeH hst' hv' c9
              go_wp2
              refine hK _ _ hex ?_
              clear hK K hex
              refine wpTree_r _ _ rfl rfl (by rintro _ ⟨X,rfl⟩;go_simp;exact rfl) ?_
              go_simp
              refine wpTree_z _ rfl (by decide) (fun K hK=> ?_)
              go_wp2
              refine hK _ _ ?_
              clear hK K
              refine wpTree_z _ rfl (by decide) (fun K hK=> ?_)
              go_wp2
              refine hK _ _ ?_
              clear hK K
              refine wpTree_z _ rfl (by decide) (fun K hK=> ?_)
              go_wp2
              refine hK _ _ (wpTree_nil ?_)
              clear hK K
              go_wp2
              have r0:=hq.out.at' (i:=0) rfl
              have r1:=hq.out.at' (i:=1) rfl
              refine bodyPost_ret (v:= .tuple #[.int .u64 (p3:Nat), .agg #[.int .u64 0, .int .u64 0], .bool false, .int .i64 0]) (by simp [results,Tryz.f9,go_sem,r0,r1]) rfl ?_
              have hk9:=hkeyH.out
              have hnn9:=hnH.out
              have hf9:=hfndH.out
              have hp9:=hppH.out
              subst hk9
              subst hnn9
              have hbt:binTop t (keyB R ak) ak av R1 st.reverse x=(p1,p2,p3):=by
               unfold binTop
               rw [if_neg hx0H.out,←hpH.out,hp9,List.reverse_reverse,htsH.out]
               rfl
              have hS9:=hend.out.1
              have h9:=InsTop.put (w:=w) (F:=F) (x:=x) he0.out hb01.out hf9.symm hlH.out hfrH.out h64H.out (by rw [hbt];exact hS9) hend.out.2 (by rw [hbt];exact hE26H.out.2)
              rw [hbt] at h9
              exact h9
          · go_wp2
            obtain⟨g3,hg3⟩: ∃b,b=w12.heap.size:=⟨_,rfl⟩
            obtain⟨V1,hV1⟩: ∃W,W=(w12.alloc (Obj.cells #[.int .u64 (x:Nat), .int .u64 (r:Nat)] 23)).drew:=⟨_,rfl⟩
            rw [←hV1,←hg3]
            have hB1:Below w12.heap.size w12 V1:=by rw [hV1];exact((Below.refl _ w12).alloc (Nat.le_refl _) _).drew
            have yg3:Box V1 g3 23 [.int .u64 (x:Nat), .int .u64 (r:Nat)]:=by rw [hV1,hg3];exact box_drew (Box.new _ _ _)
            have hgeg3:w12.heap.size≤g3:=by rw [hg3];exact Nat.le_refl _
            have yg3:=Lib.hid yg3
            have hgeg3:=Lib.hid hgeg3
            have hB1H:=Lib.hid hB1
            refine hK _ _ (exw_below (B:=FB F' bl) hB1) ?_
            clear hK K hV1 hg3 hB1
            refine wpTree_two _ _ rfl rfl (fun K hK=> ?_) (fun K hK=> ?_)
            · go_wp2
              obtain⟨g1,hg1⟩: ∃b,b=V1.heap.size:=⟨_,rfl⟩
              obtain⟨V2,hV2⟩: ∃W,W=(V1.alloc (Obj.cells #[.int .u64 (ka:Nat)] 23)):=⟨_,rfl⟩
              rw [←hV2,←hg1]
              have hB2:Below w12.heap.size w12 V2:=by rw [hV2];exact hB1H.out.alloc hB1H.out.size _
              have yg1:Box V2 g1 23 [.int .u64 (ka:Nat)]:=by rw [hV2,hg1];exact Box.new _ _ _
              have yg3:Box V2 g3 23 [.int .u64 (x:Nat), .int .u64 (r:Nat)]:=by rw [hV2];exact yg3.out.alloc _
              have hgeg1:w12.heap.size≤g1:=by rw [hg1];exact hB1H.out.size
              have yg3:=Lib.hid yg3
              have yg1:=Lib.hid yg1
              have hgeg1:=Lib.hid hgeg1
              have hB2H:=Lib.hid hB2
              refine hK _ _ (exw_below (B:=FB F' bl) hB2) ?_
              clear hK K hV2 hg1 hB2
              refine wpTree_a _ rfl (fun K hK=> ?_)
              go_wp2
              obtain⟨g2,hg2⟩: ∃b,b=V2.heap.size:=⟨_,rfl⟩
              obtain⟨V3,hV3⟩: ∃W,W=(V2.alloc (Obj.cells #[.int .u64 (va:Nat)] 23)):=⟨_,rfl⟩
              rw [←hV3,←hg2]
              have hB3:Below w12.heap.size w12 V3:=by rw [hV3];exact hB2H.out.alloc hB2H.out.size _
              have yg2:Box V3 g2 23 [.int .u64 (va:Nat)]:=by rw [hV3,hg2];exact Box.new _ _ _
              have yg3:Box V3 g3 23 [.int .u64 (x:Nat), .int .u64 (r:Nat)]:=by rw [hV3];exact yg3.out.alloc _
              have yg1:Box V3 g1 23 [.int .u64 (ka:Nat)]:=by rw [hV3];exact yg1.out.alloc _
              have hgeg2:w12.heap.size≤g2:=by rw [hg2];exact hB2H.out.size
              have yg3:=Lib.hid yg3
              have yg1:=Lib.hid yg1
              have yg2:=Lib.hid yg2
              have hgeg2:=Lib.hid hgeg2
              have hB3H:=Lib.hid hB3
              refine hK _ _ (exw_below (B:=FB F' bl) hB3) ?_
              clear hK K hV3 hg2 hB3
              refine wpTree_r _ _ rfl rfl (by rintro _ ⟨X,rfl⟩;go_simp;exact rfl) ?_
              go_simp
              have hEW:=hE12.out.low (hB3H.out.mono hM12.out)
              as_aux_lemma=>
              obtain⟨vt,hvt,hTk⟩:=hEW.tk
              have nG: ∀{g},w12.heap.size≤g→ ¬FB F' bl g:=fun {g} h1 h2=>by have:=hE12.out.fb g h2;have:=hM12.out;omega
              have hTake:=btTake_at hEW.str htH.out hTk hEW.hN hEW.hbN hEW.w64 hEW.len (top_bnv yg1.out yg2.out yg3.out (nG hgeg1.out) (nG hgeg2.out) (nG hgeg3.out)) hok21.out
              obtain⟨pp,hpp⟩: ∃pp,pp=btake R2 t L2.reverse.reverse ⟨[ka],[va],[x,r],ts⟩:=⟨_,rfl⟩
              rw [←hpp,hvt] at hTake
              have hTakeH:=Lib.hid hTake
              have hEH2:=Lib.hid hEW
              have hppH:=Lib.hid hpp
              have hT9:=Lib.hid (Turn.below (F:=FB F' bl) hB3H.out)
              have c9:=Lib.hid (v9.out.below hB3H.out)
              clear hTake hEW hTk hpp nG
              refine wpTree_a _ rfl (fun K hK=> ?_)
              go_wp2_with fail
              refine hTakeH.out.mono ?_
              rintro e w26 ⟨v',st',hv',rfl,hst',hS26,hT26,hTk26⟩
              have hE26:=hEH2.out.take htH.out hppH.out hv' hst' hS26 hT26 hTk26
              have hT26H:=Lib.hid (hT9.out.trans hT26)
              have hex:=exw_turn (hT9.out.trans hT26)
              have r9:=c9.out.turn hT26 hn9.out
              have hE26H:=Lib.hid hE26
              obtain⟨p1,p2,p3⟩:=pp
              dsimp only
              have c0:=r9.at' (i:=0) rfl
              have c1:=r9.at' (i:=1) rfl
              have f0:=r9.free 0
              have f1:=r9.free 1
              have hq:=Lib.hid ((r9.set 0 (.int .u64 0)).set 1 (.int .u64 0))
              have hend:=Lib.hid (ins_end hE26.1.str (hTw.out.minus (hT12.out.trans hT26H.out) hblw.out) hlow.out.2.1 r9 ⟨_,rfl,fun p h9=>by cases h9⟩ hF9.out hlow.out.2.2.2 (.int .u64 0) (.int .u64 0))
              clear hE26 hT26 hS26 hTk26 r9 hTakeH hst' hv' c9
              go_wp2
              refine hK _ _ hex ?_
              clear hK K hex
              refine wpTree_r _ _ rfl rfl (by rintro _ ⟨X,rfl⟩;go_simp;exact rfl) ?_
              go_simp
              refine wpTree_z _ rfl (by decide) (fun K hK=> ?_)
              go_wp2
              refine hK _ _ ?_
              clear hK K
              refine wpTree_z _ rfl (by decide) (fun K hK=> ?_)
              go_wp2
              refine hK _ _ ?_
              clear hK K
              refine wpTree_z _ rfl (by decide) (fun K hK=> ?_)
              go_wp2
              refine hK _ _ (wpTree_nil ?_)
              clear hK K
              go_wp2
              have r0:=hq.out.at' (i:=0) rfl
              have r1:=hq.out.at' (i:=1) rfl
              refine bodyPost_ret (v:= .tuple #[.int .u64 (p3:Nat), .agg #[.int .u64 0, .int .u64 0], .bool false, .int .i64 0]) (by simp [results,Tryz.f9,go_sem,r0,r1]) rfl ?_
              have hk9:=hkeyH.out
              have hnn9:=hnH.out
              have hf9:=hfndH.out
              have hp9:=hppH.out
              subst hk9
              subst hnn9
              have hbt:binTop t (keyB R ak) ak av R1 st.reverse x=(p1,p2,p3):=by
               unfold binTop
               rw [if_neg hx0H.out,←hpH.out,hp9,List.reverse_reverse,htsH.out]
               rfl
              have hS9:=hend.out.1
              have h9:=InsTop.put (w:=w) (F:=F) (x:=x) he0.out hb01.out hf9.symm hlH.out hfrH.out h64H.out (by rw [hbt];exact hS9) hend.out.2 (by rw [hbt];exact hE26H.out.2)
              rw [hbt] at h9
              exact h9
            · go_wp2
              obtain⟨g2,hg2⟩: ∃b,b=V1.heap.size:=⟨_,rfl⟩
              obtain⟨V2,hV2⟩: ∃W,W=(V1.alloc (Obj.cells #[.int .u64 (va:Nat)] 23)):=⟨_,rfl⟩
              rw [←hV2,←hg2]
              have hB2:Below w12.heap.size w12 V2:=by rw [hV2];exact hB1H.out.alloc hB1H.out.size _
              have yg2:Box V2 g2 23 [.int .u64 (va:Nat)]:=by rw [hV2,hg2];exact Box.new _ _ _
              have yg3:Box V2 g3 23 [.int .u64 (x:Nat), .int .u64 (r:Nat)]:=by rw [hV2];exact yg3.out.alloc _
              have hgeg2:w12.heap.size≤g2:=by rw [hg2];exact hB1H.out.size
              have yg3:=Lib.hid yg3
              have yg2:=Lib.hid yg2
              have hgeg2:=Lib.hid hgeg2
              have hB2H:=Lib.hid hB2
              refine hK _ _ (exw_below (B:=FB F' bl) hB2) ?_
              clear hK K hV2 hg2 hB2
              refine wpTree_a _ rfl (fun K hK=> ?_)
              go_wp2
              obtain⟨g1,hg1⟩: ∃b,b=V2.heap.size:=⟨_,rfl⟩
              obtain⟨V3,hV3⟩: ∃W,W=(V2.alloc (Obj.cells #[.int .u64 (ka:Nat)] 23)):=⟨_,rfl⟩
              rw [←hV3,←hg1]
              have hB3:Below w12.heap.size w12 V3:=by rw [hV3];exact hB2H.out.alloc hB2H.out.size _
              have yg1:Box V3 g1 23 [.int .u64 (ka:Nat)]:=by rw [hV3,hg1];exact Box.new _ _ _
              have yg3:Box V3 g3 23 [.int .u64 (x:Nat), .int .u64 (r:Nat)]:=by rw [hV3];exact yg3.out.alloc _
              have yg2:Box V3 g2 23 [.int .u64 (va:Nat)]:=by rw [hV3];exact yg2.out.alloc _
              have hgeg1:w12.heap.size≤g1:=by rw [hg1];exact hB2H.out.size
              have yg3:=Lib.hid yg3
              have yg2:=Lib.hid yg2
              have yg1:=Lib.hid yg1
              have hgeg1:=Lib.hid hgeg1
              have hB3H:=Lib.hid hB3
              refine hK _ _ (exw_below (B:=FB F' bl) hB3) ?_
              clear hK K hV3 hg1 hB3
              refine wpTree_r _ _ rfl rfl (by rintro _ ⟨X,rfl⟩;go_simp;exact rfl) ?_
              go_simp
              have hEW:=hE12.out.low (hB3H.out.mono hM12.out)
              as_aux_lemma=>
              obtain⟨vt,hvt,hTk⟩:=hEW.tk
              have nG: ∀{g},w12.heap.size≤g→ ¬FB F' bl g:=fun {g} h1 h2=>by have:=hE12.out.fb g h2;have:=hM12.out;omega
              have hTake:=btTake_at hEW.str htH.out hTk hEW.hN hEW.hbN hEW.w64 hEW.len (top_bnv yg1.out yg2.out yg3.out (nG hgeg1.out) (nG hgeg2.out) (nG hgeg3.out)) hok21.out
              obtain⟨pp,hpp⟩: ∃pp,pp=btake R2 t L2.reverse.reverse ⟨[ka],[va],[x,r],ts⟩:=⟨_,rfl⟩
              rw [←hpp,hvt] at hTake
              have hTakeH:=Lib.hid hTake
              have hEH2:=Lib.hid hEW
              have hppH:=Lib.hid hpp
              have hT9:=Lib.hid (Turn.below (F:=FB F' bl) hB3H.out)
              have c9:=Lib.hid (v9.out.below hB3H.out)
              clear hTake hEW hTk hpp nG
              refine wpTree_a _ rfl (fun K hK=> ?_)
              go_wp2_with fail
              refine hTakeH.out.mono ?_
              rintro e w26 ⟨v',st',hv',rfl,hst',hS26,hT26,hTk26⟩
              have hE26:=hEH2.out.take htH.out hppH.out hv' hst' hS26 hT26 hTk26
              have hT26H:=Lib.hid (hT9.out.trans hT26)
              have hex:=exw_turn (hT9.out.trans hT26)
              have r9:=c9.out.turn hT26 hn9.out
              have hE26H:=Lib.hid hE26
              obtain⟨p1,p2,p3⟩:=pp
              dsimp only
              have c0:=r9.at' (i:=0) rfl
              have c1:=r9.at' (i:=1) rfl
              have f0:=r9.free 0
              have f1:=r9.free 1
              have hq:=Lib.hid ((r9.set 0 (.int .u64 0)).set 1 (.int .u64 0))
              have hend:=Lib.hid (ins_end hE26.1.str (hTw.out.minus (hT12.out.trans hT26H.out) hblw.out) hlow.out.2.1 r9 ⟨_,rfl,fun p h9=>by cases h9⟩ hF9.out hlow.out.2.2.2 (.int .u64 0) (.int .u64 0))
              clear hE26 hT26 hS26 hTk26 r9 hTakeH hst' hv' c9
              go_wp2
              refine hK _ _ hex ?_
              clear hK K hex
              refine wpTree_r _ _ rfl rfl (by rintro _ ⟨X,rfl⟩;go_simp;exact rfl) ?_
              go_simp
              refine wpTree_z _ rfl (by decide) (fun K hK=> ?_)
              go_wp2
              refine hK _ _ ?_
              clear hK K
              refine wpTree_z _ rfl (by decide) (fun K hK=> ?_)
              go_wp2
              refine hK _ _ ?_
              clear hK K
              refine wpTree_z _ rfl (by decide) (fun K hK=> ?_)
              go_wp2
              refine hK _ _ (wpTree_nil ?_)
              clear hK K
              go_wp2
              have r0:=hq.out.at' (i:=0) rfl
              have r1:=hq.out.at' (i:=1) rfl
              refine bodyPost_ret (v:= .tuple #[.int .u64 (p3:Nat), .agg #[.int .u64 0, .int .u64 0], .bool false, .int .i64 0]) (by simp [results,Tryz.f9,go_sem,r0,r1]) rfl ?_
              have hk9:=hkeyH.out
              have hnn9:=hnH.out
              have hf9:=hfndH.out
              have hp9:=hppH.out
              subst hk9
              subst hnn9
              have hbt:binTop t (keyB R ak) ak av R1 st.reverse x=(p1,p2,p3):=by
               unfold binTop
               rw [if_neg hx0H.out,←hpH.out,hp9,List.reverse_reverse,htsH.out]
               rfl
              have hS9:=hend.out.1
              have h9:=InsTop.put (w:=w) (F:=F) (x:=x) he0.out hb01.out hf9.symm hlH.out hfrH.out h64H.out (by rw [hbt];exact hS9) hend.out.2 (by rw [hbt];exact hE26H.out.2)
              rw [hbt] at h9
              exact h9
     ·
      as_aux_lemma=>
      have hF9: ¬F' b9:=hT8.not u9.out.lt (fun h9=>by have:=hsH.out.lt h9;have:=hlow.out.2.1;omega)
      have v9:=Lib.hid (u9.out.turn hT8 (fun h9=>by have:=hsH.out.lt h9;have:=hlow.out.2.1;omega))
      have herz:Hid (er≠0):=Lib.hid (by rcases herr with h9|h9<;>omega)
      have hT:=(Turn.below (F:=F) hbw7.out).trans hT8
      have hend:=Lib.hid (ins_end hS8 hT hlow.out.2.1 v9.out ⟨_,rfl,fun p h9=>by cases h9⟩ hF9 hlow.out.2.2.2 (.int .u64 0) (.int .u64 0))
      have herrH:=Lib.hid herr
      have hee:((er:Int)==0)=false:=by have:=herz.out;simp;omega
      have hee2:((er:Int) !=0)=true:=by have:=herz.out;simp;omega
      have hex8: ∃X:Exw F W6,w8=X.W:=⟨⟨w8,Nat.le_trans hb67H.out.size hT8.size,fun k hk hn=>(hT8.keep k (Nat.lt_of_lt_of_le hk hb67H.out.size) hn).trans (hb67H.out.block k hk)⟩,rfl⟩
      clear hS8 hT8 hT hF9 herr
      go_wp2
      refine hK _ _ hex8 ?_
      clear hK K hex8 x1 x2
      iterate 5 (refine wpTree_r _ _ rfl rfl (by rintro _ ⟨X,rfl⟩;go_simp;exact rfl) ?_;go_simp)
      refine wpTree_nil ?_
      have c0:=v9.out.at' (i:=0) rfl
      have c1:=v9.out.at' (i:=1) rfl
      have f0:=v9.out.free 0
      have f1:=v9.out.free 1
      have hq:=Lib.hid (box_drew ((v9.out.set 0 (.int .u64 0)).set 1 (.int .u64 0)))
      have hex2: ∃X:Exw (fun z=>z=b9) w8,((w8.setCell ⟨b9,0,none⟩ (.int .u64 0)).setCell ⟨b9,1,none⟩ (.int .u64 0)).drew=X.W∧X.W.cell? ⟨b9,0,none⟩=some (.int .u64 0)∧X.W.cell? ⟨b9,1,none⟩=some (.int .u64 0):=by
       obtain⟨X,hX⟩:=exw_then (exw_set (B:=fun z=>z=b9) (p:=⟨b9,1,none⟩) (exw_set (B:=fun z=>z=b9) (p:=⟨b9,0,none⟩) (exw_below (Below.refl _ w8)) rfl (.int .u64 0)) rfl (.int .u64 0)) (below_drawn _)
       exact⟨X,hX,by rw [←hX];exact hq.out.at' (i:=0) rfl,by rw [←hX];exact hq.out.at' (i:=1) rfl⟩
      have hexH:=Lib.hid hex2
      have hst14: ∃X:Exw (fun z=>z=b9) w8,{ w8 with drawn:=w8.drawn+1 }=X.W∧X.W.cell? ⟨b9,0,none⟩=some (.int .u64 0)∧X.W.cell? ⟨b9,1,none⟩=some (.int .u64 0):=⟨⟨{ w8 with drawn:=w8.drawn+1 },Nat.le_refl _,fun _ _ _=>rfl⟩,rfl,c0,c1⟩
      have hstH:=Lib.hid hst14
      clear hex2 hst14
      go_upto_region 14 with (fail)
      refine wp_region_tree (fun w' => ∃X:Exw (fun z=>z=b9) w8,w' =X.W∧X.W.cell? ⟨b9,0,none⟩=some (.int .u64 0)∧X.W.cell? ⟨b9,1,none⟩=some (.int .u64 0)) [] (.r 0<| .r 1<| .r 2<| .a 3<| .r 4<| .r 5<| .nil) hmo (by kernel_rfl) (by kernel_rfl) (by kernel_rfl) hstH.out (fun _ _ d _ _ h=>by cases d<;>exact h) ?_
      iterate 3 (refine wpTree_r _ _ rfl rfl (by rintro _ ⟨X,rfl,h0,h1⟩;go_simp;exact rfl) ?_;go_simp)
      refine wpTree_a _ rfl (fun K hK=> ?_)
      go_wp2
      refine hK _ _ hexH.out ?_
      clear hK K
      iterate 2 (refine wpTree_r _ _ rfl rfl (by rintro _ ⟨X,rfl,h0,h1⟩;go_simp;exact rfl) ?_;go_simp)
      refine wpTree_nil ?_
      go_wp2
      have r0:=hq.out.at' (i:=0) rfl
      have r1:=hq.out.at' (i:=1) rfl
      refine bodyPost_ret (v:= .tuple #[.int .u64 0, .agg #[.int .u64 0, .int .u64 0], .bool false, .int .i64 (er:Nat)]) (by simp [results,Tryz.f9,go_sem,r0,r1]) rfl ?_
      have hk9:=hkeyH.out
      have hn9:=hnH.out
      have hf9:=hfndH.out
      have hr9:=herrH.out
      subst hk9
      subst hn9
      exact .full he0.out hb01.out hf9.symm hr9 (hend.out.1.below (below_drawn _)) (hend.out.2.trans (Turn.below (below_drawn _)))
 · have hbad:=Lib.hid (hbadH.out hgood)
   go_cut [54] from 45 (fun s54 wd=>s54= .bool true∧wd=W4)
   case first=>
    by_cases her0:er=0
    · have hx0: ¬x=0:=fun h9=>hgood ⟨her0, .inl h9⟩
      have hb1:bn=false:=by cases bn with|false=>rfl|true=>exact absurd ⟨her0, .inr rfl⟩ hgood
      subst hb1 her0
      have hxx:((x:Int)==0)=false:=by simp;omega
      have hxx2:((x:Int) !=0)=true:=by simp;omega
      clear hgood
      go_wp2_with fail
      go_meet
      case rel=>exact⟨rfl,rfl⟩
    · have hee:((er:Int)==0)=false:=by simp;omega
      have hee2:((er:Int) !=0)=true:=by simp;omega
      clear hgood
      go_wp2_with fail
      go_meet
      case rel=>exact⟨rfl,rfl⟩
   case rest=>
    clear hgood
    obtain⟨rfl,rfl⟩:=hcut
    have x1:=fun X:Exw (fun _=>False) wc=>X.cell (z9.out.at' (i:=0) rfl) (fun h=>h)
    have x2:=fun X:Exw (fun _=>False) wc=>X.cell (z9.out.at' (i:=1) rfl) (fun h=>h)
    have c0:=z9.out.at' (i:=0) rfl
    have c1:=z9.out.at' (i:=1) rfl
    have f0:=z9.out.free 0
    have f1:=z9.out.free 1
    have hend:=Lib.hid (hbad.out _ ((hbw4.out.setCell (p:=⟨b9,0,none⟩) hlow.out.2.1 (.int .u64 0)).setCell (p:=⟨b9,1,none⟩) hlow.out.2.1 (.int .u64 0)).drew)
    have hq:=Lib.hid (box_drew ((z9.out.set 0 (.int .u64 0)).set 1 (.int .u64 0)))
    go_upto_region 8 with (fail)
    refine wp_region_tree (fun w' => ∃X:Exw (fun _=>False) wc,w' =X.W) [2,3,4] (.r 0<| .r 1<| .a 2<| .a 3<| .a 4<| .nil) hmo (by kernel_rfl) (by kernel_rfl) (by kernel_rfl) (exw_start _ _) (fun _ _ d _ _ h=>by cases d<;>exact h) ?_
    iterate 2 (refine wpTree_r _ _ rfl rfl (by rintro _ ⟨X,rfl⟩;go_simp;exact rfl) ?_;go_simp)
    clear x1 x2
    refine wpTree_z _ rfl (by decide) (fun K hK=> ?_)
    go_wp2
    refine hK _ _ ?_
    clear hK K
    refine wpTree_z _ rfl (by decide) (fun K hK=> ?_)
    go_wp2
    refine hK _ _ ?_
    clear hK K
    refine wpTree_z _ rfl (by decide) (fun K hK=> ?_)
    go_wp2
    refine hK _ _ (wpTree_nil ?_)
    clear hK K
    go_wp2
    have r0:=hq.out.at' (i:=0) rfl
    have r1:=hq.out.at' (i:=1) rfl
    refine bodyPost_ret (v:= .tuple #[.int .u64 0, .agg #[.int .u64 0, .int .u64 0], .bool false, .int .i64 8]) (by simp [results,Tryz.f9,go_sem,r0,r1]) rfl hend.out
end
end Go.Proofs.YthcmecokejemcaaGreatDoor
