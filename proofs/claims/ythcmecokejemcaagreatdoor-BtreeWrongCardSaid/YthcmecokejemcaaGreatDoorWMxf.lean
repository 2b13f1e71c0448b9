/-
  The seat's own texts, part xf: So9, Bk5, Bk6.
-/
import Derived.Test.YthcmecokejemcaaGreatDoorWMxe
import Derived.Shelf.SlicesE.Compact
import Derived.Lib.OwnBridge
set_option linter.unusedSimpArgs false
set_option linter.unusedVariables false
set_option maxHeartbeats 4000000
namespace Go.Proofs.YthcmecokejemcaaGreatDoor
open Go.RowKit Go.Shelf Go.Sort
def Tryz.compactH_ren:Go.Shelf.Ren:=⟨fun|43=>65|n=>n,fun|22=>43|23=>23|3=>3|4=>4|0=>0|n=>n,fun|n=>n⟩
theorem Tryz.compactH:Go.Proofs.SlLaysE.n43 Tryz.prog Tryz.compactH_ren:={
 mixed:=by kernel_rfl
 f43:=⟨Tryz.f65.name,by decide,Tryz.func65.trans (congrArg some (by kernel_rfl))⟩
 t0:=Tryz.underlying0
 a0:=Tryz.isAgg0
 z0:=Tryz.sizeOf0
 v0:=Tryz.zeroValue0
 t3:=Tryz.underlying3
 a3:=Tryz.isAgg3
 z3:=Tryz.sizeOf3
 v3:=Tryz.zeroValue3
 t4:=Tryz.underlying4
 a4:=Tryz.isAgg4
 z4:=Tryz.sizeOf4
 v4:=Tryz.zeroValue4
 t22:=Tryz.underlying43
 a22:=Tryz.isAgg43
 z22:=Tryz.sizeOf43
 v22:=Tryz.zeroValue43
 a23:=Tryz.isAgg23
 z23:=Tryz.sizeOf23 }
theorem zeroHandle(w:World):(zeroValue 23).run Tryz.prog w= .ok (.int .u64 0) w:=by kernel_rfl
section
variable {W w:World}
set_option maxRecDepth 100000 in
theorem compactNil_at(c:Nat)(W:World):Calls Tryz.prog 65 #[.slice none 0 c] W fun e w' =>e= .returned (.slice none 0 c)∧w' =W:=by
 go_enter Tryz.func65,Tryz.ntmps65
 go_wp2
 go_ret
 exact⟨rfl,rfl⟩
theorem compactH_at{g c:Nat}{zs sp:List Nat}{T:List Value}(hbox:Box W g 23 (hsV zs++T))(hn:zs.length≤100000000)(hcap:zs.length≤c):
 Calls Tryz.prog 65 #[.slice (some ⟨g,0,none⟩) zs.length c] W fun e w' => ∃m:Nat,e= .returned (.slice (some ⟨g,0,none⟩) m c)∧(zs.Nodup→m=zs.length)∧ ∀B A,Below B A W→B≤g→Below B A w' :=by
 have hH:Holds (Value.int .u64) W g 0 (zs.map (fun z:Nat=>(z:Int))).toArray:=by
  intro j hj
  have hj' :j<zs.length:=by simpa using hj
  refine⟨?_,hbox.free _⟩
  rw [Nat.zero_add,hbox.at' (v:= .int .u64 (zs[j]:Nat)) (by rw [List.getElem?_append_left (by rw [hsV_len];exact hj')];exact hsV_get hj')]
  simp [hj']
 have hsz:(zs.map (fun z:Nat=>(z:Int))).toArray.size=zs.length:=by simp
 have h:=AnyE.slices_Compact Tryz.compactH (Value.int .u64) (fun _=>rfl) (EqlAt.intD _ _ _) (NeqAt.intD _ _ _) 0 zeroHandle g 0 c _ W hH (by rw [hsz];omega) (by rw [hsz];exact hcap)
 rw [hsz] at h
 refine h.mono ?_
 rintro e w' ⟨rfl,q,rfl⟩
 refine⟨_,rfl,fun hnd=> ?_,fun B A hb hg=>Lib.below_putRow hb hg⟩
 have hz:=Lib.compactUpTo_all (zs.map (fun z:Nat=>(z:Int))).toArray zs.length (fun j hj=>by
  rcases Nat.eq_zero_or_pos j with h0|h0
  · exact Lib.keeps_lt_one _ j (by omega)
  · refine Lib.keeps_pos ?_
    have h1:j-1<zs.length:=by omega
    simp only [hj,h1,List.getElem!_toArray,List.length_map,getElem!_pos,List.getElem_map]
    intro h9
    have h9:zs[j]=zs[j-1]:=by exact_mod_cast h9
    exact(List.pairwise_iff_getElem.1 hnd) (j-1) j h1 hj (by omega) h9.symm)
 rw [hz]
 simp
set_option maxRecDepth 100000 in
theorem hasTwice_at{P:Option Addr}{b c:Nat}{ws:List Nat}(hP:P=some ⟨b,0,none⟩∨ws= [])(hc: ∀j (h:j<ws.length),w.cell? ⟨b,j,none⟩=some (.int .u64 (ws[j]:Nat)))(hb:b<w.heap.size)(hlen:ws.length≤100000000):
 Calls Tryz.prog 34 #[.slice P ws.length c] w fun e w' => ∃bb:Bool,e= .returned (.bool bb)∧(ws.Nodup→bb=false)∧Below w.heap.size w w' :=by
 have hb1:Below w.heap.size w (w.alloc (.cells #[.slice P ws.length c] 43)):=(Below.refl _ w).alloc (Nat.le_refl _) _
 have hS:=Lib.hid (sortedH_at (w:=w.alloc (.cells #[.slice P ws.length c] 43)) (bx:=w.heap.size) (c:=c) hP ((Box.new w 43 [.slice P ws.length c]).at' (i:=0) rfl) (fun j h=>(hb1.cell (p:=⟨b,j,none⟩) hb).trans (hc j h)) (Nat.lt_of_lt_of_le hb hb1.size) hlen)
 have hb1H:=Lib.hid hb1
 clear hP hc hb hb1
 go_enter Tryz.func34,Tryz.ntmps34
 go_wp2_with fail
 refine(valuesH_at P ws.length c w).mono ?_
 rintro e w1 ⟨rfl,rfl⟩
 generalize w.alloc (.cells #[.slice P ws.length c] 43)=w1 at*
 go_wp2_with fail
 refine hS.out.mono ?_
 rintro e w2 ⟨v,zs,rfl,hperm,hr,hb2⟩
 have hz6:zs.length≤100000000:=by rw [hperm.length_eq];exact hlen
 have hznd:=Lib.hid (fun h:ws.Nodup=>hperm.nodup_iff.2 h)
 have hb2H:=Lib.hid (hb1H.out.trans (hb2.mono hb1H.out.size))
 have hCl:=Lib.hid (cloneH_at hr (by omega))
 have hCo:Hid (∀v' w3,HRow w3 w2.heap.size v' zs→Below w2.heap.size w2 w3→ ∃A c,v' = .slice A zs.length c∧Calls Tryz.prog 65 #[.slice A zs.length c] w3 fun e w' => ∃m:Nat,e= .returned (.slice A m c)∧(zs.Nodup→m=zs.length)∧Below w2.heap.size w2 w'):=Lib.hid (by
  rintro v' w3 (⟨rfl,h2⟩|⟨g,cap,rfl,hg,hcap,sp,hbox⟩) hb3
  · refine⟨none,0,by rw [h2];rfl, ?_⟩
    rw [h2]
    exact(compactNil_at 0 w3).mono (by rintro e w' ⟨rfl,rfl⟩;exact⟨0,rfl,fun _=>rfl,hb3⟩)
  · exact⟨_,_,rfl,(compactH_at (sp:= []) hbox hz6 hcap).mono (by rintro e w' ⟨m,rfl,h1,h2⟩;exact⟨m,rfl,h1,h2 _ _ hb3 hg⟩)⟩)
 obtain⟨P1,c1,hv1⟩: ∃P1 c1,v= .slice P1 zs.length c1:=by
  rcases hr with ⟨rfl,rfl⟩|⟨g,cap,rfl,_⟩
  · exact⟨_,_,rfl⟩
  · exact⟨_,_,rfl⟩
 subst hv1
 clear hr hb2 hS hperm
 go_wp2_with fail
 refine hCl.out.mono ?_
 rintro e w3 ⟨v',rfl,hr',hb3⟩
 obtain⟨P2,c2,rfl,hCo2⟩:=hCo.out v' w3 hr' hb3
 have hCoH:=Lib.hid hCo2
 clear hr' hb3 hCl hCo hCo2
 go_wp2_with fail
 refine hCoH.out.mono ?_
 rintro e w4 ⟨m,rfl,hm,hb4⟩
 have hfin:=Lib.hid (And.intro hm (hb2H.out.trans (hb4.mono hb2H.out.size)))
 clear hm hb4
 go_wp2
 go_ret
 refine⟨_,rfl,fun h=> ?_,hfin.out.2⟩
 rw [hfin.out.1 (hznd.out h)]
 simp
theorem rowTwice_at{B:Nat}{v:Value}{ws:List Nat}(h:w.ownsRow B 23 1 v ws.length (hsV ws))(hw:0<w.heap.size)(hlen:ws.length≤100000000):
 Calls Tryz.prog 34 #[v] w fun e w' => ∃bb:Bool,e= .returned (.bool bb)∧(ws.Nodup→bb=false)∧Below w.heap.size w w' :=by
 rcases hrow_of h with ⟨rfl,rfl⟩|⟨g,cap,rfl,hg,hcap,sp,hbox⟩
 · exact hasTwice_at (b:=0) (ws:= []) (.inr rfl) (fun j h=>absurd h (Nat.not_lt_zero _)) hw hlen
 · exact hasTwice_at (.inl rfl) (fun j h=>hbox.at' (by rw [List.getElem?_append_left (by rw [hsV_len];exact h)];exact hsV_get h)) hbox.lt hlen
end
end Go.Proofs.YthcmecokejemcaaGreatDoor
namespace Go.Proofs.YthcmecokejemcaaGreatDoor
open Go.RowKit Go.Shelf
def okI(R:Nat→Option (List Nat))(l:List (Nat × Nat))(j:Nat):Prop:=
 blobE R (l.getD j (0,0)).1=0∧blobE R (l.getD j (0,0)).2=0∧(j=0∨Tx.cmp (keyB R (l.getD (j-1) (0,0)).1) (keyB R (l.getD j (0,0)).1)<0)
def itH(l:List (Nat × Nat)):List Nat:=l.flatMap fun p=> [p.1,p.2]
theorem itH_snoc(l:List (Nat × Nat))(p:Nat × Nat):itH (l++ [p])=itH l++ [p.1,p.2]:=by simp [itH]
theorem itH_len(l:List (Nat × Nat)):(itH l).length=2*l.length:=by
 induction l with
 |nil=>rfl
 |cons p l ih=>simp only [itH,List.flatMap_cons,List.length_append,List.length_cons,List.length_nil] at ih ⊢;omega
def cff(R:Nat→Option (List Nat))(t x:Nat):Bool:=if bnE R t x≠0 then false else bfits R t (bheight R t 40 x-1) true x
structure ChkS(R:Nat→Option (List Nat))(t x:Nat)(its:List (Nat × Nat))(ns:List Nat)(er:Nat):Prop where
 e:er=0∨er=8
 say:er=0→(∀j,j<its.length→okI R its j)∧its.length=(bnG R t x).size
 good:cff R t x=true→(∀j,j<its.length→okI R its j)→(ns++itH its).Nodup→its.length=(bnG R t x).size→er=0
 bad:cff R t x=false→er=8
theorem two_addc(W:World)(T:TypeId)(a b:Value)(j:Nat)(u:Value)(h: [a,b][j]? =some u):(W.alloc (.cells #[a,b] T)).cell? ((⟨W.heap.size,0,none⟩:Addr).add j)=some u:=by
 rw [show(⟨W.heap.size,0,none⟩:Addr).add j=⟨W.heap.size,j,none⟩ by unfold Addr.add;split<;>simp_all]
 exact(Box.new W T [a,b]).at' h
section
variable {s N:Nat} {R:Nat→Option (List Nat)} {nn:Nat}
theorem bhe_zero{t x:Nat}:bheight R t 40 x=0↔bnE R t x≠0:=by
 unfold bheight
 by_cases h:bnE R t x=0
 · rw [if_neg (fun h9=>h9 h)]
   split<;>simp [h]
 · rw [if_pos h];simp [h]
set_option maxRecDepth 100000 in
theorem btFitsOff_at{w:World}(h:Rd N w s R nn)(t:Nat)(ht:BN.Deg t)(x:Nat)(hx:x<18446744073709551616)(he:bnE R t x≠0)(top:Bool)(a:Int):
 Calls Tryz.prog 35 #[.agg #[.pointer (some ⟨s,0,none⟩), .int .i64 (t:Nat)], .int .u64 (x:Nat), .bool top, .int .i64 a] w fun e w' =>e= .returned (.bool false)∧Below w.heap.size w w' :=by
 obtain⟨W1,hW1⟩: ∃W,W=w.alloc (Obj.cells #[.pointer (some ⟨s,0,none⟩), .int .i64 (t:Nat)] 74):=⟨_,rfl⟩
 have hb1:Below w.heap.size w W1:=by rw [hW1];exact(Below.refl _ w).alloc (Nat.le_refl _) _
 obtain⟨b4,hb4⟩: ∃b,b=w.heap.size:=⟨_,rfl⟩
 have x4:Box W1 b4 74 [.pointer (some ⟨s,0,none⟩), .int .i64 (t:Nat)]:=by rw [hW1,hb4];exact Box.new w _ _
 have hGt:=Lib.hid (btGet_at (h.below hb1) t ht x hx)
 have hb1H:=Lib.hid hb1
 have hW1H:=Lib.hid (And.intro hW1 hb4)
 have x4H:=Lib.hid x4
 have ht2a:2≤t:=ht.1
 have ht2b:t≤16:=ht.2
 have g4' :b4<W1.heap.size:=x4.lt
 clear hW1 hb4 x4 h hb1 ht
 go_enter Tryz.func35,Tryz.ntmps35
 have e40:=x4H.out.at' (i:=0) rfl
 have e41:=x4H.out.at' (i:=1) rfl
 rw [hW1H.out.1,hW1H.out.2] at e40 e41
 go_wp2_with fail
 rw [←hW1H.out.1,←hW1H.out.2]
 refine hGt.out.mono ?_
 rintro e w2 ⟨v1,v2,v3,rfl,hown,hb2⟩
 obtain⟨A1,q1,rfl⟩:=ownN_form hown.r1
 obtain⟨A2,q2,rfl⟩:=ownN_form hown.r2
 obtain⟨A3,q3,rfl⟩:=ownN_form hown.r3
 obtain⟨n,hn⟩: ∃n,n=bnG R t x:=⟨_,rfl⟩
 rw [←hn]
 have hb3:=Lib.hid ((hb1H.out.trans (hb2.mono hb1H.out.size)).alloc (hb1H.out.trans (hb2.mono hb1H.out.size)).size (Obj.cells #[.slice A1 n.keys.length q1, .slice A2 n.vals.length q2, .slice A3 n.kids.length q3, .int .u64 (n.size:Nat)] 48))
 have u4:=(x4H.out.below hb2).alloc (Obj.cells #[.slice A1 n.keys.length q1, .slice A2 n.vals.length q2, .slice A3 n.kids.length q3, .int .u64 (n.size:Nat)] 48)
 have f40:=u4.at' (i:=0) rfl
 have f41:=u4.at' (i:=1) rfl
 clear hn hb2 hown e40 e41 hGt u4
 generalize n.keys.length=n1 at*
 generalize n.vals.length=n2 at*
 generalize n.kids.length=n3 at*
 generalize n.size=n4 at*
 rw [decide_eq_false he]
 cases top
 · go_wp2
   go_ret
   exact⟨rfl,hb3.out⟩
 · go_wp2
   go_ret
   exact⟨rfl,hb3.out⟩
theorem cff_at{w:World}(h:Rd N w s R nn)(t:Nat)(ht:BN.Deg t)(x:Nat)(hx:x<18446744073709551616):
 Calls Tryz.prog 35 #[.agg #[.pointer (some ⟨s,0,none⟩), .int .i64 (t:Nat)], .int .u64 (x:Nat), .bool true, .int .i64 ((bheight R t 40 x:Nat)-1:Int)] w fun e w' =>e= .returned (.bool (cff R t x))∧Below w.heap.size w w' :=by
 by_cases he:bnE R t x=0
 · have h1:bheight R t 40 x≠0:=fun h9=>bhe_zero.1 h9 he
   have h2:=bheight_le (R:=R) (t:=t) 40 x
   rw [show((bheight R t 40 x:Nat)-1:Int)=((bheight R t 40 x-1:Nat):Int) by omega,show cff R t x=bfits R t (bheight R t 40 x-1) true x by unfold cff;rw [if_neg (by omega)]]
   exact btFits_at t ht _ (by omega) w h true x hx
 · rw [show cff R t x=false by unfold cff;rw [if_pos he]]
   exact btFitsOff_at h t ht x hx he true _
end
def P64(p:Nat × Nat):Prop:=p.1<18446744073709551616∧p.2<18446744073709551616
theorem hsV_two(l:List Nat)(a b:Nat):hsV (l++ [a,b])=hsV l++ [.int .u64 (a:Nat), .int .u64 (b:Nat)]:=by simp [hsV]
theorem rw_app{W w' :World}{o:Obj}{v v' :Value}(hg:(W.alloc o).grownBy w' v.ownBlock)(hb:v'.ownBlock=v.ownBlock∨v'.ownBlock=some (W.alloc o).heap.size):Rw W w' v.ownBlock v'.ownBlock:=by
 refine⟨⟨hg.os,hg.tape,hg.output,Nat.le_trans (by simp) hg.size,fun k hk hn=>(hg.block k (by simp;omega) hn).trans (Below.heap_alloc W o k hk)⟩, ?_⟩
 rcases hb with h9|h9
 · exact .inl h9
 · exact .inr fun k hk=>by rw [h9] at hk;simp at hk;omega
theorem itm_cells{W:World}{B:Nat}{A:Option Addr}{c n:Nat}{l:List (Nat × Nat)}(h:W.ownsRow B 31 2 (.slice A n c) n (itmV l))(hn:n=l.length)(hl:0<n):
 ∃g,A=some ⟨g,0,none⟩∧B≤g∧g<W.heap.size∧ ∀j (h:j<l.length),W.cell? ⟨g,j*2,none⟩=some (.int .u64 (l[j].1:Nat))∧W.cell? ⟨g,j*2+1,none⟩=some (.int .u64 (l[j].2:Nat)):=by
 have h0:=h
 rcases h.2 with ⟨_,h2⟩|⟨g,cap,cur,h1,h2,h3,_⟩
 · omega
 · cases h1
   refine⟨g,rfl,h2,(Array.getElem?_eq_some_iff.1 h3).1,fun j hj=> ?_⟩
   have:=itmV_get l j hj
   rw [h0.cellAt (j*2) (by omega),h0.cellAt (j*2+1) (by omega)]
   exact this
section
variable {R:Nat→Option (List Nat)} {t:Nat}
theorem blist_words(hk: ∀y,bnE R t y=0→ ∀i,(bnG R t y).keys.getD i 0<18446744073709551616∧(bnG R t y).vals.getD i 0<18446744073709551616): ∀(f:Nat) (o:List (Nat × Nat) × Nat) (h:Nat),(∀p∈o.1,P64 p)→ ∀p∈(blist R t f o h).1,P64 p
 |0,o,h,ho=>by unfold blist;exact ho
 |f+1,o,h,ho=>by
  unfold blist
  split
  · exact ho
  · next hc=>
    have h0:bnE R t h=0:=Classical.byContradiction fun h9=>hc (.inl h9)
    have ih:=blist_words hk f
    have hfrom: ∀(m i:Nat) (o:List (Nat × Nat) × Nat),(∀p∈o.1,P64 p)→ ∀p∈(blist.lsFrom (bnG R t h) (blist R t f) m i o).1,P64 p:=by
     intro m
     induction m with
     |zero=>
      intro i o ho
      unfold blist.lsFrom
      split
      · exact ho
      · exact ih o _ ho
     |succ m ihm=>
      intro i o ho
      unfold blist.lsFrom
      refine ihm (i+1) _ ?_
      unfold blist.lsStep
      intro p hp
      rcases List.mem_append.1 hp with h1|h1
      · split at h1
        · exact ho p h1
        · exact ih o _ ho p h1
      · obtain rfl:=List.mem_singleton.1 h1
        exact hk h h0 i
    exact hfrom _ 0 (o.1,o.2-1) ho
theorem getD_w64{l:List Nat}(h:W64 l)(i:Nat):l.getD i 0<18446744073709551616:=by
 by_cases hi:i<l.length
 · have:=h i hi
   simpa [hi] using this
 · simp [hi]
theorem u64_size{x:Nat}(h:(bnG R t x).size<18446744073709551616):IntKind.u64.wrap (bszR R t x)=((bnG R t x).size:Nat):=by
 rw [IntKind.wrap_u64]
 unfold bszR wrap64
 omega
end
section
variable {s N:Nat} {R:Nat→Option (List Nat)} {nn:Nat}
set_option maxRecDepth 100000 in
theorem btCheck_at{w:World}(h:Rd N w s R nn)(hsh:Short R)(t:Nat)(ht:BN.Deg t)(x:Nat)(hx:x<18446744073709551616)(hx0:x≠0):
 Calls Tryz.prog 10 #[.pointer (some ⟨s,0,none⟩), .int .i64 (t:Nat), .int .u64 (x:Nat)] w fun e w' => ∃er:Nat,e= .returned (.int .i64 (er:Nat))∧ChkS R t x (blist R t 40 ([],mostN nn t) x).1 (bnodes R t (mostN nn t) 40 [] x) er∧Below w.heap.size w w' :=by
 have hmo:Tryz.prog.follows .mixedOrders=true:=by kernel_rfl
 have h:=h.here
 have hle:=h.le
 have hA:=Lib.hid (btAsked_at h ht)
 obtain⟨i0,hi,hz0,hz1',hz2⟩:=info_parts Tryz.info_handle
 obtain⟨W1,hW1⟩: ∃W,W=w.alloc (Obj.cells #[.pointer (some ⟨s,0,none⟩), .int .i64 (t:Nat)] 74):=⟨_,rfl⟩
 have hb1:Below w.heap.size w W1:=by rw [hW1];exact(Below.refl _ w).alloc (Nat.le_refl _) _
 obtain⟨b8,hb8⟩: ∃b,b=w.heap.size:=⟨_,rfl⟩
 have x8:Box W1 b8 74 [.pointer (some ⟨s,0,none⟩), .int .i64 (t:Nat)]:=by rw [hW1,hb8];exact Box.new w _ _
 have hNd:=Lib.hid (btNods_at (h.below hb1) t ht x hx)
 have hHt:=Lib.hid (fun W (hb:Below w.heap.size w W)=>btHeight_at (h.below hb) t ht x hx)
 have hFt:=Lib.hid (fun W (hb:Below w.heap.size w W)=>cff_at (h.below hb) t ht x hx)
 have hLs:=Lib.hid (fun W (hb:Below w.heap.size w W)=>btLst_at (h.below hb) t ht x hx)
 have hBg:Hid (∀W,Below w.heap.size w W→ ∀y,y<18446744073709551616→Calls Tryz.prog 29 #[.pointer (some ⟨s,0,none⟩), .int .u64 (y:Nat)] W fun e w' =>e= .returned (.tuple #[.string (keyB R y), .int .i64 (blobE R y:Nat)])∧Below W.heap.size W w'):=Lib.hid (fun W hb y hy=>by
  have:=bget_at (h.below hb) hsh y hy
  unfold blobV at this
  exact this)
 have hKy:=Lib.hid (fun W (hb:Below w.heap.size w W) y hy=>btKey_at (h.below hb) hsh t y hy)
 have hSz:=Lib.hid (fun W (hb:Below w.heap.size w W)=>btSize_at (h.below hb) t ht x hx)
 have hmN:=mostN_le (t:=t) hle
 have hln:(bnodes R t (mostN nn t) 40 [] x).length≤262145:=by
  have:=(bnodes_len (R:=R) (t:=t) (most:=mostN nn t) 40 [] x).2
  simp only [List.length_nil] at this
  omega
 have hlL:(blist R t 40 ([],mostN nn t) x).1.length≤8650785:=by
  have:=blist_room (R:=R) (t:=t) (fun y hy=>by
   have:=(bnG_words h ht hy).1.1
   have:=ht.2
   omega) 40 ([],mostN nn t) x
  simp only [List.length_nil] at this
  omega
 have hwL:Hid (∀p∈(blist R t 40 ([],mostN nn t) x).1,P64 p):=Lib.hid (blist_words (fun y hy i=>⟨getD_w64 (bnG_words h ht hy).2.1 i,getD_w64 (bnG_words h ht hy).2.2.1 i⟩) 40 ([],mostN nn t) x (fun p hp=>by simp at hp))
 have hsz9:(bnG R t x).size<18446744073709551616:=by
  by_cases he9:bnE R t x=0
  · exact(bnG_words h ht he9).2.2.2.2
  · rw [bnG_off he9];show 0<_;decide
 have hsz:=Lib.hid (u64_size hsz9)
 have hb1H:=Lib.hid hb1
 have hWH:=Lib.hid (And.intro hW1 hb8)
 have x8H:=Lib.hid x8
 have g8:w.heap.size≤b8:=by omega
 have hl8:b8<W1.heap.size:=x8.lt
 clear hmN hle hW1 hb8 hb1 x8 h hsz9 hsh
 obtain⟨L,hL⟩: ∃L,L=(blist R t 40 ([],mostN nn t) x).1:=⟨_,rfl⟩
 rw [←hL] at hlL hwL hLs ⊢
 clear hL
 generalize bnodes R t (mostN nn t) 40 [] x=M at*
 have hhl:=bheight_le (R:=R) (t:=t) 40 x
 generalize bheight R t 40 x=hg at*
 generalize bszR R t x=zz at*
 obtain⟨sz,hszz⟩: ∃z,z=(bnG R t x).size:=⟨_,rfl⟩
 have hszzH:=Lib.hid hszz
 rw [←hszz] at hsz
 clear hszz
 obtain⟨ff,hff⟩: ∃b,b=cff R t x:=⟨_,rfl⟩
 have hffH:=Lib.hid hff
 rw [←hff] at hFt
 clear hff
 have dx:((x:Int)==0)=false:=by simp;omega
 go_enter Tryz.func10,Tryz.ntmps10
 go_wp2_with fail
 refine hA.out.mono ?_
 rintro e w1 ⟨rfl,rfl⟩
 go_wp2_with fail
 rw [←hWH.out.1,←hWH.out.2]
 refine hNd.out.mono ?_
 rintro e w2 ⟨v9,rfl,ho9,hb2⟩
 have hb02:=Lib.hid (hb1H.out.trans (hb2.mono hb1H.out.size))
 have hTw:=Lib.hid (fun W (hb:Below w2.heap.size w2 W)=>rowTwice_at (row_below ho9 hb) (Nat.lt_of_lt_of_le (Nat.lt_of_le_of_lt (Nat.zero_le _) hl8) (Nat.le_trans hb2.size hb.size)) (by omega))
 have x82:=Lib.hid (x8H.out.below hb2)
 have x1:=fun X:Exw (fun _=>False) w2=>X.cell (x82.out.at' (i:=0) rfl) (fun h=>h)
 have x2:=fun X:Exw (fun _=>False) w2=>X.cell (x82.out.at' (i:=1) rfl) (fun h=>h)
 have ho9H:=Lib.hid ho9
 have hB2:Hid (W1.heap.size≤w2.heap.size):=Lib.hid hb2.size
 clear hb2 ho9 hNd
 go_wp2
 refine wp_region_steps (fun w' => ∃X:Exw (fun _=>False) w2,w' =X.W) [.r 0, .a 1, .r 2, .r 3, .r 4, .r 5, .r 6, .r 7, .a 8, .r 9, .a 10, .r 11, .r 12] hmo (by kernel_rfl) rfl (by kernel_rfl) (exw_start _ _) (fun _ _ d _ _ h=>by cases d<;>exact h) ?_
 refine wpSteps_r _ _ rfl rfl (by rintro _ ⟨X,rfl⟩;go_simp;exact rfl) ?_
 go_simp
 refine wpSteps_a _ rfl (fun K1 hK1=> ?_)
 go_wp2_with fail
 refine(hTw.out _ (below_drawn w2)).mono ?_
 rintro e w2b ⟨bb,rfl,hbb,hb2b⟩
 have hb2c:=Lib.hid ((below_drawn w2).trans hb2b)
 have hbbH:=Lib.hid hbb
 clear hb2b hbb hTw
 go_wp2
 refine hK1 _ _ (exw_below hb2c.out) ?_
 clear hK1 K1
 cases bb
 case true=>
  refine wpSteps_r _ _ rfl rfl (by rintro _ ⟨X,rfl⟩;go_simp;exact rfl) ?_
  go_simp
  refine wpSteps_s _ rfl rfl ?_
  go_simp
  refine wpSteps_s _ rfl rfl ?_
  go_simp
  refine wpSteps_s _ rfl rfl ?_
  go_simp
  refine wpSteps_s _ rfl rfl ?_
  go_simp
  refine wpSteps_s _ rfl rfl ?_
  go_simp
  refine wpSteps_a _ rfl (fun K1 hK1=> ?_)
  go_wp2
  refine hK1 _ _ (exw_below hb2c.out) ?_
  clear hK1 K1
  refine wpSteps_s _ rfl rfl ?_
  go_simp
  refine wpSteps_a _ rfl (fun K1 hK1=> ?_)
  go_wp2
  refine hK1 _ _ (exw_below hb2c.out) ?_
  clear hK1 K1 x1 x2
  refine wpSteps_s _ rfl rfl ?_
  go_simp
  refine wpSteps_r _ _ rfl rfl (by rintro _ ⟨X,rfl⟩;go_simp;exact rfl) ?_
  go_simp
  refine wpSteps_nil ?_
  have hbf:=Lib.hid (hb02.out.trans (hb2c.out.mono hb02.out.size))
  go_wp2
  go_ret
  exact⟨8,rfl,⟨.inr rfl,fun h=>(by cases h),fun _ _ h3 _=>(by have:=hbbH.out (List.nodup_append.1 h3).1;cases this),fun _=>rfl⟩,hbf.out⟩
 iterate 6 (refine wpSteps_r _ _ rfl rfl (by rintro _ ⟨X,rfl⟩;go_simp;exact rfl) ?_;go_simp)
 clear x1 x2
 refine wpSteps_a _ rfl (fun K1 hK1=> ?_)
 go_wp2_with fail
 refine(hHt.out _ (hb02.out.trans (hb2c.out.mono hb02.out.size))).mono ?_
 rintro e w2d ⟨rfl,hb2d⟩
 have hb2e:=Lib.hid (hb2c.out.trans (hb2d.mono hb2c.out.size))
 clear hb2d hb2c
 go_wp2
 refine hK1 _ _ (exw_below hb2e.out) ?_
 clear hK1 K1
 refine wpSteps_r _ _ rfl rfl (by rintro _ ⟨X,rfl⟩;go_simp;exact rfl) ?_
 go_simp
 refine wpSteps_a _ rfl (fun K1 hK1=> ?_)
 go_wp2_with fail
 refine(hFt.out _ (hb02.out.trans (hb2e.out.mono hb02.out.size))).mono ?_
 rintro e w3 ⟨rfl,hb3⟩
 have hbX:=Lib.hid (hb2e.out.trans (hb3.mono hb2e.out.size))
 clear hb3 hb2e
 go_wp2
 refine hK1 _ _ (exw_below hbX.out) ?_
 clear hK1 K1
 iterate 2 (refine wpSteps_r _ _ rfl rfl (by rintro _ ⟨X,rfl⟩;go_simp;exact rfl) ?_;go_simp)
 refine wpSteps_nil ?_
 have hb03:=Lib.hid (hb02.out.trans (hbX.out.mono hb02.out.size))
 have ho93:=Lib.hid (row_below ho9H.out hbX.out)
 have x83:=Lib.hid (x82.out.below hbX.out)
 have hB3:Hid (W1.heap.size≤w3.heap.size):=Lib.hid (Nat.le_trans hB2.out hbX.out.size)
 clear x82 hbX ho9H hB2 hb02 hHt hFt hbbH
 cases ff
 · go_wp2
   go_ret
   exact⟨8,rfl,⟨.inr rfl,fun h=>(by cases h),fun h1=>(by rw [←hffH.out] at h1;cases h1),fun _=>rfl⟩,hb03.out⟩
 · go_wp2_with fail
   refine(hLs.out w3 hb03.out).mono ?_
   rintro e w4 ⟨v10,rfl,ho10,hb4⟩
   obtain⟨A10,c10,rfl⟩:=ownN_form ho10
   have hb04:=Lib.hid (hb03.out.trans (hb4.mono hb03.out.size))
   have ho94:=Lib.hid (row_below ho93.out hb4)
   have x84:=Lib.hid (x83.out.below hb4)
   have hB4:Hid (W1.heap.size≤w4.heap.size):=Lib.hid (Nat.le_trans hB3.out hb4.size)
   have ho10H:=Lib.hid ho10
   have hr93:Hid (∀k,v9.ownBlock=some k→W1.heap.size≤k∧k<w3.heap.size):=Lib.hid (fun k hk=>row_ge ho93.out hk)
   clear hb4 ho10 hLs
   obtain⟨r9,hr9⟩: ∃r,r=v9.ownBlock:=⟨_,rfl⟩
   rw [←hr9] at hr93
   have hr9H:=Lib.hid hr9
   clear hr9
   go_wp2
   go_loopw [9,51] (fun v0 kv wr=> ∃(vv:Value) (j:Nat),vv=v0∧j≤L.length∧kv= .int .i64 j∧Hid (∀i,i<j→okI R L i)∧Hid (wr.ownsRow W1.heap.size 23 1 vv (M++itH (L.take j)).length (hsV (M++itH (L.take j)))∧Rw w4 wr r9 vv.ownBlock)) (fun _ kv _=>L.length-(intOf kv).toNat)
   case atStart=>exact⟨_,0,rfl,Nat.zero_le _,rfl,Lib.hid (fun i hi=>absurd hi (Nat.not_lt_zero _)),Lib.hid ⟨by rw [show M++itH (L.take 0)=M by simp [itH]];exact ho94.out,by rw [hr9H.out];exact Rw.below (Below.refl _ _) _⟩⟩
   case round=>
    obtain⟨vv,j,rfl,hj,rfl,hok,hr⟩:=hrel
    have hbwr:=Lib.hid (hb04.out.trans (hr.out.2.low hb04.out.size (fun k hk=>Nat.le_trans hb1H.out.size (hr93.out k hk).1)))
    have hBr:Hid (W1.heap.size≤wr.heap.size):=Lib.hid (Nat.le_trans hB4.out hr.out.2.1.size)
    have h8r:some b8≠r9:=fun e=>by have:=(hr93.out b8 e.symm).1;omega
    have e80:=hr.out.2.cell (x84.out.at' (i:=0) rfl) h8r
    have e81:=hr.out.2.cell (x84.out.at' (i:=1) rfl) h8r
    have x8r:Hid (Box wr b8 74 [.pointer (some ⟨s,0,none⟩), .int .i64 (t:Nat)]):=Lib.hid (x84.out.block (hr.out.2.1.block b8 x84.out.lt h8r))
    obtain⟨LM,hLM⟩: ∃l,l=M++itH (L.take j):=⟨_,rfl⟩
    have hLMl:LM.length≤17563715:=by
     rw [hLM,List.length_append,itH_len,List.length_take]
     omega
    rw [←hLM] at hr
    have hLMH:=Lib.hid hLM
    clear hLM
    by_cases hlt:j<L.length
    ·
     as_aux_lemma=>
     obtain⟨g10,hA10,hg10,hgl,hcs⟩:=itm_cells ho10H.out rfl (by omega)
     subst hA10
     have hgr:some g10≠r9:=fun e=>by have:=(hr93.out g10 e.symm).2;omega
     obtain⟨p1,hp1⟩: ∃a,a=L[j].1:=⟨_,rfl⟩
     obtain⟨p2,hp2⟩: ∃a,a=L[j].2:=⟨_,rfl⟩
     have f1:=hr.out.2.cell (hcs j hlt).1 hgr
     have f2:=hr.out.2.cell (hcs j hlt).2 hgr
     rw [←hp1] at f1
     rw [←hp2] at f2
     have hw1:p1<18446744073709551616:=by rw [hp1];exact(hwL.out _ (List.getElem_mem hlt)).1
     have hw2:p2<18446744073709551616:=by rw [hp2];exact(hwL.out _ (List.getElem_mem hlt)).2
     have hLMn:Hid (M++itH (L.take (j+1))=LM++ [p1,p2]):=Lib.hid (by rw [List.take_succ_eq_append_getElem hlt,itH_snoc,hLMH.out,hp1,hp2,List.append_assoc])
     have hgetD:Hid (L.getD j (0,0)=(p1,p2)):=Lib.hid (by rw [hp1,hp2];simp [hlt])
     obtain⟨W5,hW5⟩: ∃W,W=wr.alloc (Obj.cells #[.int .u64 (p1:Nat), .int .u64 (p2:Nat)] 31):=⟨_,rfl⟩
     obtain⟨b12,hb12⟩: ∃b,b=wr.heap.size:=⟨_,rfl⟩
     have x12:Box W5 b12 31 [.int .u64 (p1:Nat), .int .u64 (p2:Nat)]:=by rw [hW5,hb12];exact Box.new wr _ _
     have hb5:Below wr.heap.size wr W5:=by rw [hW5];exact(Below.refl _ wr).alloc (Nat.le_refl _) _
     have hb5w:=Lib.hid (hbwr.out.trans (hb5.mono hbwr.out.size))
     have hcsH:=Lib.hid (fun m (hm:m<L.length)=>hr.out.2.cell (hcs m hm).1 hgr)
     have hrow:=Lib.hid hr.out.1
     have hRw:=Lib.hid hr.out.2
     have hb5H:=Lib.hid hb5
     have x12H:=Lib.hid x12
     have hWb:=Lib.hid (And.intro hW5 hb12)
     have s0:=x12.at' (i:=0) rfl
     have s1:=x12.at' (i:=1) rfl
     rw [hW5,hb12] at s0 s1
     have hc1:=Lib.hid (hBg.out W5 hb5w.out p1 hw1)
     clear hp1 hp2 hcs hr hW5 hb12 hb5 x12 e80 e81
     go_wp2_with fail
     rw [←hWb.out.1,←hWb.out.2]
     refine hc1.out.mono ?_
     rintro e w6 ⟨rfl,hb6⟩
     have x12b:=x12H.out.below hb6
     have s1b:=x12b.at' (i:=1) rfl
     have s0b:=x12b.at' (i:=0) rfl
     have hc2:=Lib.hid (hBg.out w6 (hb5w.out.trans (hb6.mono hb5w.out.size)) p2 hw2)
     have hb6H:=Lib.hid hb6
     have x12bH:=Lib.hid x12b
     clear hb6 hc1 s0 s1 x12b
     go_wp2_with fail
     refine hc2.out.mono ?_
     rintro e w7 ⟨rfl,hb7⟩
     have x12w:=Lib.hid (x12bH.out.below hb7)
     have hbr7:=hb5H.out.trans ((hb6H.out.trans (hb7.mono hb6H.out.size)).mono hb5H.out.size)
     have hb7w:=Lib.hid (hbwr.out.trans (hbr7.mono hbwr.out.size))
     have hrow7:=Lib.hid (row_below hrow.out hbr7)
     have hRw7:=Lib.hid (hRw.out.trans (Rw.below hbr7 _))
     have hB7:Hid (W1.heap.size≤w7.heap.size):=Lib.hid (Nat.le_trans hBr.out hbr7.size)
     have x87:=Lib.hid (x8r.out.below hbr7)
     have hcs7:=Lib.hid (fun m (hm:m<L.length)=>(hbr7.cell (p:=⟨g10,m*2,none⟩) (cell_lt (hcsH.out m hm))).trans (hcsH.out m hm))
     clear hbr7 hb7 hc2 hb6H hb5H x12bH x12H hWb s0b s1b hrow hRw hcsH x8r
     obtain⟨k1,hk1⟩: ∃k,k=keyB R p1:=⟨_,rfl⟩
     obtain⟨e1,he1⟩: ∃e,e=blobE R p1:=⟨_,rfl⟩
     obtain⟨e2,he2⟩: ∃e,e=blobE R p2:=⟨_,rfl⟩
     rw [←hk1,←he1]
     generalize keyB R p2=k2 at*
     rw [←he2]
     have hes:=Lib.hid (And.intro hk1 (And.intro he1 he2))
     have hokE:Hid (okI R L j↔e1=0∧e2=0∧(j=0∨Tx.cmp (keyB R (L.getD (j-1) (0,0)).1) k1<0)):=Lib.hid (by unfold okI;rw [hgetD.out,he1,he2,hk1])
     clear hk1 he1 he2
     have hbadE:Hid (¬okI R L j→ ∃er:Nat,(Ending.returned (.int .i64 (8:Int))= .returned (.int .i64 (er:Nat)))∧ChkS R t x L M er):=Lib.hid (fun hb=>⟨8,rfl, .inr rfl,fun h=>(by cases h),fun _ h2=>absurd (h2 j hlt) hb,fun _=>rfl⟩)
     by_cases hq1:e1=0
     · subst hq1
       by_cases hq2:e2=0
       · subst hq2
         by_cases hj0:j=0
         · have hokj:Hid (okI R L j):=Lib.hid (hokE.out.2 ⟨rfl,rfl, .inl hj0⟩)
           have dj:decide ((j:Int)>0)=false:=decide_eq_false (by omega)
           go_wp2
           refine wp_region_calm hmo (by kernel_rfl) ?_
           repeat (go_big_quiet_step (fail))
           refine wpQuiet_nil ?_
           rintro _ ⟨X,rfl⟩
           have hbX:=Lib.hid X.h
           generalize X.W=W8 at*
           have hrX:=Lib.hid (row_below hrow7.out hbX.out)
           have hbwX:=Lib.hid (hb7w.out.trans (hbX.out.mono hb7w.out.size))
           have hRw8:=Lib.hid (hRw7.out.trans (Rw.below hbX.out _))
           have x12X:=x12w.out.below hbX.out
           have q120:=x12X.at' (i:=0) rfl
           have q121:=x12X.at' (i:=1) rfl
           have hBX:W1.heap.size≤W8.heap.size:=Nat.le_trans hB7.out hbX.out.size
           have hokn:Hid (∀i,i<j+1→okI R L i):=Lib.hid (fun i hi=>by
            rcases Nat.lt_or_ge i j with h9|h9
            · exact hok.out i h9
            · obtain rfl:i=j:=by omega
              exact hokj.out)
           clear x12X
           go_wp2_with (at_builtin;refine wpList_append_own_at _ rfl _ _ 43 rfl W1.heap.size 23 i0 (.int .u64 0) 1 8 Tryz.under_handles hi hz0 hz1' hz2 rfl (by decide) _ _ _ rfl (hrX.out.alloc _) ⟨W8.heap.size,0,none⟩ 2 2 [.int .u64 (p1:Nat), .int .u64 (p2:Nat)] rfl rfl (two_addc W8 _ _ _) (by simp [Value.oneCell']) (by unfold maxLen;omega) (by omega) (by first|(simp;done)|(simp;omega)) ?_;intro v' w9 hown' hgrow _ hblk)
           have hnew:=Lib.hid (show w9.ownsRow W1.heap.size 23 1 v' (LM++ [p1,p2]).length (hsV (LM++ [p1,p2])) by rw [hsV_two,List.length_append];exact hown')
           have hRw9:=Lib.hid (hRw8.out.trans (rw_app hgrow hblk))
           clear hown' hgrow hblk q120 q121
           go_wp2
           go_roundw
           case rel=>exact⟨_,j+1,rfl,by omega,by go_num,hokn,Lib.hid ⟨by rw [hLMn.out];exact hnew.out,hRw9.out⟩⟩
           case measure=>simp [intOf];omega
         · have hjm:j-1<L.length:=by omega
           obtain⟨pm,hpm⟩: ∃a,a=L[j-1].1:=⟨_,rfl⟩
           have hwm:pm<18446744073709551616:=by rw [hpm];exact(hwL.out _ (List.getElem_mem hjm)).1
           have hcm:=hcs7.out (j-1) hjm
           rw [←hpm] at hcm
           have hgm:Hid ((L.getD (j-1) (0,0)).1=pm):=Lib.hid (by rw [hpm];simp [hjm])
           have hK:=Lib.hid (fun X:Bel w7=>hKy.out X.W (hb7w.out.trans (X.h.mono hb7w.out.size)) pm hwm)
           have dj:decide ((j:Int)>0)=true:=decide_eq_true (by omega)
           have dj2:decide (0<j)=true:=decide_eq_true (by omega)
           have hj1:(j:Int)-1=((j-1:Nat):Int):=by omega
           have hjw:IntKind.i64.wrap ((j-1:Nat):Int)=((j-1:Nat):Int):=by rw [IntKind.wrap_i64];omega
           clear hpm
           obtain⟨km,hkm⟩: ∃k,k=keyB R pm:=⟨_,rfl⟩
           rw [←hkm] at hK
           have hCm:Hid (∀X:Bel w7,Calls Tryz.prog 36 #[.string km, .string k1] X.W fun e w' =>e= .returned (.int .i64 (Tx.cmp km k1))∧Below X.W.heap.size X.W w'):=Lib.hid (fun X=>(Tx.cmp_call km k1 X.W).mono (by rintro e w' ⟨rfl,rfl⟩;exact⟨rfl,Below.refl _ _⟩))
           have hokE2:Hid (okI R L j↔Tx.cmp km k1<0):=Lib.hid (by rw [hokE.out,hgm.out,←hkm];exact⟨fun h=>h.2.2.resolve_left hj0,fun h=>⟨rfl,rfl, .inr h⟩⟩)
           have y1:=fun X:Bel w7=>X.cell (x87.out.at' (i:=0) rfl)
           have y2:=fun X:Bel w7=>X.cell (x87.out.at' (i:=1) rfl)
           have y3:=fun X:Bel w7=>X.cell hcm
           clear hkm hcm
           generalize Tx.cmp km k1=cc at*
           obtain⟨jm,hjm9⟩: ∃m,m=j-1:=⟨_,rfl⟩
           rw [←hjm9] at hj1 hjw y3 hjm
           clear hjm9
           go_wp2
           refine wp_region_calm hmo (by kernel_rfl) ?_
           repeat (go_big_quiet_step ((first|(go_at_call 37;exact calls_calm (hK.out _))|(go_at_call 36;exact calls_calm (hCm.out _)))))
           refine wpQuiet_nil ?_
           rintro _ ⟨X,rfl⟩
           have hbX:=Lib.hid X.h
           generalize X.W=W8 at*
           clear y1 y2 y3 hj1 hjw
           by_cases hcc:cc<0
           · have dc:decide (cc≥0)=false:=decide_eq_false (by omega)
             have hokj:Hid (okI R L j):=Lib.hid (hokE2.out.2 hcc)
             have hrX:=Lib.hid (row_below hrow7.out hbX.out)
             have hbwX:=Lib.hid (hb7w.out.trans (hbX.out.mono hb7w.out.size))
             have hRw8:=Lib.hid (hRw7.out.trans (Rw.below hbX.out _))
             have x12X:=x12w.out.below hbX.out
             have q120:=x12X.at' (i:=0) rfl
             have q121:=x12X.at' (i:=1) rfl
             have hBX:W1.heap.size≤W8.heap.size:=Nat.le_trans hB7.out hbX.out.size
             have hokn:Hid (∀i,i<j+1→okI R L i):=Lib.hid (fun i hi=>by
              rcases Nat.lt_or_ge i j with h9|h9
              · exact hok.out i h9
              · obtain rfl:i=j:=by omega
                exact hokj.out)
             clear x12X
             go_wp2_with (at_builtin;refine wpList_append_own_at _ rfl _ _ 43 rfl W1.heap.size 23 i0 (.int .u64 0) 1 8 Tryz.under_handles hi hz0 hz1' hz2 rfl (by decide) _ _ _ rfl (hrX.out.alloc _) ⟨W8.heap.size,0,none⟩ 2 2 [.int .u64 (p1:Nat), .int .u64 (p2:Nat)] rfl rfl (two_addc W8 _ _ _) (by simp [Value.oneCell']) (by unfold maxLen;omega) (by omega) (by first|(simp;done)|(simp;omega)) ?_;intro v' w9 hown' hgrow _ hblk)
             have hnew:=Lib.hid (show w9.ownsRow W1.heap.size 23 1 v' (LM++ [p1,p2]).length (hsV (LM++ [p1,p2])) by rw [hsV_two,List.length_append];exact hown')
             have hRw9:=Lib.hid (hRw8.out.trans (rw_app hgrow hblk))
             clear hown' hgrow hblk q120 q121
             go_wp2
             go_roundw
             case rel=>exact⟨_,j+1,rfl,by omega,by go_num,hokn,Lib.hid ⟨by rw [hLMn.out];exact hnew.out,hRw9.out⟩⟩
             case measure=>simp [intOf];omega
           · have dc:decide (cc≥0)=true:=decide_eq_true (by omega)
             have hbad:=Lib.hid (hbadE.out (fun h=>hcc (hokE2.out.1 h)))
             have hbwX:=Lib.hid (hb7w.out.trans (hbX.out.mono hb7w.out.size))
             go_wp2
             go_ret
             obtain⟨er,h1,h2⟩:=hbad.out
             exact⟨er,h1,h2,hbwX.out⟩
       · have d2:((e2:Int) !=0)=true:=by simp;omega
         have hbad:=Lib.hid (hbadE.out (fun h=>hq2 (hokE.out.1 h).2.1))
         go_wp2
         refine wp_region_calm hmo (by kernel_rfl) ?_
         repeat (go_big_quiet_step (fail))
         refine wpQuiet_nil ?_
         rintro _ ⟨X,rfl⟩
         have hbwX:=Lib.hid (hb7w.out.trans (X.h.mono hb7w.out.size))
         go_wp2
         go_ret
         obtain⟨er,h1,h2⟩:=hbad.out
         exact⟨er,h1,h2,hbwX.out⟩
     · have d1:((e1:Int) !=0)=true:=by simp;omega
       have hbad:=Lib.hid (hbadE.out (fun h=>hq1 (hokE.out.1 h).1))
       go_wp2
       refine wp_region_calm hmo (by kernel_rfl) ?_
       repeat (go_big_quiet_step (fail))
       refine wpQuiet_nil ?_
       rintro _ ⟨X,rfl⟩
       have hbwX:=Lib.hid (hb7w.out.trans (X.h.mono hb7w.out.size))
       go_wp2
       go_ret
       obtain⟨er,h1,h2⟩:=hbad.out
       exact⟨er,h1,h2,hbwX.out⟩
    ·
     as_aux_lemma=>
     obtain rfl:j=L.length:=by omega
     have hT:=Lib.hid (rowTwice_at hr.out.1 (Nat.lt_of_lt_of_le (Nat.lt_of_le_of_lt (Nat.zero_le _) hl8) hBr.out) (by omega))
     have hLMa:Hid (LM=M++itH L):=Lib.hid (by rw [hLMH.out,List.take_length])
     clear hr
     go_wp2_with fail
     refine hT.out.mono ?_
     rintro e w5 ⟨bb,rfl,hbb,hb5⟩
     have hb5w:=Lib.hid (hbwr.out.trans (hb5.mono hbwr.out.size))
     cases bb
     · have hS:=Lib.hid (hSz.out w5 hb5w.out)
       have x85:=x8r.out.below hb5
       have q0:=x85.at' (i:=0) rfl
       have q1:=x85.at' (i:=1) rfl
       have hwl:IntKind.u64.wrap (L.length:Nat)=(L.length:Nat):=by rw [IntKind.wrap_u64];omega
       have hws:=hsz.out
       clear hbb hb5 x85 e80 e81
       go_wp2_with fail
       refine hS.out.mono ?_
       rintro e w6 ⟨rfl,hb6⟩
       have hb6w:=Lib.hid (hb5w.out.trans (hb6.mono hb5w.out.size))
       clear hb6
       by_cases hle:L.length=sz
       · have hfin:Hid (ChkS R t x L M 0):=Lib.hid ⟨.inl rfl,fun _=>⟨hok.out,(by rw [hle];exact hszzH.out)⟩,fun _ _ _ _=>rfl,fun h1=>(by rw [←hffH.out] at h1;cases h1)⟩
         rw [hle] at hwl
         have hle' :(L.length:Int)=(sz:Nat):=by omega
         go_wp2
         go_ret
         exact⟨0,rfl,hfin.out,hb6w.out⟩
       · have hfin:Hid (ChkS R t x L M 8):=Lib.hid ⟨.inr rfl,fun h=>(by cases h),fun _ _ _ h4=>absurd (by rw [hszzH.out];exact h4) hle,fun _=>rfl⟩
         have hne: ¬((L.length:Int)=(sz:Nat)):=by omega
         have hne' :((L.length:Int)==(sz:Nat))=false:=by simp;omega
         go_wp2
         go_ret
         exact⟨8,rfl,hfin.out,hb6w.out⟩
     · have hfin:Hid (ChkS R t x L M 8):=Lib.hid ⟨.inr rfl,fun h=>(by cases h),fun _ _ h3 _=>(by rw [←hLMa.out] at h3;have:=hbb h3;cases this),fun _=>rfl⟩
       clear hbb hb5 e80 e81
       go_wp2
       go_ret
       exact⟨8,rfl,hfin.out,hb5w.out⟩
end
end Go.Proofs.YthcmecokejemcaaGreatDoor
