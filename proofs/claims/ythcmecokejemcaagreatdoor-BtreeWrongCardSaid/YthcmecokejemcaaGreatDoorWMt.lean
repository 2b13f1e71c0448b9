/-
  The seat's own texts, part t: BnW6, BtW1, BtW2, BtW3, BtW4, BtW5.
-/
import Derived.Test.YthcmecokejemcaaGreatDoorWMs
import Derived.Laws.EntriesVeiled
set_option linter.unusedSimpArgs false
set_option linter.unusedVariables false
set_option maxHeartbeats 8000000
namespace Go.Proofs.YthcmecokejemcaaGreatDoor
open Go.RowKit Go.Shelf
attribute [local go_sem] Oper.semAt_some wide_fn
theorem wpIn_noPanic{F:Fence}{n:Nat}{P:Program}{c:Code}{Q:Exit→Act→World→Prop}{a:Act}{w:World}(h:c.wpIn F n P (noPanic Q) a w):c.wpIn F n P Q a w:=
 wpIn_mono h (fun e a w hh=>by cases e<;>first|exact hh|exact hh.elim)
def setFive(W:World)(b6 b7:Nat)(v1 v2 v3 v4 e:Value):World:=((((W.setCell ⟨b6,0,none⟩ v1).setCell ⟨b6,1,none⟩ v2).setCell ⟨b6,2,none⟩ v3).setCell ⟨b6,3,none⟩ v4).setCell ⟨b7,0,none⟩ e
theorem setFive_box{W:World}{b6 b7:Nat}{T6 T7:TypeId}{u1 u2 u3 u4 e0:Value}(h6:Box W b6 T6 [u1,u2,u3,u4])(h7:Box W b7 T7 [e0])(hne:b6≠b7)(v1 v2 v3 v4 e:Value):Box (setFive W b6 b7 v1 v2 v3 v4 e) b6 T6 [v1,v2,v3,v4]∧Box (setFive W b6 b7 v1 v2 v3 v4 e) b7 T7 [e]:=by
 have a1:=((((h6.set 0 v1).set 1 v2).set 2 v3).set 3 v4)
 have a2:=((((h7.other (p:=⟨b6,0,none⟩) (Ne.symm hne) v1).other (p:=⟨b6,1,none⟩) (Ne.symm hne) v2).other (p:=⟨b6,2,none⟩) (Ne.symm hne) v3).other (p:=⟨b6,3,none⟩) (Ne.symm hne) v4)
 exact⟨a1.other (p:=⟨b7,0,none⟩) hne e,a2.set 0 e⟩
theorem setFive_below{w W:World}{m b6 b7:Nat}(h:Below m w W)(h6:m≤b6)(h7:m≤b7)(v1 v2 v3 v4 e:Value):Below m w (setFive W b6 b7 v1 v2 v3 v4 e):=
 ((((h.setCell (p:=⟨b6,0,none⟩) h6 v1).setCell (p:=⟨b6,1,none⟩) h6 v2).setCell (p:=⟨b6,2,none⟩) h6 v3).setCell (p:=⟨b6,3,none⟩) h6 v4).setCell (p:=⟨b7,0,none⟩) h7 e
def bnKs(ws:List Nat)(k:Nat):List Nat:=(List.range k).map fun i=>ws.getD (2+2*i) 0
def bnVs(ws:List Nat)(k:Nat):List Nat:=(List.range k).map fun i=>ws.getD (2+2*i+1) 0
def bnHs(t:Nat)(ws:List Nat)(k:Nat):List Nat:=(List.range k).map fun i=>ws.getD (4*t+i) 0
theorem bnKs_len(ws:List Nat)(k:Nat):(bnKs ws k).length=k:=by simp [bnKs]
theorem bnVs_len(ws:List Nat)(k:Nat):(bnVs ws k).length=k:=by simp [bnVs]
theorem bnHs_len(t:Nat)(ws:List Nat)(k:Nat):(bnHs t ws k).length=k:=by simp [bnHs]
theorem hsV_snoc(l:List Nat)(y:Nat):hsV (l++ [y])=hsV l++ [.int .u64 (y:Nat)]:=by simp [hsV]
theorem bnKs_succ{ws:List Nat}{k:Nat}(h:2+2*k<ws.length):bnKs ws (k+1)=bnKs ws k++ [ws[2+2*k]]:=by
 unfold bnKs;rw [List.range_succ,List.map_append];simp [h]
theorem bnVs_succ{ws:List Nat}{k:Nat}(h:2+2*k+1<ws.length):bnVs ws (k+1)=bnVs ws k++ [ws[2+2*k+1]]:=by
 unfold bnVs;rw [List.range_succ,List.map_append];simp [h]
theorem bnHs_succ{t:Nat}{ws:List Nat}{k:Nat}(h:4*t+k<ws.length):bnHs t ws (k+1)=bnHs t ws k++ [ws[4*t+k]]:=by
 unfold bnHs;rw [List.range_succ,List.map_append];simp [h]
def BGet(w:World)(R:Nat→Option (List Nat))(t x:Nat)(e:Ending)(w' :World):Prop:=
 ∃v1 v2 v3,e= .returned (.tuple #[.agg #[v1,v2,v3, .int .u64 ((bnG R t x).size:Nat)], .int .i64 (bnE R t x:Nat)])∧Own3 w' w.heap.size v1 (bnG R t x).keys v2 (bnG R t x).vals v3 (bnG R t x).kids∧Below w.heap.size w w'
theorem box_put{W:World}{b D:Nat}{T:TypeId}{vs:List Value}(h:Box W b T vs)(hne:b≠D)(o:Obj):Box (W.putObj D o) b T vs:=h.block (World.putObj_heap_other hne)
theorem bn_ofW{t k sz lim kid0:Nat}{ws:List Nat}(h0:ws.getD 0 0=k)(h1:ws.getD 1 0=sz)(h4:ws.getD (4*t) 0=kid0)(hl:lim=if kid0=0 then 0 else k+1):(⟨bnKs ws k,bnVs ws k,bnHs t ws lim,sz⟩:BN)=BN.ofW t ws:=by
 unfold BN.ofW bnKs bnVs bnHs
 rw [h0,h1,h4,hl]
 split<;>simp
theorem wd_same{t:Nat}{n:BN}{ws:List Nat}(hl:ws.length=6*t)(xs:List {z:Nat // z<(n.wd t).length})(hxs:xs.map (fun z=>z.1)=List.range (n.wd t).length)(hq: ∀z∈xs,ws.getD z.1 0=(n.wd t)[z.1]'z.2):n.wd t=ws:=by
 refine List.ext_getElem (by rw [BN.wd_len,hl]) (fun i h1 h2=> ?_)
 have hm:i∈xs.map (fun z=>z.1):=by rw [hxs];exact List.mem_range.2 h1
 obtain⟨z,hz,rfl⟩:=List.mem_map.1 hm
 have h9:=hq z hz
 rw [List.getD_eq_getElem?_getD,List.getElem?_eq_getElem h2] at h9
 exact h9.symm
theorem setFive_heap{W:World}{b6 b7 b:Nat}(h6:b≠b6)(h7:b≠b7)(v1 v2 v3 v4 e:Value):(setFive W b6 b7 v1 v2 v3 v4 e).heap[b]? =W.heap[b]? :=by
 unfold setFive
 rw [Below.heap_setCell _ ⟨b7,0,none⟩ _ b h7,Below.heap_setCell _ ⟨b6,3,none⟩ _ b h6,Below.heap_setCell _ ⟨b6,2,none⟩ _ b h6,Below.heap_setCell _ ⟨b6,1,none⟩ _ b h6,Below.heap_setCell _ ⟨b6,0,none⟩ _ b h6]
theorem setFive_keeps(W:World)(N b6 b7:Nat)(v1 v2 v3 v4 e:Value):KeepsFrom N W (setFive W b6 b7 v1 v2 v3 v4 e):=
 (((((KeepsOthers.setCell _ _ _).trans (KeepsOthers.setCell _ _ _)).trans (KeepsOthers.setCell _ _ _)).trans (KeepsOthers.setCell _ _ _)).trans (KeepsOthers.setCell _ _ _)).from _
theorem Own3.lower{W:World}{B B' :Nat}{v1 v2 v3:Value}{l1 l2 l3:List Nat}(h:Own3 W B v1 l1 v2 l2 v3 l3)(hB:B' ≤B):Own3 W B' v1 l1 v2 l2 v3 l3:=
 ⟨⟨h.r1.1,h.r1.2.imp id (fun⟨g,cap,cur,h1,h2,h3⟩=>⟨g,cap,cur,h1,Nat.le_trans hB h2,h3⟩)⟩,⟨h.r2.1,h.r2.2.imp id (fun⟨g,cap,cur,h1,h2,h3⟩=>⟨g,cap,cur,h1,Nat.le_trans hB h2,h3⟩)⟩,⟨h.r3.1,h.r3.2.imp id (fun⟨g,cap,cur,h1,h2,h3⟩=>⟨g,cap,cur,h1,Nat.le_trans hB h2,h3⟩)⟩,h.a12,h.a13,h.a23⟩
theorem bget_node{w w4 W:World}{R:Nat→Option (List Nat)}{t x b6 b7 B D:Nat}{n:BN}{v1 v2 v3:Value}{o:Obj}(hG:bnG R t x=n)(hE:bnE R t x=0)(hown:Own3 w4 B v1 n.keys v2 n.vals v3 n.kids)(hB:w.heap.size≤B)(h6:w.heap.size≤b6)(h7:w.heap.size≤b7)(h6B:b6<B)(h7B:b7<B)(hb4:Below w.heap.size w w4)(hb:Below w4.heap.size w4 W)(hD:w4.heap.size≤D)(hDl:D<W.heap.size):
 BGet w R t x (.returned (.tuple #[.agg #[v1,v2,v3, .int .u64 (n.size:Nat)], .int .i64 0])) ((setFive W b6 b7 v1 v2 v3 (.int .u64 (n.size:Nat)) (.int .i64 0)).putObj D o):=by
 unfold BGet
 rw [hG,hE]
 have hs:=setFive_below (hb4.trans (hb.mono hb4.size)) h6 h7 v1 v2 v3 (.int .u64 (n.size:Nat)) (.int .i64 0)
 have h48:=hb4.size
 refine⟨v1,v2,v3,rfl, ?_,hs.grown (grownBy_putObj' _ D o) hs.size (fun k e=>by cases e;omega)⟩
 refine(hown.keep fun b hbB hlt=> ?_).lower hB
 exact(World.putObj_heap_other (show b≠D by omega)).trans ((setFive_heap (by omega) (by omega) _ _ _ _ _).trans (hb.block b hlt))
theorem bget_off{w W:World}{R:Nat→Option (List Nat)}{t x:Nat}{er:Nat}(hG:bnG R t x=BN.zero)(hE:bnE R t x=er)(hb:Below w.heap.size w W):
 BGet w R t x (.returned (.tuple #[.agg #[.slice none 0 0, .slice none 0 0, .slice none 0 0, .int .u64 0], .int .i64 (er:Nat)])) W:=by
 unfold BGet
 rw [hG,hE]
 exact⟨_,_,_,rfl,Own3.nil _ _,hb⟩
theorem bget_zero{w W:World}{R:Nat→Option (List Nat)}{t x b6 b7:Nat}{er:Nat}(hG:bnG R t x=BN.zero)(hE:bnE R t x=er)(hb:Below w.heap.size w W)(h6:w.heap.size≤b6)(h7:w.heap.size≤b7):
 BGet w R t x (.returned (.tuple #[.agg #[.slice none 0 0, .slice none 0 0, .slice none 0 0, .int .u64 0], .int .i64 (er:Nat)])) (setFive W b6 b7 (.slice none 0 0) (.slice none 0 0) (.slice none 0 0) (.int .u64 0) (.int .i64 (er:Nat))):=by
 unfold BGet
 rw [hG,hE]
 exact⟨_,_,_,rfl,Own3.nil _ _,setFive_below hb h6 h7 _ _ _ _ _⟩
section
variable {w w' :World} {s N:Nat} {R:Nat→Option (List Nat)} {nn:Nat}
set_option maxRecDepth 100000 in
theorem bnGet_at(h:Rd N w s R nn)(t:Nat)(ht:BN.Deg t)(x:Nat)(hx:x<18446744073709551616):
 Calls Tryz.prog 18 #[.pointer (some ⟨s,0,none⟩), .int .i64 (t:Nat), .int .u64 (x:Nat)] w (BGet w R t x):=by
 refine(callsIn_wide (n:=9)).1 ?_
 have hmo:Tryz.prog.follows .mixedOrders=true:=by kernel_rfl
 have t1:=ht.1
 have t2:=ht.2
 have hH:=Lib.hid h
 have hL0:=fun W (hb:Below w.heap.size w W)=>(callsIn_wide (n:=8)).2 (rlen_at (h.below hb) 0 (by decide))
 obtain⟨la,lb,hlr,hl1⟩:=lenR_form R 0
 rw [hlr] at hL0
 have d1:((lb:Int)==1)=false:=by simp;omega
 have hL0H:=Lib.hid hL0
 have hIs:=Lib.hid (fun W=>(callsIn_wide (n:=8)).2 (bnIs_yes ht W))
 have hLx:=Lib.hid (fun W (hb:Below w.heap.size w W)=>(callsIn_wide (n:=8)).2 (rlen_at (h.below hb) x hx))
 obtain⟨W0,hW0⟩: ∃W,W=((((w.alloc (Obj.cells #[.pointer (some ⟨s,0,none⟩)] 25)).alloc (Obj.cells #[.int .u64 (x:Nat)] 23)).alloc (Obj.cells #[.slice none 0 0, .slice none 0 0, .slice none 0 0, .int .u64 0] 48)).alloc (Obj.cells #[.int .i64 0] 26)):=⟨_,rfl⟩
 have hbA:Below w.heap.size w W0:=by rw [hW0];exact((((Below.refl _ w).alloc (Nat.le_refl _) _).alloc (by simp) _).alloc (by simp;omega) _).alloc (by simp;omega) _
 have hz0:W0.heap.size=w.heap.size+4:=by rw [hW0];simp
 have x3:Box W0 w.heap.size 25 [.pointer (some ⟨s,0,none⟩)]:=by rw [hW0];exact(((Box.new w 25 [.pointer (some ⟨s,0,none⟩)]).alloc _).alloc _).alloc _
 have x5:Box W0 (w.heap.size+1) 23 [.int .u64 (x:Nat)]:=by
  rw [hW0]
  have:=((Box.new (w.alloc (Obj.cells #[.pointer (some ⟨s,0,none⟩)] 25)) 23 [.int .u64 (x:Nat)]).alloc (Obj.cells #[.slice none 0 0, .slice none 0 0, .slice none 0 0, .int .u64 0] 48)).alloc (Obj.cells #[.int .i64 0] 26)
  rwa [show(w.alloc (Obj.cells #[.pointer (some ⟨s,0,none⟩)] 25)).heap.size=w.heap.size+1 by simp] at this
 have x6:Box W0 (w.heap.size+1+1) 48 [.slice none 0 0, .slice none 0 0, .slice none 0 0, .int .u64 0]:=by
  rw [hW0]
  have:=((Box.new ((w.alloc (Obj.cells #[.pointer (some ⟨s,0,none⟩)] 25)).alloc (Obj.cells #[.int .u64 (x:Nat)] 23)) 48 [.slice none 0 0, .slice none 0 0, .slice none 0 0, .int .u64 0])).alloc (Obj.cells #[.int .i64 0] 26)
  rwa [show((w.alloc (Obj.cells #[.pointer (some ⟨s,0,none⟩)] 25)).alloc (Obj.cells #[.int .u64 (x:Nat)] 23)).heap.size=w.heap.size+1+1 by simp] at this
 have x7:Box W0 (w.heap.size+1+1+1) 26 [.int .i64 0]:=by
  rw [hW0]
  have:=(Box.new (((w.alloc (Obj.cells #[.pointer (some ⟨s,0,none⟩)] 25)).alloc (Obj.cells #[.int .u64 (x:Nat)] 23)).alloc (Obj.cells #[.slice none 0 0, .slice none 0 0, .slice none 0 0, .int .u64 0] 48)) 26 [.int .i64 0])
  rwa [show(((w.alloc (Obj.cells #[.pointer (some ⟨s,0,none⟩)] 25)).alloc (Obj.cells #[.int .u64 (x:Nat)] 23)).alloc (Obj.cells #[.slice none 0 0, .slice none 0 0, .slice none 0 0, .int .u64 0] 48)).heap.size=w.heap.size+1+1+1 by simp] at this
 obtain⟨b3,hb3⟩: ∃b,b=w.heap.size:=⟨_,rfl⟩
 obtain⟨b5,hb5⟩: ∃b,b=w.heap.size+1:=⟨_,rfl⟩
 obtain⟨b6,hb6⟩: ∃b,b=w.heap.size+1+1:=⟨_,rfl⟩
 obtain⟨b7,hb7⟩: ∃b,b=w.heap.size+1+1+1:=⟨_,rfl⟩
 rw [←hb7] at x7
 rw [←hb6] at x6
 rw [←hb5] at x5
 rw [←hb3] at x3
 have g3:w.heap.size≤b3:=by omega
 have g5:w.heap.size≤b5:=by omega
 have g6:w.heap.size≤b6:=by omega
 have g7:w.heap.size≤b7:=by omega
 have hne:b6≠b7:=by omega
 have l3:=x3.lt
 have l5:=x5.lt
 have l6:=x6.lt
 have l7:=x7.lt
 have hbb:=Lib.hid (And.intro hb3 (And.intro hb5 (And.intro hb6 hb7)))
 have hW0H:=Lib.hid hW0
 have hbAH:=Lib.hid hbA
 have x6H:=Lib.hid x6
 have x7H:=Lib.hid x7
 have x3H:=Lib.hid x3
 have x5H:=Lib.hid x5
 have c3:=x3.at' (i:=0) rfl
 have c5:=x5.at' (i:=0) rfl
 have c60:=x6.at' (i:=0) rfl
 have c61:=x6.at' (i:=1) rfl
 have c62:=x6.at' (i:=2) rfl
 have c63:=x6.at' (i:=3) rfl
 have c7:=x7.at' (i:=0) rfl
 have f60:=x6.free 0
 have f61:=x6.free 1
 have f62:=x6.free 2
 have f63:=x6.free 3
 have f7:=x7.free 0
 clear h hL0 hl1 hlr hbA hW0 ht x3 x5 x6 x7 hb3 hb5 hb6 hb7 hz0
 refine callsIn_of_wp_marks Tryz.func18 rfl trivial ?_ rfl
 refine wpIn_noPanic ?_
 simp only [Tryz.ntmps18,List.size_toArray,List.length_cons,List.length_nil,Nat.reduceAdd,Nat.reduceSub,Array.replicate_succ,Array.replicate_zero,List.push_toArray,List.append_toArray,List.nil_append,List.cons_append]
 gi_wp2_with fail
 rw [←hW0H.out,←hbb.out.2.2.2,←hbb.out.2.2.1,←hbb.out.2.1,←hbb.out.1]
 refine(hL0H.out _ hbAH.out).mono ?_
 rintro e w1 ⟨rfl,rfl⟩
 gi_wp2_with fail
 refine(hIs.out _).mono ?_
 rintro e w1 ⟨rfl,rfl⟩
 clear hL0H hIs hbb hW0H
 cases hR:R x with
 |none=>
  rw [lenR_none hR] at hLx
  have hfin:=bget_zero (w:=w) (W:=W0) (R:=R) (t:=t) (x:=x) (b6:=b6) (b7:=b7) (er:=7) (by unfold bnG;rw [hR]) (by unfold bnE;rw [hR]) hbAH.out g6 g7
  have hq:=setFive_box x6H.out x7H.out hne (.slice none 0 0) (.slice none 0 0) (.slice none 0 0) (.int .u64 0) (.int .i64 ((7:Nat):Int))
  unfold setFive at hfin hq
  have hfinH:=Lib.hid hfin
  have hqH:=Lib.hid hq
  clear hfin hq
  gi_wp2_with fail
  refine(hLx.out _ hbAH.out).mono ?_
  rintro e w3 ⟨rfl,rfl⟩
  gi_wp2
  refine⟨.tuple #[.agg #[.slice none 0 0, .slice none 0 0, .slice none 0 0, .int .u64 0], .int .i64 7], ?_,hfinH.out⟩
  have r0:=hqH.out.1.at' (i:=0) rfl
  have r1:=hqH.out.1.at' (i:=1) rfl
  have r2:=hqH.out.1.at' (i:=2) rfl
  have r3:=hqH.out.1.at' (i:=3) rfl
  have r4:=hqH.out.2.at' (i:=0) rfl
  rw [show(((7:Nat):Int))=7 from rfl] at r0 r1 r2 r3 r4
  simp [results,Tryz.f18,go_sem,r0,r1,r2,r3,r4]
 |some ws=>
  rw [lenR_some hR] at hLx
  have wt:IntKind.i64.wrap (6*(t:Int))=6*(t:Int):=by rw [IntKind.wrap_i64];omega
  by_cases hl:ws.length=6*t
  · have dl:(((ws.length:Nat):Int) !=6*(t:Int))=false:=by simp;omega
    obtain⟨-,-,hu⟩:=hH.out.u64 hR
    have hGw:=Lib.hid (fun(W:World) (hb:Below w.heap.size w W) (i:Nat) (hi:i<ws.length) (q1:W.cell? ⟨b3,0,none⟩=some (.pointer (some ⟨s,0,none⟩))) (q2:W.cell? ⟨b5,0,none⟩=some (.int .u64 (x:Nat)))=>(callsIn_wide (n:=8)).2 (bnW_at (hH.out.below hb) hR hi q1 q2))
    have huH:=Lib.hid hu
    clear hu
    gi_wp2_with fail
    refine(hLx.out _ hbAH.out).mono ?_
    rintro e w3 ⟨rfl,rfl⟩
    gi_wp2_with fail
    obtain⟨W1,hW1⟩: ∃W,W=W0.alloc (Obj.cells #[.func (.func 45) #[] #[.pointer (some ⟨b3,0,none⟩), .pointer (some ⟨b5,0,none⟩)]] 106):=⟨_,rfl⟩
    obtain⟨b12,hb12⟩: ∃b,b=W0.heap.size:=⟨_,rfl⟩
    have x12:Box W1 b12 106 [.func (.func 45) #[] #[.pointer (some ⟨b3,0,none⟩), .pointer (some ⟨b5,0,none⟩)]]:=by rw [hW1,hb12];exact Box.new W0 106 [.func (.func 45) #[] #[.pointer (some ⟨b3,0,none⟩), .pointer (some ⟨b5,0,none⟩)]]
    have hb01:Below W0.heap.size W0 W1:=by rw [hW1];exact(Below.refl _ _).alloc (Nat.le_refl _) _
    rw [←hW1,←hb12]
    have hbw1:=hbAH.out.trans (hb01.mono hbAH.out.size)
    have e3:=(x3H.out.below hb01).at' (i:=0) rfl
    have e5:=(x5H.out.below hb01).at' (i:=0) rfl
    have e12:=x12.at' (i:=0) rfl
    have e60:=(x6H.out.below hb01).at' (i:=0) rfl
    have e61:=(x6H.out.below hb01).at' (i:=1) rfl
    have e62:=(x6H.out.below hb01).at' (i:=2) rfl
    have e63:=(x6H.out.below hb01).at' (i:=3) rfl
    have e7:=(x7H.out.below hb01).at' (i:=0) rfl
    have k60:=(x6H.out.below hb01).free 0
    have k61:=(x6H.out.below hb01).free 1
    have k62:=(x6H.out.below hb01).free 2
    have k63:=(x6H.out.below hb01).free 3
    have k7:=(x7H.out.below hb01).free 0
    have l12:=x12.lt
    have l31:=(x3H.out.below hb01).lt
    have l51:=(x5H.out.below hb01).lt
    have l61:=(x6H.out.below hb01).lt
    have l71:=(x7H.out.below hb01).lt
    have hbW1:=Lib.hid hbw1
    have y3:=Lib.hid (x3H.out.below hb01)
    have y5:=Lib.hid (x5H.out.below hb01)
    have y6:=Lib.hid (x6H.out.below hb01)
    have y7:=Lib.hid (x7H.out.below hb01)
    have y12:=Lib.hid x12
    have hm0:0<ws.length:=by omega
    obtain⟨m,hm⟩: ∃m,ws[0]=m:=⟨_,rfl⟩
    obtain⟨sz,hsz⟩: ∃sz,ws[1]'(by omega)=sz:=⟨_,rfl⟩
    have hm64:=huH.out 0 hm0
    have hs64:=huH.out 1 (by omega)
    rw [hm] at hm64
    rw [hsz] at hs64
    have hG0:=hGw.out W1 hbw1 0 hm0 e3 e5
    have hG1:=hGw.out W1 hbw1 1 (by omega) e3 e5
    rw [hm] at hG0
    rw [hsz] at hG1
    rw [show((0:Nat):Int)=0 from rfl] at hG0
    rw [show((1:Nat):Int)=1 from rfl] at hG1
    have hG0H:=Lib.hid hG0
    have hG1H:=Lib.hid hG1
    have hmH:=Lib.hid hm
    have hszH:=Lib.hid hsz
    have wt2:IntKind.i64.wrap (2*(t:Int))=2*(t:Int):=by rw [IntKind.wrap_i64];omega
    have wt3:IntKind.i64.wrap (2*(t:Int)-1)=2*(t:Int)-1:=by rw [IntKind.wrap_i64];omega
    have wt4:IntKind.u64.wrap (2*(t:Int)-1)=2*(t:Int)-1:=by rw [IntKind.wrap_u64];omega
    clear c3 c5 c60 c61 c62 c63 c7 f60 f61 f62 f63 f7 hW1 hb12 x12 hb01 hbw1 hG0 hG1 hm hsz hLx
    refine hG0H.out.mono ?_
    rintro e w4 ⟨rfl,rfl⟩
    by_cases hbig:2*t-1<m
    · have dm:decide (2*(t:Int)-1<(m:Int))=true:=decide_eq_true (by omega)
      have hno: ¬BN.IsW t ws:=fun h=>by have h9:=h.2.1;rw [List.getD_eq_getElem?_getD,List.getElem?_eq_getElem hm0,hmH.out] at h9;simp at h9;omega
      have hfin:=bget_zero (w:=w) (W:=W1) (R:=R) (t:=t) (x:=x) (b6:=b6) (b7:=b7) (er:=8) (by unfold bnG;rw [hR];exact if_neg hno) (by unfold bnE;rw [hR];exact if_neg hno) hbW1.out g6 g7
      have hq:=setFive_box y6.out y7.out hne (.slice none 0 0) (.slice none 0 0) (.slice none 0 0) (.int .u64 0) (.int .i64 ((8:Nat):Int))
      unfold setFive at hfin hq
      have hfinH:=Lib.hid hfin
      have hqH:=Lib.hid hq
      clear hfin hq
      gi_wp2
      refine⟨.tuple #[.agg #[.slice none 0 0, .slice none 0 0, .slice none 0 0, .int .u64 0], .int .i64 8], ?_,hfinH.out⟩
      have r0:=hqH.out.1.at' (i:=0) rfl
      have r1:=hqH.out.1.at' (i:=1) rfl
      have r2:=hqH.out.1.at' (i:=2) rfl
      have r3:=hqH.out.1.at' (i:=3) rfl
      have r4:=hqH.out.2.at' (i:=0) rfl
      rw [show(((8:Nat):Int))=8 from rfl] at r0 r1 r2 r3 r4
      simp [results,Tryz.f18,go_sem,r0,r1,r2,r3,r4]
    · have dm:decide (2*(t:Int)-1<(m:Int))=false:=decide_eq_false (by omega)
      clear k60 k61 k62 k63 k7 e60 e61 e62 e63 e7
      gi_wp2_with fail
      refine hG1H.out.mono ?_
      rintro e w4 ⟨rfl,rfl⟩
      gi_wp2_with fail
      obtain⟨W2,hW2⟩: ∃W,W=W1.alloc (Obj.cells #[.slice none 0 0, .slice none 0 0, .slice none 0 0, .int .u64 (sz:Nat)] 48):=⟨_,rfl⟩
      obtain⟨b13,hb13⟩: ∃b,b=W1.heap.size:=⟨_,rfl⟩
      have x13:Box W2 b13 48 [.slice none 0 0, .slice none 0 0, .slice none 0 0, .int .u64 (sz:Nat)]:=by rw [hW2,hb13];exact Box.new W1 48 [.slice none 0 0, .slice none 0 0, .slice none 0 0, .int .u64 (sz:Nat)]
      have hb12:Below W1.heap.size W1 W2:=by rw [hW2];exact(Below.refl _ _).alloc (Nat.le_refl _) _
      have hz2:W2.heap.size=b13+1:=by rw [hW2,hb13];simp
      rw [←hW2,←hb13]
      have hbw2:=hbW1.out.trans (hb12.mono hbW1.out.size)
      have hG0:=hGw.out W2 hbw2 0 hm0 ((hb12.cell (p:=⟨b3,0,none⟩) (cell_lt e3)).trans e3) ((hb12.cell (p:=⟨b5,0,none⟩) (cell_lt e5)).trans e5)
      rw [hmH.out] at hG0
      rw [show((0:Nat):Int)=0 from rfl] at hG0
      have hG02:=Lib.hid hG0
      have hb12H:=Lib.hid hb12
      have x13H:=Lib.hid x13
      have hb13H:=Lib.hid hb13
      have hz2H:=Lib.hid hz2
      have wm:IntKind.i64.wrap (m:Int)=(m:Int):=by rw [IntKind.wrap_i64];omega
      have hg13:w.heap.size≤b13:=by have:=hbW1.out.size;omega
      have hO2:Hid (Own3 W2 (b13+1) (.slice none 0 0) (bnKs ws 0) (.slice none 0 0) (bnVs ws 0) (.slice none 0 0) []):=Lib.hid (Own3.nil _ _)
      have hB2:Hid (Below b13 W1 W2):=Lib.hid (by rw [hb13];exact hb12)
      clear e3 e5 hW2 hb13 x13 hb12 hbw2 hG0 hG0H hG1H hz2
      refine hG02.out.mono ?_
      rintro e w4 ⟨rfl,rfl⟩
      obtain⟨i0,hi,hz0,hz1,hz2⟩:=info_parts Tryz.info_h
      gi_wp2_with fail
      gi_loopw [63] (fun iv wr=> ∃(k:Nat) (v1 v2:Value),k≤m∧iv= .int .i64 k∧Hid (Box wr b13 48 [v1,v2, .slice none 0 0, .int .u64 (sz:Nat)])∧Hid (Own3 wr (b13+1) v1 (bnKs ws k) v2 (bnVs ws k) (.slice none 0 0) [])∧Hid (Below b13 W1 wr)) (fun iv _=>m-(intOf iv).toNat)
      case atStart=>exact⟨0,_,_,by omega,rfl,x13H,hO2,hB2⟩
      case round=>
       obtain⟨k,v1,v2,hk,rfl,hbx,how,hbl⟩:=hrel
       clear hO2 hB2 x13H
       by_cases hlt:k<m
       · skip
         have w1:IntKind.i64.wrap (2*(k:Int))=2*(k:Int):=by rw [IntKind.wrap_i64];omega
         have w2:IntKind.i64.wrap (2+2*(k:Int))=2+2*(k:Int):=by rw [IntKind.wrap_i64];omega
         have w3:IntKind.i64.wrap (2+2*(k:Int)+1)=2+2*(k:Int)+1:=by rw [IntKind.wrap_i64];omega
         have hb1r:Below W1.heap.size W1 wr:=by rw [←hb13H.out];exact hbl.out
         have hbwr:=hbW1.out.trans (hb1r.mono hbW1.out.size)
         have hx1:=fun X:Bel wr=>X.cell (hbx.out.at' (i:=0) rfl)
         have hx12:=fun X:Bel wr=>X.cell ((y12.out.below hb1r).at' (i:=0) rfl)
         obtain⟨y,hy⟩: ∃y,ws[2+2*k]'(by omega)=y:=⟨_,rfl⟩
         have hGk:=fun W (hb:Below wr.heap.size wr W)=>hGw.out W (hbwr.trans (hb.mono hbwr.size)) (2+2*k) (by omega) ((hb.cell (p:=⟨b3,0,none⟩) ((y3.out.below hb1r).lt)).trans ((y3.out.below hb1r).at' (i:=0) rfl)) ((hb.cell (p:=⟨b5,0,none⟩) ((y5.out.below hb1r).lt)).trans ((y5.out.below hb1r).at' (i:=0) rfl))
         rw [hy] at hGk
         push_cast at hGk
         have hGkH:=Lib.hid hGk
         have hlr:b13<wr.heap.size:=hbx.out.lt
         have hks:Hid (bnKs ws (k+1)=bnKs ws k++ [y]):=Lib.hid (by rw [←hy];exact bnKs_succ (by omega))
         have hkl:(bnKs ws k).length=k:=bnKs_len _ _
         clear hy hb1r hbwr hGk
         gi_wp2
         refine wpIn_region_float (fun w' => ∃X:Bel wr,w' =X.W) 6 2 8 hmo (by kernel_rfl) (by kernel_rfl) (by kernel_rfl) (by kernel_rfl) (by decide) rfl (by kernel_rfl) ⟨⟨_,below_drawn wr⟩,rfl⟩ (fun _ _ _ _ h=>h) ?_
         simp only [List.take_succ_cons,List.take_zero,List.drop_succ_cons,List.drop_zero]
         refine wpPureC_step (.pointer (some ⟨b13,0,none⟩)) rfl (by rintro _ ⟨X,rfl⟩;go_simp) (fun _=>rfl) ?_
         go_simp
         refine wpPureC_step (v1) rfl (by rintro _ ⟨X,rfl⟩;have:=hx1 X;go_simp) (fun _=>rfl) ?_
         go_simp
         refine wpPureC_step (.func (.func 45) #[] #[.pointer (some ⟨b3,0,none⟩), .pointer (some ⟨b5,0,none⟩)]) rfl (by rintro _ ⟨X,rfl⟩;have:=hx12 X;go_simp) (fun _=>rfl) ?_
         go_simp
         refine wpPureC_step (.int .i64 (k:Nat)) rfl (by rintro _ ⟨X,rfl⟩;go_simp) (fun _=>rfl) ?_
         go_simp
         refine wpPureC_step (.int .i64 (2*(k:Int))) rfl (by rintro _ ⟨X,rfl⟩;go_simp) (fun _=>rfl) ?_
         go_simp
         refine wpPureC_step (.int .i64 (2+2*(k:Int))) rfl (by rintro _ ⟨X,rfl⟩;go_simp) (fun _=>rfl) ?_
         go_simp
         refine wpPureC_nil ?_
         refine wpChainC_step (fun K5 hK5=> ?_)
         gi_wp2_with fail
         refine(hGkH.out _ (below_drawn wr)).mono ?_
         rintro e Wd ⟨rfl,hWd⟩
         have hbd:Below wr.heap.size wr Wd:=by rw [←hWd];exact below_drawn wr
         have hbxd:=Lib.hid (hbx.out.below hbd)
         have howd:=Lib.hid (how.out.below hbd)
         have hbld:=Lib.hid (hbl.out.trans (hbd.mono (by omega)))
         have hrowd:=Lib.hid howd.out.r1
         have hsd:wr.heap.size≤Wd.heap.size:=hbd.size
         have hbdH:=Lib.hid hbd
         clear hWd hbd hx1 hx12 hbx how hbl hGkH
         gi_wp2
         refine hK5 _ _ ⟨⟨Wd,hbdH.out⟩,rfl⟩ ?_
         clear hK5 K5
         refine wpChainC_step (fun K6 hK6=> ?_)
         gi_wp2
         refine hK6 _ _ ⟨⟨_,hbdH.out.alloc hsd _⟩,rfl⟩ ?_
         clear hK6 K6
         refine wpChainC_zero ?_
         gi_wp2_with (gi_at_builtin;go_must (refine wpListIn_append_own_at _ rfl _ _ 43 rfl (b13+1) 23 i0 (.int .u64 0) 1 8 Tryz.under_hs hi hz0 hz1 hz2 rfl (by decide) _ _ _ rfl (hrowd.out.alloc _) ⟨Wd.heap.size,0,none⟩ 1 1 [.int .u64 (y:Nat)] rfl rfl (cell_one_new _ _ _) (by simp [Value.oneCell']) (by unfold maxLen;omega) (by omega) (by simp;omega) ?_);intro v' wa hown' hgrow _ hblk;obtain⟨g',cap',rfl⟩:=ownsRow_succ hown';have hAll:=Lib.hid (And.intro hown' (And.intro hgrow hblk));have hblk13:=Lib.hid (grown_block hrowd.out hgrow (by omega) hbxd.out.lt);have q0:=(hbxd.out.block hblk13.out).at' (i:=0) rfl;have q1:=(hbxd.out.block hblk13.out).free 0;clear hown' hgrow hblk)
         obtain⟨hown',hgrow,hblk⟩:=hAll.out
         obtain⟨vn8,hvn⟩: ∃v,v=Value.slice (some ⟨g',0,none⟩) (k+1) cap' :=⟨_,rfl⟩
         rw [hkl,←hvn] at hown' hblk
         have hown2:wa.ownsRow (b13+1) 23 1 vn8 (bnKs ws k++ [y]).length (hsV (bnKs ws k++ [y])):=by rw [hsV_snoc,List.length_append,hkl];exact hown'
         have how2:=(howd.out.app1 hown2 hgrow hblk).set (b:=b13) (j:=0) (by omega) vn8
         rw [←hks.out] at how2
         have hbx2:=(hbxd.out.block hblk13.out).set 0 vn8
         have hbl2:=(grown_below hbld.out (by omega) (by omega) hrowd.out hgrow).setCell (p:=⟨b13,0,none⟩) (Nat.le_refl _) vn8
         rw [←hvn]
         clear hvn
         have how:=Lib.hid how2
         have hbx:=Lib.hid hbx2
         have hbl:=Lib.hid hbl2
         clear q0 q1 hown2 how2 hbx2 hbl2 hown' hgrow hblk hbxd howd hbld hrowd hks hblk13 hAll hkl hlr hsd hbdH
         generalize wa.setCell ⟨b13,0,none⟩ vn8=W8 at*
         clear wa
         have hb1r:Below W1.heap.size W1 W8:=by rw [←hb13H.out];exact hbl.out
         have hbwr:=hbW1.out.trans (hb1r.mono hbW1.out.size)
         have hx1:=fun X:Bel W8=>X.cell (hbx.out.at' (i:=1) rfl)
         have hx12:=fun X:Bel W8=>X.cell ((y12.out.below hb1r).at' (i:=0) rfl)
         obtain⟨y,hy⟩: ∃y,ws[2+2*k+1]'(by omega)=y:=⟨_,rfl⟩
         have hGk:=fun W (hb:Below W8.heap.size W8 W)=>hGw.out W (hbwr.trans (hb.mono hbwr.size)) (2+2*k+1) (by omega) ((hb.cell (p:=⟨b3,0,none⟩) ((y3.out.below hb1r).lt)).trans ((y3.out.below hb1r).at' (i:=0) rfl)) ((hb.cell (p:=⟨b5,0,none⟩) ((y5.out.below hb1r).lt)).trans ((y5.out.below hb1r).at' (i:=0) rfl))
         rw [hy] at hGk
         push_cast at hGk
         have hGkH:=Lib.hid hGk
         have hlr:b13<W8.heap.size:=hbx.out.lt
         have hks:Hid (bnVs ws (k+1)=bnVs ws k++ [y]):=Lib.hid (by rw [←hy];exact bnVs_succ (by omega))
         have hkl:(bnVs ws k).length=k:=bnVs_len _ _
         clear hy hb1r hbwr hGk
         gi_wp2
         refine wpIn_region_float (fun w' => ∃X:Bel W8,w' =X.W) 7 2 9 hmo (by kernel_rfl) (by kernel_rfl) (by kernel_rfl) (by kernel_rfl) (by decide) rfl (by kernel_rfl) ⟨⟨_,below_drawn W8⟩,rfl⟩ (fun _ _ _ _ h=>h) ?_
         simp only [List.take_succ_cons,List.take_zero,List.drop_succ_cons,List.drop_zero]
         refine wpPureC_step (.pointer (some ⟨b13,1,none⟩)) rfl (by rintro _ ⟨X,rfl⟩;go_simp) (fun _=>rfl) ?_
         go_simp
         refine wpPureC_step (v2) rfl (by rintro _ ⟨X,rfl⟩;have:=hx1 X;go_simp) (fun _=>rfl) ?_
         go_simp
         refine wpPureC_step (.func (.func 45) #[] #[.pointer (some ⟨b3,0,none⟩), .pointer (some ⟨b5,0,none⟩)]) rfl (by rintro _ ⟨X,rfl⟩;have:=hx12 X;go_simp) (fun _=>rfl) ?_
         go_simp
         refine wpPureC_step (.int .i64 (k:Nat)) rfl (by rintro _ ⟨X,rfl⟩;go_simp) (fun _=>rfl) ?_
         go_simp
         refine wpPureC_step (.int .i64 (2*(k:Int))) rfl (by rintro _ ⟨X,rfl⟩;go_simp) (fun _=>rfl) ?_
         go_simp
         refine wpPureC_step (.int .i64 (2+2*(k:Int))) rfl (by rintro _ ⟨X,rfl⟩;go_simp) (fun _=>rfl) ?_
         go_simp
         refine wpPureC_step (.int .i64 (2+2*(k:Int)+1)) rfl (by rintro _ ⟨X,rfl⟩;go_simp) (fun _=>rfl) ?_
         go_simp
         refine wpPureC_nil ?_
         refine wpChainC_step (fun K5 hK5=> ?_)
         gi_wp2_with fail
         refine(hGkH.out _ (below_drawn W8)).mono ?_
         rintro e Wd ⟨rfl,hWd⟩
         have hbd:Below W8.heap.size W8 Wd:=by rw [←hWd];exact below_drawn W8
         have hbxd:=Lib.hid (hbx.out.below hbd)
         have howd:=Lib.hid (how.out.below hbd)
         have hbld:=Lib.hid (hbl.out.trans (hbd.mono (by omega)))
         have hrowd:=Lib.hid howd.out.r2
         have hsd:W8.heap.size≤Wd.heap.size:=hbd.size
         have hbdH:=Lib.hid hbd
         clear hWd hbd hx1 hx12 hbx how hbl hGkH
         gi_wp2
         refine hK5 _ _ ⟨⟨Wd,hbdH.out⟩,rfl⟩ ?_
         clear hK5 K5
         refine wpChainC_step (fun K6 hK6=> ?_)
         gi_wp2
         refine hK6 _ _ ⟨⟨_,hbdH.out.alloc hsd _⟩,rfl⟩ ?_
         clear hK6 K6
         refine wpChainC_zero ?_
         gi_wp2_with (gi_at_builtin;go_must (refine wpListIn_append_own_at _ rfl _ _ 43 rfl (b13+1) 23 i0 (.int .u64 0) 1 8 Tryz.under_hs hi hz0 hz1 hz2 rfl (by decide) _ _ _ rfl (hrowd.out.alloc _) ⟨Wd.heap.size,0,none⟩ 1 1 [.int .u64 (y:Nat)] rfl rfl (cell_one_new _ _ _) (by simp [Value.oneCell']) (by unfold maxLen;omega) (by omega) (by simp;omega) ?_);intro v' wa hown' hgrow _ hblk;obtain⟨g',cap',rfl⟩:=ownsRow_succ hown';have hAll:=Lib.hid (And.intro hown' (And.intro hgrow hblk));have hblk13:=Lib.hid (grown_block hrowd.out hgrow (by omega) hbxd.out.lt);have q0:=(hbxd.out.block hblk13.out).at' (i:=1) rfl;have q1:=(hbxd.out.block hblk13.out).free 1;clear hown' hgrow hblk)
         obtain⟨hown',hgrow,hblk⟩:=hAll.out
         obtain⟨vn9,hvn⟩: ∃v,v=Value.slice (some ⟨g',0,none⟩) (k+1) cap' :=⟨_,rfl⟩
         rw [hkl,←hvn] at hown' hblk
         have hown2:wa.ownsRow (b13+1) 23 1 vn9 (bnVs ws k++ [y]).length (hsV (bnVs ws k++ [y])):=by rw [hsV_snoc,List.length_append,hkl];exact hown'
         have how2:=(howd.out.app2 hown2 hgrow hblk).set (b:=b13) (j:=1) (by omega) vn9
         rw [←hks.out] at how2
         have hbx2:=(hbxd.out.block hblk13.out).set 1 vn9
         have hbl2:=(grown_below hbld.out (by omega) (by omega) hrowd.out hgrow).setCell (p:=⟨b13,1,none⟩) (Nat.le_refl _) vn9
         rw [←hvn]
         clear hvn
         have how:=Lib.hid how2
         have hbx:=Lib.hid hbx2
         have hbl:=Lib.hid hbl2
         clear q0 q1 hown2 how2 hbx2 hbl2 hown' hgrow hblk hbxd howd hbld hrowd hks hblk13 hAll hkl hlr hsd hbdH
         generalize wa.setCell ⟨b13,1,none⟩ vn9=W9 at*
         clear wa
         go_roundw
         case rel=>exact⟨k+1,vn8,vn9,by omega,by go_num,hbx,how,hbl⟩
         case measure=>simp [intOf];omega
       · obtain rfl:k=m:=by omega
         obtain⟨A1,c1,rfl⟩: ∃A c,v1= .slice A k c:=by have h9:=ownN_form how.out.r1;rw [bnKs_len] at h9;exact h9
         obtain⟨kid0,hk0⟩: ∃y,ws[4*t]'(by omega)=y:=⟨_,rfl⟩
         have hk0H:=Lib.hid hk0
         have hk064:=huH.out (4*t) (by omega)
         rw [hk0] at hk064
         obtain⟨lim,hlim⟩: ∃l,l=if kid0=0 then 0 else k+1:=⟨_,rfl⟩
         have hlimH:=Lib.hid hlim
         have hlk:lim≤k+1:=by rw [hlim];split<;>omega
         clear hlim hk0 hlt
         have wt5:IntKind.i64.wrap (4*(t:Int))=4*(t:Int):=by rw [IntKind.wrap_i64];omega
         have how0:Hid (Own3 wr (b13+1) (.slice A1 k c1) (bnKs ws k) v2 (bnVs ws k) (.slice none 0 0) (bnHs t ws 0)):=how
         have hbx0:=Lib.hid hbx.out
         have hbl0:=Lib.hid hbl.out
         clear how hbx hbl
         gi_wp2_with fail
         gi_loopw [15] (fun iv wr=> ∃(j:Nat) (v3:Value),j≤lim∧iv= .int .i64 j∧Hid (Box wr b13 48 [.slice A1 k c1,v2,v3, .int .u64 (sz:Nat)])∧Hid (Own3 wr (b13+1) (.slice A1 k c1) (bnKs ws k) v2 (bnVs ws k) v3 (bnHs t ws j))∧Hid (Below b13 W1 wr)) (fun iv _=>lim-(intOf iv).toNat)
         case atStart=>exact⟨0,_,by omega,rfl,hbx0,how0,hbl0⟩
         case round=>
          obtain⟨j,v3,hj,rfl,hbx,how,hbl⟩:=hrel
          clear hbx0 how0 hbl0
          by_cases hlt:j<lim
          · have hz9:kid0≠0:=fun e=>by have h9:=hlimH.out;rw [if_pos e] at h9;omega
            have dz:((kid0:Int) !=0)=true:=by simp;omega
            have hjm:j≤k:=by omega
            have dj:decide ((j:Int)≤(k:Int))=true:=decide_eq_true (by omega)
            have hb1r0:Below W1.heap.size W1 wr:=by rw [←hb13H.out];exact hbl.out
            have hbwr0:=hbW1.out.trans (hb1r0.mono hbW1.out.size)
            have hG4:=hGw.out wr hbwr0 (4*t) (by omega) ((y3.out.below hb1r0).at' (i:=0) rfl) ((y5.out.below hb1r0).at' (i:=0) rfl)
            rw [hk0H.out] at hG4
            push_cast at hG4
            have hG4H:=Lib.hid hG4
            have f0:=hbx.out.at' (i:=0) rfl
            have f12:=(y12.out.below hb1r0).at' (i:=0) rfl
            clear hb1r0 hbwr0 hG4
            gi_wp2_with fail
            refine hG4H.out.mono ?_
            rintro e w5 ⟨rfl,rfl⟩
            clear f0 f12 hG4H
            have w4:IntKind.i64.wrap (4*(t:Int)+(j:Int))=4*(t:Int)+(j:Int):=by rw [IntKind.wrap_i64];omega
            have hb1r:Below W1.heap.size W1 wr:=by rw [←hb13H.out];exact hbl.out
            have hbwr:=hbW1.out.trans (hb1r.mono hbW1.out.size)
            have hx1:=fun X:Bel wr=>X.cell (hbx.out.at' (i:=2) rfl)
            have hx12:=fun X:Bel wr=>X.cell ((y12.out.below hb1r).at' (i:=0) rfl)
            obtain⟨y,hy⟩: ∃y,ws[4*t+j]'(by omega)=y:=⟨_,rfl⟩
            have hGk:=fun W (hb:Below wr.heap.size wr W)=>hGw.out W (hbwr.trans (hb.mono hbwr.size)) (4*t+j) (by omega) ((hb.cell (p:=⟨b3,0,none⟩) ((y3.out.below hb1r).lt)).trans ((y3.out.below hb1r).at' (i:=0) rfl)) ((hb.cell (p:=⟨b5,0,none⟩) ((y5.out.below hb1r).lt)).trans ((y5.out.below hb1r).at' (i:=0) rfl))
            rw [hy] at hGk
            push_cast at hGk
            have hGkH:=Lib.hid hGk
            have hlr:b13<wr.heap.size:=hbx.out.lt
            have hks:Hid (bnHs t ws (j+1)=bnHs t ws j++ [y]):=Lib.hid (by rw [←hy];exact bnHs_succ (by omega))
            have hkl:(bnHs t ws j).length=j:=bnHs_len _ _ _
            clear hy hb1r hbwr hGk
            gi_wp2
            refine wpIn_region_float (fun w' => ∃X:Bel wr,w' =X.W) 7 2 9 hmo (by kernel_rfl) (by kernel_rfl) (by kernel_rfl) (by kernel_rfl) (by decide) rfl (by kernel_rfl) ⟨⟨_,below_drawn wr⟩,rfl⟩ (fun _ _ _ _ h=>h) ?_
            simp only [List.take_succ_cons,List.take_zero,List.drop_succ_cons,List.drop_zero]
            refine wpPureC_step (.pointer (some ⟨b13,2,none⟩)) rfl (by rintro _ ⟨X,rfl⟩;go_simp) (fun _=>rfl) ?_
            go_simp
            refine wpPureC_step (v3) rfl (by rintro _ ⟨X,rfl⟩;have:=hx1 X;go_simp) (fun _=>rfl) ?_
            go_simp
            refine wpPureC_step (.func (.func 45) #[] #[.pointer (some ⟨b3,0,none⟩), .pointer (some ⟨b5,0,none⟩)]) rfl (by rintro _ ⟨X,rfl⟩;have:=hx12 X;go_simp) (fun _=>rfl) ?_
            go_simp
            refine wpPureC_step (.int .i64 (t:Nat)) rfl (by rintro _ ⟨X,rfl⟩;go_simp) (fun _=>rfl) ?_
            go_simp
            refine wpPureC_step (.int .i64 (4*(t:Int))) rfl (by rintro _ ⟨X,rfl⟩;go_simp) (fun _=>rfl) ?_
            go_simp
            refine wpPureC_step (.int .i64 (j:Nat)) rfl (by rintro _ ⟨X,rfl⟩;go_simp) (fun _=>rfl) ?_
            go_simp
            refine wpPureC_step (.int .i64 (4*(t:Int)+(j:Int))) rfl (by rintro _ ⟨X,rfl⟩;go_simp) (fun _=>rfl) ?_
            go_simp
            refine wpPureC_nil ?_
            refine wpChainC_step (fun K5 hK5=> ?_)
            gi_wp2_with fail
            refine(hGkH.out _ (below_drawn wr)).mono ?_
            rintro e Wd ⟨rfl,hWd⟩
            have hbd:Below wr.heap.size wr Wd:=by rw [←hWd];exact below_drawn wr
            have hbxd:=Lib.hid (hbx.out.below hbd)
            have howd:=Lib.hid (how.out.below hbd)
            have hbld:=Lib.hid (hbl.out.trans (hbd.mono (by omega)))
            have hrowd:=Lib.hid howd.out.r3
            have hsd:wr.heap.size≤Wd.heap.size:=hbd.size
            have hbdH:=Lib.hid hbd
            clear hWd hbd hx1 hx12 hbx how hbl hGkH
            gi_wp2
            refine hK5 _ _ ⟨⟨Wd,hbdH.out⟩,rfl⟩ ?_
            clear hK5 K5
            refine wpChainC_step (fun K6 hK6=> ?_)
            gi_wp2
            refine hK6 _ _ ⟨⟨_,hbdH.out.alloc hsd _⟩,rfl⟩ ?_
            clear hK6 K6
            refine wpChainC_zero ?_
            gi_wp2_with (gi_at_builtin;go_must (refine wpListIn_append_own_at _ rfl _ _ 43 rfl (b13+1) 23 i0 (.int .u64 0) 1 8 Tryz.under_hs hi hz0 hz1 hz2 rfl (by decide) _ _ _ rfl (hrowd.out.alloc _) ⟨Wd.heap.size,0,none⟩ 1 1 [.int .u64 (y:Nat)] rfl rfl (cell_one_new _ _ _) (by simp [Value.oneCell']) (by unfold maxLen;omega) (by omega) (by simp;omega) ?_);intro v' wa hown' hgrow _ hblk;obtain⟨g',cap',rfl⟩:=ownsRow_succ hown';have hAll:=Lib.hid (And.intro hown' (And.intro hgrow hblk));have hblk13:=Lib.hid (grown_block hrowd.out hgrow (by omega) hbxd.out.lt);have q0:=(hbxd.out.block hblk13.out).at' (i:=2) rfl;have q1:=(hbxd.out.block hblk13.out).free 2;clear hown' hgrow hblk)
            obtain⟨hown',hgrow,hblk⟩:=hAll.out
            obtain⟨vn8,hvn⟩: ∃v,v=Value.slice (some ⟨g',0,none⟩) (j+1) cap' :=⟨_,rfl⟩
            rw [hkl,←hvn] at hown' hblk
            have hown2:wa.ownsRow (b13+1) 23 1 vn8 (bnHs t ws j++ [y]).length (hsV (bnHs t ws j++ [y])):=by rw [hsV_snoc,List.length_append,hkl];exact hown'
            have how2:=(howd.out.app3 hown2 hgrow hblk).set (b:=b13) (j:=2) (by omega) vn8
            rw [←hks.out] at how2
            have hbx2:=(hbxd.out.block hblk13.out).set 2 vn8
            have hbl2:=(grown_below hbld.out (by omega) (by omega) hrowd.out hgrow).setCell (p:=⟨b13,2,none⟩) (Nat.le_refl _) vn8
            rw [←hvn]
            clear hvn
            have how:=Lib.hid how2
            have hbx:=Lib.hid hbx2
            have hbl:=Lib.hid hbl2
            clear q0 q1 hown2 how2 hbx2 hbl2 hown' hgrow hblk hbxd howd hbld hrowd hks hblk13 hAll hkl hlr hsd hbdH
            generalize wa.setCell ⟨b13,2,none⟩ vn8=W8 at*
            clear wa
            go_roundw
            case rel=>exact⟨j+1,vn8,by omega,by go_num,hbx,how,hbl⟩
            case measure=>simp [intOf];omega
          · obtain rfl:j=lim:=by omega
            by_cases hz9:kid0=0
            · have dz:((kid0:Int) !=0)=false:=by simp [hz9]
              have hjm:j≤k:=by have h9:=hlimH.out;rw [if_pos hz9] at h9;omega
              have dj:decide ((j:Int)≤(k:Int))=true:=decide_eq_true (by omega)
              have hb1r0:Below W1.heap.size W1 wr:=by rw [←hb13H.out];exact hbl.out
              have hbwr0:=hbW1.out.trans (hb1r0.mono hbW1.out.size)
              have hG4:=hGw.out wr hbwr0 (4*t) (by omega) ((y3.out.below hb1r0).at' (i:=0) rfl) ((y5.out.below hb1r0).at' (i:=0) rfl)
              rw [hk0H.out] at hG4
              push_cast at hG4
              have hG4H:=Lib.hid hG4
              have f0:=hbx.out.at' (i:=0) rfl
              have f12:=(y12.out.below hb1r0).at' (i:=0) rfl
              clear hb1r0 hbwr0 hG4
              gi_wp2_with fail
              refine hG4H.out.mono ?_
              rintro e w5 ⟨rfl,rfl⟩
              clear f0 f12 hG4H
              have hb1r:Below W1.heap.size W1 wr:=by rw [←hb13H.out];exact hbl.out
              have hbwr:=hbW1.out.trans (hb1r.mono hbW1.out.size)
              have n0:ws.getD 0 0=k:=by rw [List.getD_eq_getElem?_getD,List.getElem?_eq_getElem hm0,hmH.out];rfl
              obtain⟨n,hn⟩: ∃n:BN,n=⟨bnKs ws k,bnVs ws k,bnHs t ws j,sz⟩:=⟨_,rfl⟩
              have hofW:Hid (n=BN.ofW t ws):=Lib.hid (hn.trans (bn_ofW (kid0:=kid0) n0 (by rw [List.getD_eq_getElem?_getD,List.getElem?_eq_getElem (show 1<ws.length by omega),hszH.out];rfl) (by rw [List.getD_eq_getElem?_getD,List.getElem?_eq_getElem (show 4*t<ws.length by omega),hk0H.out];rfl) hlimH.out))
              have hV:=how.out.bnv (F:=fun _=>False) (fun _ h=>h.elim) sz (by rw [bnKs_len];omega) (by rw [bnVs_len];omega) (by rw [bnHs_len];omega)
              rw [←hn] at hV
              have hn0:=Lib.hid n0
              have hnH:=Lib.hid hn
              have hFt:=Lib.hid ((callsIn_wide (n:=8)).2 (bnFits_at hV t ⟨t1,t2⟩))
              have f0:=hbx.out.at' (i:=0) rfl
              have f1:=hbx.out.at' (i:=1) rfl
              have f2:=hbx.out.at' (i:=2) rfl
              have f3:=hbx.out.at' (i:=3) rfl
              have hbwrH:=Lib.hid hbwr
              have hb1rH:=Lib.hid hb1r
              clear hn hV hb1r hbwr n0
              gi_wp2_with fail
              refine hFt.out.mono ?_
              rintro e Wf ⟨rfl,hWf⟩
              have hbf:=hbwrH.out.trans (hWf.mono hbwrH.out.size)
              have z3:=Lib.hid ((y3.out.below hb1rH.out).below hWf)
              have z5:=Lib.hid ((y5.out.below hb1rH.out).below hWf)
              have z6:=Lib.hid ((y6.out.below hb1rH.out).below hWf)
              have z7:=Lib.hid ((y7.out.below hb1rH.out).below hWf)
              have z12:=Lib.hid ((y12.out.below hb1rH.out).below hWf)
              have z13:=Lib.hid (hbx.out.below hWf)
              have zo:=Lib.hid (how.out.below hWf)
              have hbfH:=Lib.hid hbf
              clear hFt f0 f1 f2 f3 hWf hbf how hbx hbl hb1rH hbwrH
              by_cases hfit:n.Fits t
              · rw [decide_eq_true hfit]
                have hfitH:=Lib.hid hfit
                clear hfit
                have f0:=z13.out.at' (i:=0) rfl
                have f1:=z13.out.at' (i:=1) rfl
                have f2:=z13.out.at' (i:=2) rfl
                have f3:=z13.out.at' (i:=3) rfl
                have hV:=zo.out.bnv (F:=fun _=>False) (fun _ h=>h.elim) sz (by rw [bnKs_len];omega) (by rw [bnVs_len];omega) (by rw [bnHs_len];omega)
                rw [←hnH.out] at hV
                have hWd:=Lib.hid ((callsIn_wide (n:=8)).2 (bwords_at hV t ⟨t1,t2⟩ hfitH.out))
                clear hV
                gi_wp2_with fail
                refine hWd.out.mono ?_
                rintro e w4 ⟨b,bx,rfl,hb1,hb2,hcx,hcb,hblt,hb4⟩
                have hSt:=Lib.hid (all_stops hcx hcb hblt (by rw [BN.wd_len];omega))
                have hlx:bx<w4.heap.size:=cell_lt hcx
                have u3:=Lib.hid (z3.out.below hb4)
                have u5:=Lib.hid (z5.out.below hb4)
                have u6:=Lib.hid (z6.out.below hb4)
                have u7:=Lib.hid (z7.out.below hb4)
                have u12:=Lib.hid (z12.out.below hb4)
                have u13:=Lib.hid (z13.out.below hb4)
                have uo:=Lib.hid (zo.out.below hb4)
                have hb4H:=Lib.hid (hbfH.out.trans (hb4.mono hbfH.out.size))
                have m6:=u6.out.lt
                have m7:=u7.out.lt
                have hbd6:b6<b13+1:=by have:=hg13;have h1:=y6.out.lt;rw [hb13H.out];omega
                have hbd7:b7<b13+1:=by have h1:=y7.out.lt;rw [hb13H.out];omega
                clear z3 z5 z6 z7 z12 z13 zo hWd f0 f1 f2 f3 hcx hcb hb4 hb1 hb2
                gi_wp2_with fail
                refine wpIn_rangeFunc_ownH (α:={z:Nat // z<(n.wd t).length}) rfl (by omega) (gf:=105) (lb:= #[.pointer (some ⟨bx,0,none⟩)]) rfl trivial (enters_of Tryz.func105 (by kernel_rfl) rfl)
                 hSt.out (fun h k=>h.trans k) (fun W l o o' hl' hl h1 h2=>KeepTwo.put W _ (by omega) (by omega)) (Below.refl _ _) (fun _=>rfl)
                 (fun(pre:List {z:Nat // z<(n.wd t).length}) W=>Below w4.heap.size w4 W∧ ∀z∈pre,ws.getD z.1 0=(n.wd t)[z.1]'z.2)
                 (fun cd pre W=>cd= .ret∧(Box W b6 48 [.slice none 0 0, .slice none 0 0, .slice none 0 0, .int .u64 0]∧Box W b7 26 [.int .i64 ((8:Nat):Int)])∧Below w.heap.size w W∧ ¬BN.IsW t ws)
                 (fun pre A B row hs hg hr=>⟨ownFrom_below (Nat.le_refl _) (Nat.le_refl _) () A B row hs.1 hg hr,hs.2⟩)
                 (fun cd pre A B row hs hg hr=>⟨hs.1,⟨hs.2.1.1.block (hg.block b6 hs.2.1.1.lt (fun e=>by have:=(hr b6 e.symm).1;omega)),hs.2.1.2.block (hg.block b7 hs.2.1.2.lt (fun e=>by have:=(hr b7 e.symm).1;omega))⟩,ownFrom_below (Nat.le_refl _) hb4H.out.size () A B row hs.2.2.1 hg hr,hs.2.2.2⟩)
                 ⟨Below.refl _ _,fun z h=>absurd h (by simp)⟩
                 (fun z a' W=>a' ={ tmps:= #[Value.pointer (some { block:=s,off:=0 }),Value.int IntKind.i64 ((t:Nat):Int),Value.int IntKind.u64 ((x:Nat):Int),Value.pointer (some { block:=b3,off:=0 }),undef,Value.pointer (some { block:=b5,off:=0 }),Value.pointer (some { block:=b6,off:=0 }),Value.pointer (some { block:=b7,off:=0 }),Value.int IntKind.i64 ((la:Nat):Int),Value.int IntKind.i64 ((lb:Nat):Int),Value.int IntKind.i64 (6*((t:Nat):Int)),Value.int IntKind.i64 0,Value.pointer (some { block:=b12,off:=0 }),Value.pointer (some { block:=b13,off:=0 }),u14,Value.int IntKind.i64 ((j:Nat):Int),Value.int IntKind.i64 (z.1:Nat),Value.int IntKind.u64 ((n.wd t)[z.1]'z.2:Nat),Value.tuple #[Value.int IntKind.i64 ((la:Nat):Int),Value.int IntKind.i64 ((lb:Nat):Int)],Value.pointer (some { block:=s,off:=0 }),Value.tuple #[Value.int IntKind.i64 ((la:Nat):Int),Value.int IntKind.i64 ((lb:Nat):Int)],Value.int IntKind.i64 ((la:Nat):Int),Value.int IntKind.i64 ((lb:Nat):Int),Value.int IntKind.i64 ((lb:Nat):Int),Value.bool false,undef,undef,Value.int IntKind.i64 ((t:Nat):Int),Value.bool true,Value.bool false,undef,Value.tuple #[Value.int IntKind.i64 (6*((t:Nat):Int)),Value.int IntKind.i64 0],Value.pointer (some { block:=s,off:=0 }),Value.int IntKind.u64 ((x:Nat):Int),Value.tuple #[Value.int IntKind.i64 (6*((t:Nat):Int)),Value.int IntKind.i64 0],Value.int IntKind.i64 (6*((t:Nat):Int)),Value.int IntKind.i64 0,Value.bool false,Value.int IntKind.i64 0,Value.bool false,undef,undef,Value.bool false,Value.int IntKind.i64 (6*((t:Nat):Int)),Value.int IntKind.i64 ((t:Nat):Int),Value.int IntKind.i64 (6*((t:Nat):Int)),Value.bool false,undef,Value.func (Fn.func 45) #[] #[Value.pointer (some { block:=b3,off:=0 }),Value.pointer (some { block:=b5,off:=0 })],Value.func (Fn.func 45) #[] #[Value.pointer (some { block:=b3,off:=0 }),Value.pointer (some { block:=b5,off:=0 })],Value.int IntKind.u64 ((k:Nat):Int),Value.int IntKind.i64 ((t:Nat):Int),Value.int IntKind.i64 (2*((t:Nat):Int)),Value.int IntKind.i64 (2*((t:Nat):Int)-1),Value.int IntKind.u64 (2*((t:Nat):Int)-1),Value.bool false,undef,Value.func (Fn.func 45) #[] #[Value.pointer (some { block:=b3,off:=0 }),Value.pointer (some { block:=b5,off:=0 })],Value.int IntKind.u64 ((sz:Nat):Int),Value.agg #[Value.slice none 0 0,Value.slice none 0 0,Value.slice none 0 0,Value.int IntKind.u64 ((sz:Nat):Int)],Value.func (Fn.func 45) #[] #[Value.pointer (some { block:=b3,off:=0 }),Value.pointer (some { block:=b5,off:=0 })],Value.int IntKind.u64 ((k:Nat):Int),Value.int IntKind.i64 ((k:Nat):Int),Value.int IntKind.i64 ((k:Nat):Int),Value.bool false,u65,u66,u67,u68,u69,u70,u71,u72,u73,u74,u75,u76,u77,u78,u79,u80,u81,u82,u83,u84,u85,u86,u87,Value.int IntKind.i64 ((j:Nat):Int),Value.pointer (some { block:=b13,off:=0 }),Value.slice A1 k c1,Value.int IntKind.i64 ((k:Nat):Int),Value.bool true,Value.bool true,Value.func (Fn.func 45) #[] #[Value.pointer (some { block:=b3,off:=0 }),Value.pointer (some { block:=b5,off:=0 })],Value.int IntKind.i64 ((t:Nat):Int),Value.int IntKind.i64 (4*((t:Nat):Int)),Value.int IntKind.u64 0,Value.bool false,Value.bool false,u100,u101,u102,u103,u104,u105,u106,u107,u108,u109,u110,u111,u112,Value.int IntKind.i64 ((t:Nat):Int),Value.agg #[Value.slice A1 k c1,v2,v3,Value.int IntKind.u64 ((sz:Nat):Int)],Value.bool true,Value.bool false,undef,Value.int IntKind.i64 ((t:Nat):Int),Value.agg #[Value.slice A1 k c1,v2,v3,Value.int IntKind.u64 ((sz:Nat):Int)],Value.func (Fn.func 105) #[] #[Value.pointer (some { block:=bx,off:=0 })],Value.int IntKind.i64 (z.1:Nat),Value.int IntKind.u64 ((n.wd t)[z.1]'z.2:Nat),undef,undef,undef,undef,undef,undef,undef],defers:= [] })
                 (fun _ _ _ _ _ _ hs _ _=>hs)
                 ?assign ?body ?done ?stop
                case assign=>
                 rintro l pre ⟨z,hz⟩ W K hi hK
                 dsimp only at hK ⊢
                 gi_wp2
                 exact hK _ W (KeepsOthers.refl _ |>.from _) (KeepTwo.refl _ _ _) hi rfl
                case body=>
                 rintro l pre ⟨z,hz⟩ a' W hl' ⟨r,hr⟩ ⟨hb9,hq9⟩ rfl hlen
                 dsimp only
                 have hz' :z<ws.length:=by rw [hl,←BN.wd_len t n];exact hz
                 have hbW:=hb4H.out.trans (hb9.mono hb4H.out.size)
                 have hGz:=CallsIn.inRound l ((callsIn_wide (n:=6)).2 (bnW_at (hH.out.below hbW) hR hz' ((u3.out.below hb9).at' (i:=0) rfl) ((u5.out.below hb9).at' (i:=0) rfl)))
                 have q12:=(u12.out.below hb9).at' (i:=0) rfl
                 obtain⟨y,hy⟩: ∃y,ws[z]=y:=⟨_,rfl⟩
                 rw [hy] at hGz
                 have hGzH:=Lib.hid hGz
                 clear hGz
                 generalize hd:(n.wd t)[z]=d
                 have hyH:=Lib.hid hy
                 have hdH:=Lib.hid hd
                 clear hy hd
                 by_cases hyd:y=d
                 · have dn:((y:Int) !=(d:Int))=false:=by simp [hyd]
                   have hfin:Hid (KeepsFrom w4.heap.size W W∧KeepTwo b bx W W∧Below w4.heap.size w4 W∧ ∀z' ∈pre++ [(⟨z,hz⟩:{z:Nat // z<(n.wd t).length})],ws.getD z'.1 0=(n.wd t)[z'.1]'z'.2):=Lib.hid ⟨KeepsFrom.refl _ _,KeepTwo.refl _ _ _,hb9,fun z' hm=>by
                    rcases List.mem_append.1 hm with h9|h9
                    · exact hq9 z' h9
                    · obtain rfl:=List.mem_singleton.1 h9
                      simp only
                      rw [hdH.out,List.getD_eq_getElem?_getD,List.getElem?_eq_getElem hz',hyH.out]
                      exact hyd⟩
                   clear hq9 hyd
                   gi_wp2_with fail
                   refine hGzH.out.mono ?_
                   rintro e W2 ⟨rfl,rfl⟩
                   gi_wp2
                   exact hfin.out
                 · have dn:((y:Int) !=(d:Int))=true:=by simp;omega
                   have hno: ¬BN.IsW t ws:=fun h=>by
                    have e:n.wd t=ws:=by rw [hofW.out];exact h.2.2.2
                    exact hyd (by rw [←hyH.out,←hdH.out];exact List.getElem_of_eq e.symm hz')
                   have hfin:Hid (KeepsFrom w4.heap.size W (setFive W b6 b7 (.slice none 0 0) (.slice none 0 0) (.slice none 0 0) (.int .u64 0) (.int .i64 ((8:Nat):Int)))∧Code.ret= .ret∧(Box (setFive W b6 b7 (.slice none 0 0) (.slice none 0 0) (.slice none 0 0) (.int .u64 0) (.int .i64 ((8:Nat):Int))) b6 48 [.slice none 0 0, .slice none 0 0, .slice none 0 0, .int .u64 0]∧Box (setFive W b6 b7 (.slice none 0 0) (.slice none 0 0) (.slice none 0 0) (.int .u64 0) (.int .i64 ((8:Nat):Int))) b7 26 [.int .i64 ((8:Nat):Int)])∧Below w.heap.size w (setFive W b6 b7 (.slice none 0 0) (.slice none 0 0) (.slice none 0 0) (.int .u64 0) (.int .i64 ((8:Nat):Int)))∧ ¬BN.IsW t ws):=Lib.hid ⟨setFive_keeps _ _ _ _ _ _ _ _ _,rfl,setFive_box (u6.out.below hb9) (u7.out.below hb9) hne _ _ _ _ _,setFive_below hbW g6 g7 _ _ _ _ _,hno⟩
                   have q60:=(u6.out.below hb9).at' (i:=0) rfl
                   have q61:=(u6.out.below hb9).at' (i:=1) rfl
                   have q62:=(u6.out.below hb9).at' (i:=2) rfl
                   have q63:=(u6.out.below hb9).at' (i:=3) rfl
                   have q7:=(u7.out.below hb9).at' (i:=0) rfl
                   have j60:=(u6.out.below hb9).free 0
                   have j61:=(u6.out.below hb9).free 1
                   have j62:=(u6.out.below hb9).free 2
                   have j63:=(u6.out.below hb9).free 3
                   have j7:=(u7.out.below hb9).free 0
                   unfold setFive at hfin
                   clear hq9 hyd hno
                   gi_wp2_with fail
                   refine hGzH.out.mono ?_
                   rintro e W2 ⟨rfl,rfl⟩
                   gi_wp2
                   exact⟨hfin.out.1,rfl,hfin.out.2.2⟩
                case done=>
                 rintro D' xs W hD hxs ⟨hb9,hq9⟩ hK
                 obtain⟨A2,c2,rfl⟩: ∃A c,v2= .slice A k c:=by have h9:=ownN_form uo.out.r2;rw [bnVs_len] at h9;exact h9
                 obtain⟨A3,c3,rfl⟩: ∃A c,v3= .slice A j c:=by have h9:=ownN_form uo.out.r3;rw [bnHs_len] at h9;exact h9
                 have he:n.wd t=ws:=wd_same hl xs hxs hq9
                 have hIs:BN.IsW t ws:=⟨hl,by rw [hn0.out];omega,by rw [←hofW.out];exact hfitH.out,by rw [←hofW.out];exact he⟩
                 have hG:bnG R t x=n:=by unfold bnG;rw [hR];exact(if_pos hIs).trans hofW.out.symm
                 have hE:bnE R t x=0:=by unfold bnE;rw [hR];exact if_pos hIs
                 have hDl:D' <W.heap.size:=(Array.getElem?_eq_some_iff.1 hK).1
                 have uo2:=uo.out
                 have hfin:=bget_node (w:=w) (w4:=w4) (W:=W) (b6:=b6) (b7:=b7) (D:=D') (o:= .deferred none) hG hE (B:=b13+1) (v1:= .slice A1 k c1) (v2:= .slice A2 k c2) (v3:= .slice A3 j c3) (by rw [hnH.out];exact uo2) (by omega) g6 g7 hbd6 hbd7 hb4H.out hb9 hD hDl
                 rw [show n.size=sz by rw [hnH.out]] at hfin
                 have hq:=setFive_box (u6.out.below hb9) (u7.out.below hb9) hne (.slice A1 k c1) (.slice A2 k c2) (.slice A3 j c3) (.int .u64 (sz:Nat)) (.int .i64 0)
                 have hqb:=And.intro (box_put hq.1 (show b6≠D' by omega) (.deferred none)) (box_put hq.2 (show b7≠D' by omega) (.deferred none))
                 have hK5:=(setFive_heap (W:=W) (b6:=b6) (b7:=b7) (b:=D') (by omega) (by omega) (.slice A1 k c1) (.slice A2 k c2) (.slice A3 j c3) (.int .u64 (sz:Nat)) (.int .i64 0)).trans hK
                 unfold setFive at hfin hqb hK5
                 have p0:=(u13.out.below hb9).at' (i:=0) rfl
                 have p1:=(u13.out.below hb9).at' (i:=1) rfl
                 have p2:=(u13.out.below hb9).at' (i:=2) rfl
                 have p3:=(u13.out.below hb9).at' (i:=3) rfl
                 have q60:=(u6.out.below hb9).at' (i:=0) rfl
                 have q61:=(u6.out.below hb9).at' (i:=1) rfl
                 have q62:=(u6.out.below hb9).at' (i:=2) rfl
                 have q63:=(u6.out.below hb9).at' (i:=3) rfl
                 have q7:=(u7.out.below hb9).at' (i:=0) rfl
                 have j60:=(u6.out.below hb9).free 0
                 have j61:=(u6.out.below hb9).free 1
                 have j62:=(u6.out.below hb9).free 2
                 have j63:=(u6.out.below hb9).free 3
                 have j7:=(u7.out.below hb9).free 0
                 have hfinH:=Lib.hid hfin
                 have hqH:=Lib.hid hqb
                 have hKH:=Lib.hid hK5
                 clear hfin hq hqb hK5 hq9 hxs hIs hG hE he uo2
                 gi_wp2
                 refine⟨by simp, .inl ⟨_,_,rfl,run_takeDeferred hKH.out, ?_⟩⟩
                 refine⟨.tuple #[.agg #[.slice A1 k c1, .slice A2 k c2, .slice A3 j c3, .int .u64 (sz:Nat)], .int .i64 0], ?_,hfinH.out⟩
                 have r0:=hqH.out.1.at' (i:=0) rfl
                 have r1:=hqH.out.1.at' (i:=1) rfl
                 have r2:=hqH.out.1.at' (i:=2) rfl
                 have r3:=hqH.out.1.at' (i:=3) rfl
                 have r4:=hqH.out.2.at' (i:=0) rfl
                 simp [results,Tryz.f18,go_sem,r0,r1,r2,r3,r4]
                case stop=>
                 rintro D' cd pre W hD hSp ⟨rfl,hq,hb,hno⟩ hK
                 have hqH:=Lib.hid (And.intro (box_put hq.1 (show b6≠D' by omega) (.deferred none)) (box_put hq.2 (show b7≠D' by omega) (.deferred none)))
                 have hDl:D' <W.heap.size:=(Array.getElem?_eq_some_iff.1 hK).1
                 have hfinH:=Lib.hid (bget_off (w:=w) (R:=R) (t:=t) (x:=x) (er:=8) (by unfold bnG;rw [hR];exact if_neg hno) (by unfold bnE;rw [hR];exact if_neg hno) (hb.trans (belowK_b (w:=w4) hb4H.out.size W D' _ (.deferred none) (by omega) hK rfl rfl)))
                 clear hq hb hno hSp
                 gi_wp2
                 refine⟨by simp, .inl ⟨_,_,rfl,run_takeDeferred hK, ?_⟩⟩
                 refine⟨.tuple #[.agg #[.slice none 0 0, .slice none 0 0, .slice none 0 0, .int .u64 0], .int .i64 8], ?_,hfinH.out⟩
                 have r0:=hqH.out.1.at' (i:=0) rfl
                 have r1:=hqH.out.1.at' (i:=1) rfl
                 have r2:=hqH.out.1.at' (i:=2) rfl
                 have r3:=hqH.out.1.at' (i:=3) rfl
                 have r4:=hqH.out.2.at' (i:=0) rfl
                 rw [show(((8:Nat):Int))=8 from rfl] at r4
                 simp [results,Tryz.f18,go_sem,r0,r1,r2,r3,r4]
              · rw [decide_eq_false hfit]
                have hno: ¬BN.IsW t ws:=fun h=>hfit (by rw [hofW.out];exact h.2.2.1)
                have e60:=z6.out.at' (i:=0) rfl
                have e61:=z6.out.at' (i:=1) rfl
                have e62:=z6.out.at' (i:=2) rfl
                have e63:=z6.out.at' (i:=3) rfl
                have e7:=z7.out.at' (i:=0) rfl
                have k60:=z6.out.free 0
                have k61:=z6.out.free 1
                have k62:=z6.out.free 2
                have k63:=z6.out.free 3
                have k7:=z7.out.free 0
                have hfin:=bget_zero (w:=w) (W:=Wf) (R:=R) (t:=t) (x:=x) (b6:=b6) (b7:=b7) (er:=8) (by unfold bnG;rw [hR];exact if_neg hno) (by unfold bnE;rw [hR];exact if_neg hno) hbfH.out g6 g7
                have hq:=setFive_box z6.out z7.out hne (.slice none 0 0) (.slice none 0 0) (.slice none 0 0) (.int .u64 0) (.int .i64 ((8:Nat):Int))
                unfold setFive at hfin hq
                have hfinH:=Lib.hid hfin
                have hqH:=Lib.hid hq
                clear hfin hq hno hfit
                gi_wp2
                refine⟨.tuple #[.agg #[.slice none 0 0, .slice none 0 0, .slice none 0 0, .int .u64 0], .int .i64 8], ?_,hfinH.out⟩
                have r0:=hqH.out.1.at' (i:=0) rfl
                have r1:=hqH.out.1.at' (i:=1) rfl
                have r2:=hqH.out.1.at' (i:=2) rfl
                have r3:=hqH.out.1.at' (i:=3) rfl
                have r4:=hqH.out.2.at' (i:=0) rfl
                rw [show(((8:Nat):Int))=8 from rfl] at r0 r1 r2 r3 r4
                simp [results,Tryz.f18,go_sem,r0,r1,r2,r3,r4]
            · have hjm: ¬j≤k:=by have h9:=hlimH.out;rw [if_neg hz9] at h9;omega
              have dj:decide ((j:Int)≤(k:Int))=false:=decide_eq_false (by omega)
              have hb1r:Below W1.heap.size W1 wr:=by rw [←hb13H.out];exact hbl.out
              have hbwr:=hbW1.out.trans (hb1r.mono hbW1.out.size)
              have n0:ws.getD 0 0=k:=by rw [List.getD_eq_getElem?_getD,List.getElem?_eq_getElem hm0,hmH.out];rfl
              obtain⟨n,hn⟩: ∃n:BN,n=⟨bnKs ws k,bnVs ws k,bnHs t ws j,sz⟩:=⟨_,rfl⟩
              have hofW:Hid (n=BN.ofW t ws):=Lib.hid (hn.trans (bn_ofW (kid0:=kid0) n0 (by rw [List.getD_eq_getElem?_getD,List.getElem?_eq_getElem (show 1<ws.length by omega),hszH.out];rfl) (by rw [List.getD_eq_getElem?_getD,List.getElem?_eq_getElem (show 4*t<ws.length by omega),hk0H.out];rfl) hlimH.out))
              have hV:=how.out.bnv (F:=fun _=>False) (fun _ h=>h.elim) sz (by rw [bnKs_len];omega) (by rw [bnVs_len];omega) (by rw [bnHs_len];omega)
              rw [←hn] at hV
              have hn0:=Lib.hid n0
              have hnH:=Lib.hid hn
              have hFt:=Lib.hid ((callsIn_wide (n:=8)).2 (bnFits_at hV t ⟨t1,t2⟩))
              have f0:=hbx.out.at' (i:=0) rfl
              have f1:=hbx.out.at' (i:=1) rfl
              have f2:=hbx.out.at' (i:=2) rfl
              have f3:=hbx.out.at' (i:=3) rfl
              have hbwrH:=Lib.hid hbwr
              have hb1rH:=Lib.hid hb1r
              clear hn hV hb1r hbwr n0
              gi_wp2_with fail
              refine hFt.out.mono ?_
              rintro e Wf ⟨rfl,hWf⟩
              have hbf:=hbwrH.out.trans (hWf.mono hbwrH.out.size)
              have z3:=Lib.hid ((y3.out.below hb1rH.out).below hWf)
              have z5:=Lib.hid ((y5.out.below hb1rH.out).below hWf)
              have z6:=Lib.hid ((y6.out.below hb1rH.out).below hWf)
              have z7:=Lib.hid ((y7.out.below hb1rH.out).below hWf)
              have z12:=Lib.hid ((y12.out.below hb1rH.out).below hWf)
              have z13:=Lib.hid (hbx.out.below hWf)
              have zo:=Lib.hid (how.out.below hWf)
              have hbfH:=Lib.hid hbf
              clear hFt f0 f1 f2 f3 hWf hbf how hbx hbl hb1rH hbwrH
              by_cases hfit:n.Fits t
              · rw [decide_eq_true hfit]
                have hfitH:=Lib.hid hfit
                clear hfit
                have f0:=z13.out.at' (i:=0) rfl
                have f1:=z13.out.at' (i:=1) rfl
                have f2:=z13.out.at' (i:=2) rfl
                have f3:=z13.out.at' (i:=3) rfl
                have hV:=zo.out.bnv (F:=fun _=>False) (fun _ h=>h.elim) sz (by rw [bnKs_len];omega) (by rw [bnVs_len];omega) (by rw [bnHs_len];omega)
                rw [←hnH.out] at hV
                have hWd:=Lib.hid ((callsIn_wide (n:=8)).2 (bwords_at hV t ⟨t1,t2⟩ hfitH.out))
                clear hV
                gi_wp2_with fail
                refine hWd.out.mono ?_
                rintro e w4 ⟨b,bx,rfl,hb1,hb2,hcx,hcb,hblt,hb4⟩
                have hSt:=Lib.hid (all_stops hcx hcb hblt (by rw [BN.wd_len];omega))
                have hlx:bx<w4.heap.size:=cell_lt hcx
                have u3:=Lib.hid (z3.out.below hb4)
                have u5:=Lib.hid (z5.out.below hb4)
                have u6:=Lib.hid (z6.out.below hb4)
                have u7:=Lib.hid (z7.out.below hb4)
                have u12:=Lib.hid (z12.out.below hb4)
                have u13:=Lib.hid (z13.out.below hb4)
                have uo:=Lib.hid (zo.out.below hb4)
                have hb4H:=Lib.hid (hbfH.out.trans (hb4.mono hbfH.out.size))
                have m6:=u6.out.lt
                have m7:=u7.out.lt
                have hbd6:b6<b13+1:=by have:=hg13;have h1:=y6.out.lt;rw [hb13H.out];omega
                have hbd7:b7<b13+1:=by have h1:=y7.out.lt;rw [hb13H.out];omega
                clear z3 z5 z6 z7 z12 z13 zo hWd f0 f1 f2 f3 hcx hcb hb4 hb1 hb2
                gi_wp2_with fail
                refine wpIn_rangeFunc_ownH (α:={z:Nat // z<(n.wd t).length}) rfl (by omega) (gf:=105) (lb:= #[.pointer (some ⟨bx,0,none⟩)]) rfl trivial (enters_of Tryz.func105 (by kernel_rfl) rfl)
                 hSt.out (fun h k=>h.trans k) (fun W l o o' hl' hl h1 h2=>KeepTwo.put W _ (by omega) (by omega)) (Below.refl _ _) (fun _=>rfl)
                 (fun(pre:List {z:Nat // z<(n.wd t).length}) W=>Below w4.heap.size w4 W∧ ∀z∈pre,ws.getD z.1 0=(n.wd t)[z.1]'z.2)
                 (fun cd pre W=>cd= .ret∧(Box W b6 48 [.slice none 0 0, .slice none 0 0, .slice none 0 0, .int .u64 0]∧Box W b7 26 [.int .i64 ((8:Nat):Int)])∧Below w.heap.size w W∧ ¬BN.IsW t ws)
                 (fun pre A B row hs hg hr=>⟨ownFrom_below (Nat.le_refl _) (Nat.le_refl _) () A B row hs.1 hg hr,hs.2⟩)
                 (fun cd pre A B row hs hg hr=>⟨hs.1,⟨hs.2.1.1.block (hg.block b6 hs.2.1.1.lt (fun e=>by have:=(hr b6 e.symm).1;omega)),hs.2.1.2.block (hg.block b7 hs.2.1.2.lt (fun e=>by have:=(hr b7 e.symm).1;omega))⟩,ownFrom_below (Nat.le_refl _) hb4H.out.size () A B row hs.2.2.1 hg hr,hs.2.2.2⟩)
                 ⟨Below.refl _ _,fun z h=>absurd h (by simp)⟩
                 (fun z a' W=>a' ={ tmps:= #[Value.pointer (some { block:=s,off:=0 }),Value.int IntKind.i64 ((t:Nat):Int),Value.int IntKind.u64 ((x:Nat):Int),Value.pointer (some { block:=b3,off:=0 }),undef,Value.pointer (some { block:=b5,off:=0 }),Value.pointer (some { block:=b6,off:=0 }),Value.pointer (some { block:=b7,off:=0 }),Value.int IntKind.i64 ((la:Nat):Int),Value.int IntKind.i64 ((lb:Nat):Int),Value.int IntKind.i64 (6*((t:Nat):Int)),Value.int IntKind.i64 0,Value.pointer (some { block:=b12,off:=0 }),Value.pointer (some { block:=b13,off:=0 }),u14,Value.int IntKind.i64 ((j:Nat):Int),Value.int IntKind.i64 (z.1:Nat),Value.int IntKind.u64 ((n.wd t)[z.1]'z.2:Nat),Value.tuple #[Value.int IntKind.i64 ((la:Nat):Int),Value.int IntKind.i64 ((lb:Nat):Int)],Value.pointer (some { block:=s,off:=0 }),Value.tuple #[Value.int IntKind.i64 ((la:Nat):Int),Value.int IntKind.i64 ((lb:Nat):Int)],Value.int IntKind.i64 ((la:Nat):Int),Value.int IntKind.i64 ((lb:Nat):Int),Value.int IntKind.i64 ((lb:Nat):Int),Value.bool false,undef,undef,Value.int IntKind.i64 ((t:Nat):Int),Value.bool true,Value.bool false,undef,Value.tuple #[Value.int IntKind.i64 (6*((t:Nat):Int)),Value.int IntKind.i64 0],Value.pointer (some { block:=s,off:=0 }),Value.int IntKind.u64 ((x:Nat):Int),Value.tuple #[Value.int IntKind.i64 (6*((t:Nat):Int)),Value.int IntKind.i64 0],Value.int IntKind.i64 (6*((t:Nat):Int)),Value.int IntKind.i64 0,Value.bool false,Value.int IntKind.i64 0,Value.bool false,undef,undef,Value.bool false,Value.int IntKind.i64 (6*((t:Nat):Int)),Value.int IntKind.i64 ((t:Nat):Int),Value.int IntKind.i64 (6*((t:Nat):Int)),Value.bool false,undef,Value.func (Fn.func 45) #[] #[Value.pointer (some { block:=b3,off:=0 }),Value.pointer (some { block:=b5,off:=0 })],Value.func (Fn.func 45) #[] #[Value.pointer (some { block:=b3,off:=0 }),Value.pointer (some { block:=b5,off:=0 })],Value.int IntKind.u64 ((k:Nat):Int),Value.int IntKind.i64 ((t:Nat):Int),Value.int IntKind.i64 (2*((t:Nat):Int)),Value.int IntKind.i64 (2*((t:Nat):Int)-1),Value.int IntKind.u64 (2*((t:Nat):Int)-1),Value.bool false,undef,Value.func (Fn.func 45) #[] #[Value.pointer (some { block:=b3,off:=0 }),Value.pointer (some { block:=b5,off:=0 })],Value.int IntKind.u64 ((sz:Nat):Int),Value.agg #[Value.slice none 0 0,Value.slice none 0 0,Value.slice none 0 0,Value.int IntKind.u64 ((sz:Nat):Int)],Value.func (Fn.func 45) #[] #[Value.pointer (some { block:=b3,off:=0 }),Value.pointer (some { block:=b5,off:=0 })],Value.int IntKind.u64 ((k:Nat):Int),Value.int IntKind.i64 ((k:Nat):Int),Value.int IntKind.i64 ((k:Nat):Int),Value.bool false,u65,u66,u67,u68,u69,u70,u71,u72,u73,u74,u75,u76,u77,u78,u79,u80,u81,u82,u83,u84,u85,u86,u87,Value.int IntKind.i64 ((j:Nat):Int),Value.pointer (some { block:=b13,off:=0 }),Value.slice A1 k c1,Value.int IntKind.i64 ((k:Nat):Int),Value.bool false,Value.bool false,undef,undef,undef,undef,undef,Value.bool false,u100,u101,u102,u103,u104,u105,u106,u107,u108,u109,u110,u111,u112,Value.int IntKind.i64 ((t:Nat):Int),Value.agg #[Value.slice A1 k c1,v2,v3,Value.int IntKind.u64 ((sz:Nat):Int)],Value.bool true,Value.bool false,undef,Value.int IntKind.i64 ((t:Nat):Int),Value.agg #[Value.slice A1 k c1,v2,v3,Value.int IntKind.u64 ((sz:Nat):Int)],Value.func (Fn.func 105) #[] #[Value.pointer (some { block:=bx,off:=0 })],Value.int IntKind.i64 (z.1:Nat),Value.int IntKind.u64 ((n.wd t)[z.1]'z.2:Nat),undef,undef,undef,undef,undef,undef,undef],defers:= [] })
                 (fun _ _ _ _ _ _ hs _ _=>hs)
                 ?assign ?body ?done ?stop
                case assign=>
                 rintro l pre ⟨z,hz⟩ W K hi hK
                 dsimp only at hK ⊢
                 gi_wp2
                 exact hK _ W (KeepsOthers.refl _ |>.from _) (KeepTwo.refl _ _ _) hi rfl
                case body=>
                 rintro l pre ⟨z,hz⟩ a' W hl' ⟨r,hr⟩ ⟨hb9,hq9⟩ rfl hlen
                 dsimp only
                 have hz' :z<ws.length:=by rw [hl,←BN.wd_len t n];exact hz
                 have hbW:=hb4H.out.trans (hb9.mono hb4H.out.size)
                 have hGz:=CallsIn.inRound l ((callsIn_wide (n:=6)).2 (bnW_at (hH.out.below hbW) hR hz' ((u3.out.below hb9).at' (i:=0) rfl) ((u5.out.below hb9).at' (i:=0) rfl)))
                 have q12:=(u12.out.below hb9).at' (i:=0) rfl
                 obtain⟨y,hy⟩: ∃y,ws[z]=y:=⟨_,rfl⟩
                 rw [hy] at hGz
                 have hGzH:=Lib.hid hGz
                 clear hGz
                 generalize hd:(n.wd t)[z]=d
                 have hyH:=Lib.hid hy
                 have hdH:=Lib.hid hd
                 clear hy hd
                 by_cases hyd:y=d
                 · have dn:((y:Int) !=(d:Int))=false:=by simp [hyd]
                   have hfin:Hid (KeepsFrom w4.heap.size W W∧KeepTwo b bx W W∧Below w4.heap.size w4 W∧ ∀z' ∈pre++ [(⟨z,hz⟩:{z:Nat // z<(n.wd t).length})],ws.getD z'.1 0=(n.wd t)[z'.1]'z'.2):=Lib.hid ⟨KeepsFrom.refl _ _,KeepTwo.refl _ _ _,hb9,fun z' hm=>by
                    rcases List.mem_append.1 hm with h9|h9
                    · exact hq9 z' h9
                    · obtain rfl:=List.mem_singleton.1 h9
                      simp only
                      rw [hdH.out,List.getD_eq_getElem?_getD,List.getElem?_eq_getElem hz',hyH.out]
                      exact hyd⟩
                   clear hq9 hyd
                   gi_wp2_with fail
                   refine hGzH.out.mono ?_
                   rintro e W2 ⟨rfl,rfl⟩
                   gi_wp2
                   exact hfin.out
                 · have dn:((y:Int) !=(d:Int))=true:=by simp;omega
                   have hno: ¬BN.IsW t ws:=fun h=>by
                    have e:n.wd t=ws:=by rw [hofW.out];exact h.2.2.2
                    exact hyd (by rw [←hyH.out,←hdH.out];exact List.getElem_of_eq e.symm hz')
                   have hfin:Hid (KeepsFrom w4.heap.size W (setFive W b6 b7 (.slice none 0 0) (.slice none 0 0) (.slice none 0 0) (.int .u64 0) (.int .i64 ((8:Nat):Int)))∧Code.ret= .ret∧(Box (setFive W b6 b7 (.slice none 0 0) (.slice none 0 0) (.slice none 0 0) (.int .u64 0) (.int .i64 ((8:Nat):Int))) b6 48 [.slice none 0 0, .slice none 0 0, .slice none 0 0, .int .u64 0]∧Box (setFive W b6 b7 (.slice none 0 0) (.slice none 0 0) (.slice none 0 0) (.int .u64 0) (.int .i64 ((8:Nat):Int))) b7 26 [.int .i64 ((8:Nat):Int)])∧Below w.heap.size w (setFive W b6 b7 (.slice none 0 0) (.slice none 0 0) (.slice none 0 0) (.int .u64 0) (.int .i64 ((8:Nat):Int)))∧ ¬BN.IsW t ws):=Lib.hid ⟨setFive_keeps _ _ _ _ _ _ _ _ _,rfl,setFive_box (u6.out.below hb9) (u7.out.below hb9) hne _ _ _ _ _,setFive_below hbW g6 g7 _ _ _ _ _,hno⟩
                   have q60:=(u6.out.below hb9).at' (i:=0) rfl
                   have q61:=(u6.out.below hb9).at' (i:=1) rfl
                   have q62:=(u6.out.below hb9).at' (i:=2) rfl
                   have q63:=(u6.out.below hb9).at' (i:=3) rfl
                   have q7:=(u7.out.below hb9).at' (i:=0) rfl
                   have j60:=(u6.out.below hb9).free 0
                   have j61:=(u6.out.below hb9).free 1
                   have j62:=(u6.out.below hb9).free 2
                   have j63:=(u6.out.below hb9).free 3
                   have j7:=(u7.out.below hb9).free 0
                   unfold setFive at hfin
                   clear hq9 hyd hno
                   gi_wp2_with fail
                   refine hGzH.out.mono ?_
                   rintro e W2 ⟨rfl,rfl⟩
                   gi_wp2
                   exact⟨hfin.out.1,rfl,hfin.out.2.2⟩
                case done=>
                 rintro D' xs W hD hxs ⟨hb9,hq9⟩ hK
                 obtain⟨A2,c2,rfl⟩: ∃A c,v2= .slice A k c:=by have h9:=ownN_form uo.out.r2;rw [bnVs_len] at h9;exact h9
                 obtain⟨A3,c3,rfl⟩: ∃A c,v3= .slice A j c:=by have h9:=ownN_form uo.out.r3;rw [bnHs_len] at h9;exact h9
                 have he:n.wd t=ws:=wd_same hl xs hxs hq9
                 have hIs:BN.IsW t ws:=⟨hl,by rw [hn0.out];omega,by rw [←hofW.out];exact hfitH.out,by rw [←hofW.out];exact he⟩
                 have hG:bnG R t x=n:=by unfold bnG;rw [hR];exact(if_pos hIs).trans hofW.out.symm
                 have hE:bnE R t x=0:=by unfold bnE;rw [hR];exact if_pos hIs
                 have hDl:D' <W.heap.size:=(Array.getElem?_eq_some_iff.1 hK).1
                 have uo2:=uo.out
                 have hfin:=bget_node (w:=w) (w4:=w4) (W:=W) (b6:=b6) (b7:=b7) (D:=D') (o:= .deferred none) hG hE (B:=b13+1) (v1:= .slice A1 k c1) (v2:= .slice A2 k c2) (v3:= .slice A3 j c3) (by rw [hnH.out];exact uo2) (by omega) g6 g7 hbd6 hbd7 hb4H.out hb9 hD hDl
                 rw [show n.size=sz by rw [hnH.out]] at hfin
                 have hq:=setFive_box (u6.out.below hb9) (u7.out.below hb9) hne (.slice A1 k c1) (.slice A2 k c2) (.slice A3 j c3) (.int .u64 (sz:Nat)) (.int .i64 0)
                 have hqb:=And.intro (box_put hq.1 (show b6≠D' by omega) (.deferred none)) (box_put hq.2 (show b7≠D' by omega) (.deferred none))
                 have hK5:=(setFive_heap (W:=W) (b6:=b6) (b7:=b7) (b:=D') (by omega) (by omega) (.slice A1 k c1) (.slice A2 k c2) (.slice A3 j c3) (.int .u64 (sz:Nat)) (.int .i64 0)).trans hK
                 unfold setFive at hfin hqb hK5
                 have p0:=(u13.out.below hb9).at' (i:=0) rfl
                 have p1:=(u13.out.below hb9).at' (i:=1) rfl
                 have p2:=(u13.out.below hb9).at' (i:=2) rfl
                 have p3:=(u13.out.below hb9).at' (i:=3) rfl
                 have q60:=(u6.out.below hb9).at' (i:=0) rfl
                 have q61:=(u6.out.below hb9).at' (i:=1) rfl
                 have q62:=(u6.out.below hb9).at' (i:=2) rfl
                 have q63:=(u6.out.below hb9).at' (i:=3) rfl
                 have q7:=(u7.out.below hb9).at' (i:=0) rfl
                 have j60:=(u6.out.below hb9).free 0
                 have j61:=(u6.out.below hb9).free 1
                 have j62:=(u6.out.below hb9).free 2
                 have j63:=(u6.out.below hb9).free 3
                 have j7:=(u7.out.below hb9).free 0
                 have hfinH:=Lib.hid hfin
                 have hqH:=Lib.hid hqb
                 have hKH:=Lib.hid hK5
                 clear hfin hq hqb hK5 hq9 hxs hIs hG hE he uo2
                 gi_wp2
                 refine⟨by simp, .inl ⟨_,_,rfl,run_takeDeferred hKH.out, ?_⟩⟩
                 refine⟨.tuple #[.agg #[.slice A1 k c1, .slice A2 k c2, .slice A3 j c3, .int .u64 (sz:Nat)], .int .i64 0], ?_,hfinH.out⟩
                 have r0:=hqH.out.1.at' (i:=0) rfl
                 have r1:=hqH.out.1.at' (i:=1) rfl
                 have r2:=hqH.out.1.at' (i:=2) rfl
                 have r3:=hqH.out.1.at' (i:=3) rfl
                 have r4:=hqH.out.2.at' (i:=0) rfl
                 simp [results,Tryz.f18,go_sem,r0,r1,r2,r3,r4]
                case stop=>
                 rintro D' cd pre W hD hSp ⟨rfl,hq,hb,hno⟩ hK
                 have hqH:=Lib.hid (And.intro (box_put hq.1 (show b6≠D' by omega) (.deferred none)) (box_put hq.2 (show b7≠D' by omega) (.deferred none)))
                 have hDl:D' <W.heap.size:=(Array.getElem?_eq_some_iff.1 hK).1
                 have hfinH:=Lib.hid (bget_off (w:=w) (R:=R) (t:=t) (x:=x) (er:=8) (by unfold bnG;rw [hR];exact if_neg hno) (by unfold bnE;rw [hR];exact if_neg hno) (hb.trans (belowK_b (w:=w4) hb4H.out.size W D' _ (.deferred none) (by omega) hK rfl rfl)))
                 clear hq hb hno hSp
                 gi_wp2
                 refine⟨by simp, .inl ⟨_,_,rfl,run_takeDeferred hK, ?_⟩⟩
                 refine⟨.tuple #[.agg #[.slice none 0 0, .slice none 0 0, .slice none 0 0, .int .u64 0], .int .i64 8], ?_,hfinH.out⟩
                 have r0:=hqH.out.1.at' (i:=0) rfl
                 have r1:=hqH.out.1.at' (i:=1) rfl
                 have r2:=hqH.out.1.at' (i:=2) rfl
                 have r3:=hqH.out.1.at' (i:=3) rfl
                 have r4:=hqH.out.2.at' (i:=0) rfl
                 rw [show(((8:Nat):Int))=8 from rfl] at r4
                 simp [results,Tryz.f18,go_sem,r0,r1,r2,r3,r4]
              · rw [decide_eq_false hfit]
                have hno: ¬BN.IsW t ws:=fun h=>hfit (by rw [hofW.out];exact h.2.2.1)
                have e60:=z6.out.at' (i:=0) rfl
                have e61:=z6.out.at' (i:=1) rfl
                have e62:=z6.out.at' (i:=2) rfl
                have e63:=z6.out.at' (i:=3) rfl
                have e7:=z7.out.at' (i:=0) rfl
                have k60:=z6.out.free 0
                have k61:=z6.out.free 1
                have k62:=z6.out.free 2
                have k63:=z6.out.free 3
                have k7:=z7.out.free 0
                have hfin:=bget_zero (w:=w) (W:=Wf) (R:=R) (t:=t) (x:=x) (b6:=b6) (b7:=b7) (er:=8) (by unfold bnG;rw [hR];exact if_neg hno) (by unfold bnE;rw [hR];exact if_neg hno) hbfH.out g6 g7
                have hq:=setFive_box z6.out z7.out hne (.slice none 0 0) (.slice none 0 0) (.slice none 0 0) (.int .u64 0) (.int .i64 ((8:Nat):Int))
                unfold setFive at hfin hq
                have hfinH:=Lib.hid hfin
                have hqH:=Lib.hid hq
                clear hfin hq hno hfit
                gi_wp2
                refine⟨.tuple #[.agg #[.slice none 0 0, .slice none 0 0, .slice none 0 0, .int .u64 0], .int .i64 8], ?_,hfinH.out⟩
                have r0:=hqH.out.1.at' (i:=0) rfl
                have r1:=hqH.out.1.at' (i:=1) rfl
                have r2:=hqH.out.1.at' (i:=2) rfl
                have r3:=hqH.out.1.at' (i:=3) rfl
                have r4:=hqH.out.2.at' (i:=0) rfl
                rw [show(((8:Nat):Int))=8 from rfl] at r0 r1 r2 r3 r4
                simp [results,Tryz.f18,go_sem,r0,r1,r2,r3,r4]
  · have dl:(((ws.length:Nat):Int) !=6*(t:Int))=true:=by simp;omega
    have hfin:=bget_zero (w:=w) (W:=W0) (R:=R) (t:=t) (x:=x) (b6:=b6) (b7:=b7) (er:=8) (by unfold bnG;rw [hR];exact if_neg (fun h=>hl h.1)) (by unfold bnE;rw [hR];exact if_neg (fun h=>hl h.1)) hbAH.out g6 g7
    have hq:=setFive_box x6H.out x7H.out hne (.slice none 0 0) (.slice none 0 0) (.slice none 0 0) (.int .u64 0) (.int .i64 ((8:Nat):Int))
    unfold setFive at hfin hq
    have hfinH:=Lib.hid hfin
    have hqH:=Lib.hid hq
    clear hfin hq
    gi_wp2_with fail
    refine(hLx.out _ hbAH.out).mono ?_
    rintro e w3 ⟨rfl,rfl⟩
    gi_wp2
    refine⟨.tuple #[.agg #[.slice none 0 0, .slice none 0 0, .slice none 0 0, .int .u64 0], .int .i64 8], ?_,hfinH.out⟩
    have r0:=hqH.out.1.at' (i:=0) rfl
    have r1:=hqH.out.1.at' (i:=1) rfl
    have r2:=hqH.out.1.at' (i:=2) rfl
    have r3:=hqH.out.1.at' (i:=3) rfl
    have r4:=hqH.out.2.at' (i:=0) rfl
    rw [show(((8:Nat):Int))=8 from rfl] at r0 r1 r2 r3 r4
    simp [results,Tryz.f18,go_sem,r0,r1,r2,r3,r4]
end
end Go.Proofs.YthcmecokejemcaaGreatDoor
namespace Go.Proofs.YthcmecokejemcaaGreatDoor
open Go.RowKit Go.Shelf
def BTGet(w:World)(R:Nat→Option (List Nat))(t x:Nat)(e:Ending)(w' :World):Prop:=
 ∃v1 v2 v3,e= .returned (.tuple #[.agg #[v1,v2,v3, .int .u64 ((bnG R t x).size:Nat)], .bool (decide (bnE R t x=0))])∧Own3 w' w.heap.size v1 (bnG R t x).keys v2 (bnG R t x).vals v3 (bnG R t x).kids∧Below w.heap.size w w'
def setFour(W:World)(b6:Nat)(v1 v2 v3 v4:Value):World:=(((W.setCell ⟨b6,0,none⟩ v1).setCell ⟨b6,1,none⟩ v2).setCell ⟨b6,2,none⟩ v3).setCell ⟨b6,3,none⟩ v4
theorem setFour_box{W:World}{b6:Nat}{T6:TypeId}{u1 u2 u3 u4:Value}(h6:Box W b6 T6 [u1,u2,u3,u4])(v1 v2 v3 v4:Value):Box (setFour W b6 v1 v2 v3 v4) b6 T6 [v1,v2,v3,v4]:=
 ((((h6.set 0 v1).set 1 v2).set 2 v3).set 3 v4)
theorem setFour_below{w W:World}{m b6:Nat}(h:Below m w W)(h6:m≤b6)(v1 v2 v3 v4:Value):Below m w (setFour W b6 v1 v2 v3 v4):=
 (((h.setCell (p:=⟨b6,0,none⟩) h6 v1).setCell (p:=⟨b6,1,none⟩) h6 v2).setCell (p:=⟨b6,2,none⟩) h6 v3).setCell (p:=⟨b6,3,none⟩) h6 v4
theorem Own3.four{W:World}{B b6:Nat}{v1 v2 v3:Value}{l1 l2 l3:List Nat}(h:Own3 W B v1 l1 v2 l2 v3 l3)(h6:b6<B)(u1 u2 u3 u4:Value):Own3 (setFour W b6 u1 u2 u3 u4) B v1 l1 v2 l2 v3 l3:=(((h.set h6 u1).set h6 u2).set h6 u3).set h6 u4
section
variable {w w' :World} {s N:Nat} {R:Nat→Option (List Nat)} {nn:Nat}
set_option maxRecDepth 100000 in
theorem btGet_at(h:Rd N w s R nn)(t:Nat)(ht:BN.Deg t)(x:Nat)(hx:x<18446744073709551616):
 Calls Tryz.prog 28 #[.agg #[.pointer (some ⟨s,0,none⟩), .int .i64 (t:Nat)], .int .u64 (x:Nat)] w (BTGet w R t x):=by
 obtain⟨W2,hW2⟩: ∃W,W=(w.alloc (Obj.cells #[.pointer (some ⟨s,0,none⟩), .int .i64 (t:Nat)] 74)).alloc (Obj.cells #[.slice none 0 0, .slice none 0 0, .slice none 0 0, .int .u64 0] 48):=⟨_,rfl⟩
 have hb2:Below w.heap.size w W2:=by rw [hW2];exact((Below.refl _ w).alloc (Nat.le_refl _) _).alloc (by simp) _
 obtain⟨b4,hb4⟩: ∃b,b=w.heap.size+1:=⟨_,rfl⟩
 have x4:Box W2 b4 48 [.slice none 0 0, .slice none 0 0, .slice none 0 0, .int .u64 0]:=by
  rw [hW2,hb4]
  have:=Box.new (w.alloc (Obj.cells #[.pointer (some ⟨s,0,none⟩), .int .i64 (t:Nat)] 74)) 48 [.slice none 0 0, .slice none 0 0, .slice none 0 0, .int .u64 0]
  rwa [show(w.alloc (Obj.cells #[.pointer (some ⟨s,0,none⟩), .int .i64 (t:Nat)] 74)).heap.size=w.heap.size+1 by simp] at this
 have g4:w.heap.size≤b4:=by omega
 have hG:=Lib.hid (bnGet_at (h.below hb2) t ht x hx)
 have hW2H:=Lib.hid hW2
 have hb2H:=Lib.hid hb2
 have hb4H:=Lib.hid hb4
 have x4H:=Lib.hid x4
 clear h hW2 hb2 x4 hb4
 go_enter Tryz.func28,Tryz.ntmps28
 go_wp2_with fail
 rw [←hW2H.out,←hb4H.out]
 refine hG.out.mono ?_
 rintro e w3 ⟨v1,v2,v3,rfl,hown,hb3⟩
 obtain⟨A1,k1,rfl⟩:=ownN_form hown.r1
 obtain⟨A2,k2,rfl⟩:=ownN_form hown.r2
 obtain⟨A3,k3,rfl⟩:=ownN_form hown.r3
 have hownH:=Lib.hid hown
 have hb3H:=Lib.hid (hb2H.out.trans (hb3.mono hb2H.out.size))
 have x43:=Lib.hid (x4H.out.below hb3)
 have hl4:=Lib.hid x4H.out.lt
 have l4:=x43.out.lt
 clear hown hb3
 have c0:=x43.out.at' (i:=0) rfl
 have c1:=x43.out.at' (i:=1) rfl
 have c2:=x43.out.at' (i:=2) rfl
 have c3:=x43.out.at' (i:=3) rfl
 have f0:=x43.out.free 0
 have f1:=x43.out.free 1
 have f2:=x43.out.free 2
 have f3:=x43.out.free 3
 have hE:Hid (∀v1 v2 v3 W,Own3 W w.heap.size v1 (bnG R t x).keys v2 (bnG R t x).vals v3 (bnG R t x).kids→Below w.heap.size w W→BTGet w R t x (.returned (.tuple #[.agg #[v1,v2,v3, .int .u64 ((bnG R t x).size:Nat)], .bool (decide (bnE R t x=0))])) W):=Lib.hid (fun v1 v2 v3 W h1 h2=>⟨v1,v2,v3,rfl,h1,h2⟩)
 have de:((bnE R t x:Int)==0)=decide (bnE R t x=0):=by rw [Bool.eq_iff_iff];simp
 generalize (bnG R t x).keys.length=n1 at*
 generalize (bnG R t x).vals.length=n2 at*
 generalize (bnG R t x).kids.length=n3 at*
 generalize (bnG R t x).size=n4 at*
 generalize decide (bnE R t x=0)=ok at*
 generalize bnE R t x=er at*
 have hq:=(setFour_box x43.out (.slice A1 n1 k1) (.slice A2 n2 k2) (.slice A3 n3 k3) (.int .u64 (n4:Nat))).alloc (Obj.cells #[.slice A1 n1 k1, .slice A2 n2 k2, .slice A3 n3 k3, .int .u64 (n4:Nat)] 48)
 have hs4:=setFour_below hb3H.out g4 (.slice A1 n1 k1) (.slice A2 n2 k2) (.slice A3 n3 k3) (.int .u64 (n4:Nat))
 have ho4:=(hownH.out.four hl4.out (.slice A1 n1 k1) (.slice A2 n2 k2) (.slice A3 n3 k3) (.int .u64 (n4:Nat))).lower hb2H.out.size
 have hfin:=hE.out _ _ _ _ (ho4.below ((Below.refl _ _).alloc (Nat.le_refl _) (Obj.cells #[.slice A1 n1 k1, .slice A2 n2 k2, .slice A3 n3 k3, .int .u64 (n4:Nat)] 48))) (hs4.alloc hs4.size _)
 unfold setFour at hq hfin
 have hqH:=Lib.hid hq
 have hfinH:=Lib.hid hfin
 clear hq hs4 ho4 hfin
 go_wp2
 have r0:=hqH.out.at' (i:=0) rfl
 have r1:=hqH.out.at' (i:=1) rfl
 have r2:=hqH.out.at' (i:=2) rfl
 have r3:=hqH.out.at' (i:=3) rfl
 refine bodyPost_ret (v:= .tuple #[.agg #[.slice A1 n1 k1, .slice A2 n2 k2, .slice A3 n3 k3, .int .u64 (n4:Nat)], .bool ok]) (by simp [results,Tryz.f28,go_sem,r0,r1,r2,r3]) rfl hfinH.out
end
section
variable {w w' :World} {s N:Nat} {R:Nat→Option (List Nat)} {nn:Nat}
set_option maxRecDepth 100000 in
theorem btKey_at(h:Rd N w s R nn)(hsh:Short R)(t x:Nat)(hx:x<18446744073709551616):
 Calls Tryz.prog 37 #[.agg #[.pointer (some ⟨s,0,none⟩), .int .i64 (t:Nat)], .int .u64 (x:Nat)] w fun e w' =>e= .returned (.string (keyB R x))∧Below w.heap.size w w' :=by
 have hb1:Below w.heap.size w (w.alloc (Obj.cells #[.pointer (some ⟨s,0,none⟩), .int .i64 (t:Nat)] 74)):=(Below.refl _ w).alloc (Nat.le_refl _) _
 have hB:=bget_at (h.below hb1) hsh x hx
 unfold blobV at hB
 rw [show(blobR R x).getD ⟨#[]⟩=keyB R x from rfl] at hB
 have hBH:=Lib.hid hB
 have hb1H:=Lib.hid hb1
 clear h hB hb1
 generalize keyB R x=kk at*
 generalize blobE R x=er at*
 go_enter Tryz.func37,Tryz.ntmps37
 go_wp2_with fail
 refine hBH.out.mono ?_
 rintro e w2 ⟨rfl,hb2⟩
 have hb3:=Lib.hid (hb1H.out.trans (hb2.mono hb1H.out.size))
 clear hb2
 go_wp2
 go_ret
 exact⟨rfl,hb3.out⟩
set_option maxRecDepth 100000 in
theorem btSize_at(h:Rd N w s R nn)(t:Nat)(ht:BN.Deg t)(x:Nat)(hx:x<18446744073709551616):
 Calls Tryz.prog 27 #[.agg #[.pointer (some ⟨s,0,none⟩), .int .i64 (t:Nat)], .int .u64 (x:Nat)] w fun e w' =>e= .returned (.int .i64 (bszR R t x))∧Below w.heap.size w w' :=by
 have hb1:Below w.heap.size w (w.alloc (Obj.cells #[.pointer (some ⟨s,0,none⟩), .int .i64 (t:Nat)] 74)):=(Below.refl _ w).alloc (Nat.le_refl _) _
 have hB:=btGet_at (h.below hb1) t ht x hx
 unfold BTGet at hB
 unfold bszR
 generalize (bnG R t x).size=n4 at*
 have hBH:=Lib.hid hB
 have hb1H:=Lib.hid hb1
 clear h hB hb1
 go_enter Tryz.func27,Tryz.ntmps27
 go_wp2_with fail
 refine hBH.out.mono ?_
 rintro e w2 ⟨v1,v2,v3,rfl,hown,hb2⟩
 obtain⟨A1,k1,rfl⟩:=ownN_form hown.r1
 obtain⟨A2,k2,rfl⟩:=ownN_form hown.r2
 obtain⟨A3,k3,rfl⟩:=ownN_form hown.r3
 have hb3:=Lib.hid (hb1H.out.trans (hb2.mono hb1H.out.size))
 clear hb2 hown
 generalize (bnG R t x).keys.length=n1 at*
 generalize (bnG R t x).vals.length=n2 at*
 generalize (bnG R t x).kids.length=n3 at*
 generalize decide (bnE R t x=0)=ok at*
 have hfin:=Lib.hid (hb3.out.alloc hb3.out.size (Obj.cells #[Value.slice A1 n1 k1,Value.slice A2 n2 k2,Value.slice A3 n3 k3,Value.int IntKind.u64 ↑n4] 48))
 go_wp2
 go_ret
 exact⟨rfl,hfin.out⟩
end
section
variable {w w' :World} {s N:Nat} {R:Nat→Option (List Nat)} {nn:Nat}
set_option maxRecDepth 100000 in
theorem btPl1_at(h:Rd N w s R nn)(hsh:Short R){bt t:Nat}(c0:w.cell? ⟨bt,0,none⟩=some (.pointer (some ⟨s,0,none⟩)))(c1:w.cell? ⟨bt,1,none⟩=some (.int .i64 (t:Nat)))(x:Nat)(hx:x<18446744073709551616)(key:ByteArray):
 Calls Tryz.prog 86 #[.int .u64 (x:Nat), .string key, .pointer (some ⟨bt,0,none⟩)] w fun e w' =>e= .returned (.int .i64 (Tx.cmp (keyB R x) key))∧Below w.heap.size w w' :=by
 have hK:=Lib.hid (btKey_at h hsh t x hx)
 have hC:=Lib.hid (fun W=>Tx.cmp_call (keyB R x) key W)
 clear h
 generalize Tx.cmp (keyB R x) key=cc at*
 generalize keyB R x=kk at*
 go_enter Tryz.func86,Tryz.ntmps86
 go_wp2_with fail
 refine hK.out.mono ?_
 rintro e w2 ⟨rfl,hb2⟩
 have hb2H:=Lib.hid hb2
 clear hb2
 go_wp2_with fail
 refine(hC.out _).mono ?_
 rintro e w3 ⟨rfl,rfl⟩
 go_wp2
 go_ret
 exact⟨rfl,hb2H.out⟩
theorem bsF_self(f:Nat→Int)(m lo:Nat):bsF f m lo lo=lo:=by
 cases m<;>simp [bsF]
set_option maxRecDepth 100000 in
theorem bsearch_at(h:Rd N w s R nn)(hsh:Short R){bt t:Nat}(c0:w.cell? ⟨bt,0,none⟩=some (.pointer (some ⟨s,0,none⟩)))(c1:w.cell? ⟨bt,1,none⟩=some (.int .i64 (t:Nat))){F:Nat→Prop}{A:Option Addr}{c:Nat}{l:List Nat}(hc:CellsF w F A (hsV l))(hl:l.length≤4398046511104)(hx: ∀i (hi:i<l.length),l[i]<18446744073709551616)(key:ByteArray):
 Calls Tryz.prog 85 #[.slice A l.length c, .string key, .func (.func 86) #[] #[.pointer (some ⟨bt,0,none⟩)]] w fun e w' =>e= .returned (.tuple #[.int .i64 (plK R l key:Nat), .bool (plH R l key)])∧Below w.heap.size w w' :=by
 have hP:=Lib.hid (fun W (hb:Below w.heap.size w W) i (hi:i<l.length)=>btPl1_at (h.below hb) hsh (t:=t) ((hb.cell (p:=⟨bt,0,none⟩) (cell_lt c0)).trans c0) ((hb.cell (p:=⟨bt,1,none⟩) (cell_lt c1)).trans c1) l[i] (hx i hi) key)
 have hN:=Lib.hid (fun k (hk:k<l.length)=>hc.num hk)
 have hf:Hid (∀i (hi:i<l.length),Tx.cmp (keyB R l[i]) key=cmpK R l key i):=Lib.hid (fun i hi=>by unfold cmpK;simp [hi])
 have hpl:Hid (plK R l key=bsF (cmpK R l key) l.length 0 l.length):=Lib.hid rfl
 have hph:Hid (plH R l key=(decide (plK R l key<l.length)&&decide (cmpK R l key (plK R l key)=0))):=Lib.hid rfl
 clear h hc c0 c1
 generalize cmpK R l key=f at*
 go_enter Tryz.func85,Tryz.ntmps85
 go_wp2
 go_loopw [9,10] (fun iv jv wr=> ∃m lo hi:Nat,lo≤hi∧hi≤l.length∧iv= .int .i64 lo∧jv= .int .i64 hi∧hi-lo≤m∧Hid (bsF f l.length 0 l.length=bsF f m lo hi)∧Hid (Below w.heap.size w wr)) (fun iv jv _=>(intOf jv).toNat-(intOf iv).toNat)
 case atStart=>exact⟨l.length,0,l.length,by omega,by omega,rfl,rfl,by omega,Lib.hid rfl,Lib.hid (Below.refl _ _)⟩
 case round=>
  obtain⟨m,lo,hi,h1,h2,rfl,rfl,hm,hbs,hb⟩:=hrel
  by_cases hlt:lo<hi
  · have w1:IntKind.i64.wrap ((lo:Int)+(hi:Int))=(lo:Int)+(hi:Int):=by rw [IntKind.wrap_i64];omega
    obtain⟨q,hq0⟩: ∃q,q=(lo+hi)/2:=⟨_,rfl⟩
    have hq:((lo:Int)+(hi:Int))/2=(q:Int):=by omega
    have hql:q<l.length:=by omega
    have hq1:lo≤q:=by omega
    have hq2:q<hi:=by omega
    obtain⟨b,o,rfl,hbl,hcell⟩:=hN.out q hql
    have hcq:=hcell wr hb.out
    have hPq:=hP.out wr hb.out q hql
    rw [hf.out q hql] at hPq
    obtain⟨y,hy⟩: ∃y,l[q]=y:=⟨_,rfl⟩
    rw [hy] at hPq hcq
    obtain⟨m',rfl⟩: ∃m',m=m' +1:=⟨m-1,by omega⟩
    have hbs2:bsF f l.length 0 l.length=if f q<0 then bsF f m' (q+1) hi else bsF f m' lo q:=by
     have h9:=hbs.out
     conv at h9=>rhs;unfold bsF
     rw [if_pos hlt,←hq0] at h9
     exact h9
    have hbs3:=Lib.hid hbs2
    have hPH:=Lib.hid hPq
    have hq0H:=Lib.hid hq0
    have hyH:=Lib.hid hy
    clear hcell hPq hbs2 hq0 hbs hy
    have w2:IntKind.i64.wrap ((q:Int)+1)=(q:Int)+1:=by rw [IntKind.wrap_i64];omega
    go_wp2_with fail
    refine hPH.out.mono ?_
    rintro e W2 ⟨rfl,hb2⟩
    have hb2H:=Lib.hid (hb.out.trans (hb2.mono hb.out.size))
    clear hb2 hPH hb hcq
    by_cases hneg:f q<0
    · have dn:decide (f q<0)=true:=decide_eq_true hneg
      have hbs4:Hid (bsF f l.length 0 l.length=bsF f m' (q+1) hi):=Lib.hid (by rw [hbs3.out,if_pos hneg])
      go_wp2
      go_roundw
      case rel=>exact⟨m',q+1,hi,by omega,h2,by go_num,rfl,by omega,hbs4,hb2H⟩
      case measure=>simp [intOf];omega
    · have dn:decide (f q<0)=false:=decide_eq_false hneg
      have hbs4:Hid (bsF f l.length 0 l.length=bsF f m' lo q):=Lib.hid (by rw [hbs3.out,if_neg hneg])
      go_wp2
      go_roundw
      case rel=>exact⟨m',lo,q,by omega,by omega,rfl,by go_num,by omega,hbs4,hb2H⟩
      case measure=>simp [intOf];omega
  · obtain rfl:lo=hi:=by omega
    have hres:Hid (plK R l key=lo):=Lib.hid (by rw [hpl.out,hbs.out,bsF_self])
    clear hbs
    by_cases hln:lo<l.length
    · obtain⟨b,o,rfl,hbl,hcell⟩:=hN.out lo hln
      have hcq:=hcell wr hb.out
      have hPq:=hP.out wr hb.out lo hln
      rw [hf.out lo hln] at hPq
      obtain⟨y,hy⟩: ∃y,l[lo]=y:=⟨_,rfl⟩
      rw [hy] at hPq hcq
      have hPH:=Lib.hid hPq
      have hyH:=Lib.hid hy
      clear hcell hPq hy
      have hfin:Hid (plH R l key=(f lo==0)):=Lib.hid (by rw [hph.out,hres.out,decide_eq_true hln,Bool.true_and];rfl)
      go_wp2_with fail
      refine hPH.out.mono ?_
      rintro e W2 ⟨rfl,hb2⟩
      have hb2H:=Lib.hid (hb.out.trans (hb2.mono hb.out.size))
      clear hb2 hPH hb hcq
      go_wp2
      go_ret2
      exact⟨by rw [hres.out,hfin.out];rfl,hb2H.out⟩
    · have hfin:Hid (plH R l key=false):=Lib.hid (by rw [hph.out,hres.out,decide_eq_false hln,Bool.false_and])
      go_wp2
      go_ret2
      exact⟨by rw [hres.out,hfin.out];rfl,hb.out⟩
end
section
variable {w w' :World} {s N:Nat} {R:Nat→Option (List Nat)} {nn:Nat}
set_option maxRecDepth 100000 in
theorem btPlace_at(h:Rd N w s R nn)(hsh:Short R){F:Nat→Prop}{v:Value}{n:BN}(hv:BNV w F v n)(t:Nat)(hx: ∀i (hi:i<n.keys.length),n.keys[i]<18446744073709551616)(key:ByteArray):
 Calls Tryz.prog 54 #[.agg #[.pointer (some ⟨s,0,none⟩), .int .i64 (t:Nat)],v, .string key] w fun e w' =>e= .returned (.tuple #[.int .i64 (plK R n.keys key:Nat), .bool (plH R n.keys key)])∧Below w.heap.size w w' :=by
 obtain⟨⟨Ak,ck,Av,cv,Ai,ci,rfl,k1,k2,k3⟩,l1,l2,l3⟩:=hv
 obtain⟨W1,hW1⟩: ∃W,W=w.alloc (Obj.cells #[.pointer (some ⟨s,0,none⟩), .int .i64 (t:Nat)] 74):=⟨_,rfl⟩
 have hb1:Below w.heap.size w W1:=by rw [hW1];exact(Below.refl _ w).alloc (Nat.le_refl _) _
 have x3:Box W1 w.heap.size 74 [.pointer (some ⟨s,0,none⟩), .int .i64 (t:Nat)]:=by rw [hW1];exact Box.new w 74 [.pointer (some ⟨s,0,none⟩), .int .i64 (t:Nat)]
 obtain⟨W2,hW2⟩: ∃W,W=W1.alloc (Obj.cells #[.slice Ak n.keys.length ck, .slice Av n.vals.length cv, .slice Ai n.kids.length ci, .int .u64 (n.size:Nat)] 48):=⟨_,rfl⟩
 have hb12:Below W1.heap.size W1 W2:=by rw [hW2];exact(Below.refl _ _).alloc (Nat.le_refl _) _
 have hb2:=hb1.trans (hb12.mono hb1.size)
 have x32:=x3.below hb12
 have hS:=Lib.hid (bsearch_at (h.below hb2) hsh (t:=t) (x32.at' (i:=0) rfl) (x32.at' (i:=1) rfl) (c:=ck) (k1.turn (Turn.below (F:=F) hb2)) l1 hx key)
 have hb2H:=Lib.hid hb2
 have hW2H:=Lib.hid (And.intro hW1 hW2)
 clear h hb1 x3 hb12 hb2 x32 hW1 hW2 k1 k2 k3 hx
 generalize plK R n.keys key=pk at*
 generalize plH R n.keys key=ph at*
 go_enter Tryz.func54,Tryz.ntmps54
 go_wp2_with fail
 rw [←hW2H.out.1,←hW2H.out.2]
 refine hS.out.mono ?_
 rintro e w3 ⟨rfl,hb3⟩
 have hb3H:=Lib.hid (hb2H.out.trans (hb3.mono hb2H.out.size))
 clear hb3
 go_wp2
 go_ret2
 exact⟨rfl,hb3H.out⟩
end
def W64(l:List Nat):Prop:= ∀i (hi:i<l.length),l[i]<18446744073709551616
section
variable {w w' :World} {s N:Nat} {R:Nat→Option (List Nat)} {nn:Nat}
theorem bnG_words(h:Rd N w s R nn){t:Nat}(ht:BN.Deg t){x:Nat}(he:bnE R t x=0):
 (bnG R t x).Fits t∧W64 (bnG R t x).keys∧W64 (bnG R t x).vals∧W64 (bnG R t x).kids∧(bnG R t x).size<18446744073709551616:=by
 obtain⟨hR,hf⟩:=(bnE_zero ht).1 he
 generalize bnG R t x=n at*
 obtain⟨-,-,hu⟩:=h.u64 hR
 have t1:=ht.1
 obtain⟨f1,f2,f3⟩:=hf
 have key: ∀i,i<6*t→n.wdAt t i<18446744073709551616:=fun i hi=>by
  have h1:i<(n.wd t).length:=by rw [BN.wd_len];exact hi
  have h2:=hu i h1
  rwa [BN.wd_get] at h2
 refine⟨⟨f1,f2,f3⟩,fun i hi=> ?_,fun i hi=> ?_,fun i hi=> ?_, ?_⟩
 · have h2:=key (2+2*i) (by omega)
   rw [BN.at_key (by omega)] at h2
   simpa [hi] using h2
 · have h2:=key (2+2*i+1) (by omega)
   rw [BN.at_val (by omega)] at h2
   simpa [hi] using h2
 · have hk:i<2*t:=by rcases f3 with h9|h9
                     · rw [h9] at hi;simp at hi
                     · omega
   have h2:=key (4*t+i) (by omega)
   rw [BN.at_kid t1] at h2
   simpa [hi] using h2
 · have h2:=key 1 (by omega)
   rwa [BN.at_one] at h2
set_option maxRecDepth 100000 in
theorem btAsked_at(h:Rd N w s R nn){t:Nat}(ht:BN.Deg t):
 Calls Tryz.prog 26 #[.pointer (some ⟨s,0,none⟩), .int .i64 (t:Nat)] w fun e w' =>e= .returned (.int .i64 0)∧w=w' :=by
 have hL:=rlen_at h 0 (by decide)
 obtain⟨la,lb,hlr,hl1⟩:=lenR_form R 0
 rw [hlr] at hL
 have d1:((lb:Int)==1)=false:=by simp;omega
 have hLH:=Lib.hid hL
 have t1:=ht.1
 have d2:(((6*t:Nat):Int)==0)=false:=by simp;omega
 have hW:=Lib.hid (bnWords_yes ht w)
 clear h hL hlr hl1
 generalize 6*t=tw at*
 go_enter Tryz.func26,Tryz.ntmps26
 go_wp2_with fail
 refine hLH.out.mono ?_
 rintro e w2 ⟨rfl,rfl⟩
 go_wp2_with fail
 refine hW.out.mono ?_
 rintro e w2 ⟨rfl,rfl⟩
 go_wp2
 go_ret
 exact⟨rfl,rfl⟩
end
end Go.Proofs.YthcmecokejemcaaGreatDoor
