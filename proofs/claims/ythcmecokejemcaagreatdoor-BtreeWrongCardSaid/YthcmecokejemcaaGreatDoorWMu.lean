/-
  The seat's own texts, part u: Steps, BtW6, BiP2, BlP, BtW7, Live.
-/
import Derived.Test.YthcmecokejemcaaGreatDoorWMt
import Derived.Below
import Derived.Maps.OwnIn
import Derived.Deep.DeepMust
set_option linter.unusedSimpArgs false
set_option linter.unusedVariables false
set_option maxHeartbeats 8000000
namespace Go.Proofs.YthcmecokejemcaaGreatDoor
open Go Go.RowKit
inductive St where
 |r (i:Nat)
 |a (k:Nat)
def St.n:St→Nat
 | .r i=>i
 | .a k=>k
section
variable {P:Program} {ops:Array Oper} {md:Region.Mode} {Q:Exit→Act→World→Prop} {C:World→Prop}
def stepsB(md:Region.Mode)(ops:Array Oper):List St→Array Bool→Bool
 | [],listed=>(Region.ready md ops listed).isEmpty
 | .r i::s,listed=>(Region.ready md ops listed).contains i&&Region.free md ops listed i&&stepsB md ops s (listed.setIfInBounds i true)
 | .a k::s,listed=>decide (Region.ready md ops listed= [k])&&stepsB md ops s (listed.setIfInBounds k true)
def wpSteps(P:Program)(ops:Array Oper)(Q:Exit→Act→World→Prop):List St→(World→Prop)→Act→World→Prop
 | [],_,a,w=>Q .normal a w
 | .r i::s,C,a,w=> ∃o v,ops[i]? =some o∧YieldsW P ops C o v a∧wpSteps P ops Q s C (a.put o.dst v) w
 | .a k::s,C,a,w=> ∃o,ops[k]? =some o∧wpList P ops (Qr (fun a' w' => ∃C' :World→Prop,C' w' ∧(∀x,C' x→C x)∧wpSteps P ops Q s C' a' w') Q) [o] a w
theorem wpSteps_nil{a:Act}{w:World}(h:Q .normal a w):wpSteps P ops Q [] C a w:=h
theorem wpSteps_r{i:Nat}{s:List St}{a:Act}{w:World}(o:Oper)(v:Value)(hi:ops[i]? =some o)(h1:Region.wanted o (yielded ops a.tmps)=true)(h2: ∀w,C w→(execOp a.eval o).run P w= .ok (.value v) w)(h:wpSteps P ops Q s C (a.put o.dst v) w):wpSteps P ops Q (.r i::s) C a w:=
 ⟨o,v,hi, .inl ⟨h1,h2⟩,h⟩
theorem wpSteps_s{i:Nat}{s:List St}{a:Act}{w:World}(o:Oper)(hi:ops[i]? =some o)(h1:Region.wanted o (yielded ops a.tmps)=false)(h:wpSteps P ops Q s C (a.put o.dst undef) w):wpSteps P ops Q (.r i::s) C a w:=
 ⟨o,undef,hi, .inr ⟨h1,rfl⟩,h⟩
theorem wpSteps_a{k:Nat}{s:List St}{a:Act}{w:World}(o:Oper)(hk:ops[k]? =some o)(h: ∀K:Act→World→Prop,(∀a' w',C w' →wpSteps P ops Q s C a' w' →K a' w')→wpList P ops (Qr K Q) [o] a w):wpSteps P ops Q (.a k::s) C a w:=
 ⟨o,hk,h _ (fun _ _ h1 h2=>⟨C,h1,fun _ h=>h,h2⟩)⟩
theorem wpAnyW.mono{C' :World→Prop}(hc: ∀x,C' x→C x): ∀(f:Nat) (listed:Array Bool) (a:Act) (w:World),wpAnyW P md ops Q C' f listed a w→wpAnyW P md ops Q C f listed a w
 |0,_,_,_,h=>h
 |f+1,_,_,_,h=>⟨h.1,fun i hi=>wpOp_mono (fun a' w' h' =>⟨hc _ h'.1,wpAnyW.mono hc f _ a' w' h'.2⟩) (h.2 i hi)⟩
theorem wpAnyW_of_steps(hsel:Region.noSelect ops=true)(hQ: ∀c a d v w,Q (.panic c) (Act.put a d v) w→Q (.panic c) a w):
 ∀(s:List St) (C:World→Prop) (listed:Array Bool) (a:Act) (w:World),C w→stepsB md ops s listed=true→wpSteps P ops Q s C a w→wpAnyW P md ops Q C s.length listed a w
 | [],C,listed,a,w,hC,hB,h=>⟨by simpa [stepsB] using hB,h⟩
 | .r i::s,C,listed,a,w,hC,hB,h=>by
   obtain⟨o,v,h0,hy,hK⟩:=h
   simp only [stepsB,Bool.and_eq_true] at hB
   obtain⟨⟨hr,hf⟩,hB'⟩:=hB
   exact wpAnyW_first h0 (Region.noSelect_spec hsel) (fun c a w h=>hQ c a _ _ w h) s.length listed a w (Region.free_spec h0 hf) (by simpa using hr) hy hC
    (wpAnyW_of_steps hsel hQ s C _ _ w hC hB' hK)
 | .a k::s,C,listed,a,w,hC,hB,h=>by
   obtain⟨o,h0,h⟩:=h
   simp only [stepsB,Bool.and_eq_true,decide_eq_true_eq] at hB
   refine⟨fun h1=>(by rw [hB.1] at h1;cases h1),fun i hi=> ?_⟩
   rw [hB.1] at hi
   obtain rfl:i=k:=by simpa using hi
   exact wpOp_mono (fun a' w' ⟨C',h1,h2,h3⟩=>⟨h2 _ h1,wpAnyW.mono h2 _ _ _ _ (wpAnyW_of_steps hsel hQ s C' _ a' w' h1 hB.2 h3)⟩) (wpOp_list h0 h)
theorem wp_region_steps{id:Nat}{a:Act}{w:World}{l:List Oper}(C:World→Prop)(s:List St)(hm:P.follows .mixedOrders=true)(hsel:Region.noSelect l.toArray=true)(hlen:s.length=l.length)
 (hB:stepsB .any l.toArray s (Array.replicate l.toArray.size false)=true) (hC:C { w with drawn:=w.drawn+1 }) (hQ: ∀c a d v w,Q (.panic c) (Act.put a d v) w→Q (.panic c) a w)
 (h:wpSteps P l.toArray Q s C a { w with drawn:=w.drawn+1 }):(Code.region id l.toArray true).wp P Q a w:=by
 refine wp_region_any hm (wpAnyW.any (C:=C) _ _ _ _ ?_)
 have:=wpAnyW_of_steps (md:= .any) hsel hQ s C (Array.replicate l.toArray.size false) a _ hC hB h
 rw [hlen] at this
 simpa using this
end
structure Exw(B:Nat→Prop)(w:World) where
 W:World
 size:w.heap.size≤W.heap.size
 same: ∀k,k<w.heap.size→ ¬B k→W.heap[k]? =w.heap[k]?
theorem Exw.cell{B:Nat→Prop}{w:World}{p:Addr}{v:Value}(hc:w.cell? p=some v)(hB: ¬B p.block)(X:Exw B w):X.W.cell? p=some v:=by
 have hlt:p.block<w.heap.size:=by
  unfold World.cell? at hc
  by_cases hb:p.block<w.heap.size
  · exact hb
  · rw [Array.getElem?_eq_none (by omega)] at hc;simp at hc
 have:=X.same p.block hlt hB
 unfold World.cell? at hc ⊢
 rw [this]
 exact hc
theorem exw_start(B:Nat→Prop)(w:World): ∃X:Exw B w,{ w with drawn:=w.drawn+1 }=X.W:=⟨⟨{ w with drawn:=w.drawn+1 },Nat.le_refl _,fun _ _ _=>rfl⟩,rfl⟩
theorem exw_below{B:Nat→Prop}{w W:World}(h:Below w.heap.size w W): ∃X:Exw B w,W=X.W:=⟨⟨W,h.size,fun k hk _=>h.block k hk⟩,rfl⟩
theorem exw_then{B:Nat→Prop}{w W W' :World}(h: ∃X:Exw B w,W=X.W)(hb:Below W.heap.size W W'): ∃X:Exw B w,W' =X.W:=by
 obtain⟨X,rfl⟩:=h
 exact⟨⟨W',Nat.le_trans X.size hb.size,fun k hk hn=>(hb.block k (Nat.lt_of_lt_of_le hk X.size)).trans (X.same k hk hn)⟩,rfl⟩
theorem exw_set{B:Nat→Prop}{w W:World}(h: ∃X:Exw B w,W=X.W){p:Addr}(hp:B p.block)(v:Value): ∃X:Exw B w,W.setCell p v=X.W:=by
 obtain⟨X,rfl⟩:=h
 refine⟨⟨X.W.setCell p v,by simpa [World.setCell] using X.size,fun k hk hn=> ?_⟩,rfl⟩
 rw [←X.same k hk hn]
 exact Below.heap_setCell _ _ _ _ fun e=>hn (by rw [e];exact hp)
section
variable {F:Fence} {n:Nat} {P:Program} {ops:Array Oper} {md:Region.Mode} {Q:Exit→Act→World→Prop} {C:World→Prop}
def wpAnyK(F:Fence)(n:Nat)(P:Program)(md:Region.Mode)(ops:Array Oper)(Q:Exit→Act→World→Prop)(C:World→Prop):Nat→Array Bool→Act→World→Prop
 |0,listed,a,w=>Region.ready md ops listed= []∧Q .normal a w
 |f+1,listed,a,w=>
  (Region.ready md ops listed= []→Q .normal a w)∧
  ∀i∈Region.ready md ops listed,wpOpIn F n P ops Q i (fun a' w' =>C w' ∧wpAnyK F n P md ops Q C f (listed.setIfInBounds i true) a' w') a w
theorem wpAnyK.any: ∀(f:Nat) (listed:Array Bool) (a:Act) (w:World),wpAnyK F n P md ops Q C f listed a w→wpAnyIn F n P md ops Q f listed a w
 |0,_,_,_,h=>h
 |f+1,listed,a,w,h=>⟨h.1,fun i hi=>wpOpIn_mono (fun a' w' h' =>wpAnyK.any f _ a' w' h'.2) (h.2 i hi)⟩
theorem wpAnyK.mono{C' :World→Prop}(hc: ∀x,C' x→C x): ∀(f:Nat) (listed:Array Bool) (a:Act) (w:World),wpAnyK F n P md ops Q C' f listed a w→wpAnyK F n P md ops Q C f listed a w
 |0,_,_,_,h=>h
 |f+1,_,_,_,h=>⟨h.1,fun i hi=>wpOpIn_mono (fun a' w' h' =>⟨hc _ h'.1,wpAnyK.mono hc f _ a' w' h'.2⟩) (h.2 i hi)⟩
end
end Go.Proofs.YthcmecokejemcaaGreatDoor
namespace Go.Proofs.YthcmecokejemcaaGreatDoor
open Go.RowKit Go.Shelf
def itV:Option (Nat × Nat)→Value
 |some (k,v)=> .agg #[.int .u64 (k:Nat), .int .u64 (v:Nat)]
 |none=> .agg #[.int .u64 0, .int .u64 0]
theorem CellsF.num2{w:World}{F:Nat→Prop}{A:Option Addr}{l:List Nat}(h:CellsF w F A (hsV l)){k:Nat}(hk:k<l.length): ∃b o,A=some ⟨b,o,none⟩∧b<w.heap.size∧ ¬F b∧ ∀W,Below w.heap.size w W→W.cell? ⟨b,o+k,none⟩=some (.int .u64 (l[k]:Nat)):=by
 rcases h with h|⟨b,o,h1,h2,h3,h4⟩
 · have h9:=congrArg List.length h
   rw [hsV_len] at h9
   have h8:l.length=0:=h9
   omega
 · exact⟨b,o,h1,h2,h3,fun W hb=>(hb.cell (p:=⟨b,o+k,none⟩) h2).trans (h4 k _ (hsV_get hk))⟩
theorem box_drew{W:World}{b:Nat}{T:TypeId}{vs:List Value}(h:Box W b T vs):Box W.drew b T vs:=h.block rfl
section
variable {w w' :World} {s N:Nat} {R:Nat→Option (List Nat)} {nn:Nat}
set_option maxRecDepth 100000 in
theorem btDown_at(h:Rd N w s R nn)(hsh:Short R){t:Nat}(ht:BN.Deg t)(x:Nat)(hx:x<18446744073709551616)(key:ByteArray):
 Calls Tryz.prog 25 #[.agg #[.pointer (some ⟨s,0,none⟩), .int .i64 (t:Nat)], .int .u64 (x:Nat), .string key] w fun e w' =>e= .returned (.tuple #[itV (bdown R t key 40 x 0).1, .bool (bdown R t key 40 x 0).1.isSome, .int .i64 (bdown R t key 40 x 0).2])∧Below w.heap.size w w' :=by
 have hmo:Tryz.prog.follows .mixedOrders=true:=by kernel_rfl
 have hH:=Lib.hid h
 have htH:=Lib.hid ht
 obtain⟨W0,hW0⟩: ∃W,W=(w.alloc (Obj.cells #[.pointer (some ⟨s,0,none⟩), .int .i64 (t:Nat)] 74)).alloc (Obj.cells #[.int .u64 0, .int .u64 0] 31):=⟨_,rfl⟩
 have hb0:Below w.heap.size w W0:=by rw [hW0];exact((Below.refl _ w).alloc (Nat.le_refl _) _).alloc (by simp) _
 obtain⟨b3,hb3⟩: ∃b,b=w.heap.size:=⟨_,rfl⟩
 obtain⟨b6,hb6⟩: ∃b,b=w.heap.size+1:=⟨_,rfl⟩
 have x3:Box W0 b3 74 [.pointer (some ⟨s,0,none⟩), .int .i64 (t:Nat)]:=by rw [hW0,hb3];exact(Box.new w 74 [.pointer (some ⟨s,0,none⟩), .int .i64 (t:Nat)]).alloc _
 have x6:Box W0 b6 31 [.int .u64 0, .int .u64 0]:=by
  rw [hW0,hb6]
  have:=Box.new (w.alloc (Obj.cells #[.pointer (some ⟨s,0,none⟩), .int .i64 (t:Nat)] 74)) 31 [.int .u64 0, .int .u64 0]
  rwa [show(w.alloc (Obj.cells #[.pointer (some ⟨s,0,none⟩), .int .i64 (t:Nat)] 74)).heap.size=w.heap.size+1 by simp] at this
 have g3:w.heap.size≤b3:=by omega
 have g6:w.heap.size≤b6:=by omega
 have hne:b3≠b6:=by omega
 have hW0H:=Lib.hid (And.intro hW0 (And.intro hb3 hb6))
 have hb0H:=Lib.hid hb0
 have x3H:=Lib.hid x3
 have x6H:=Lib.hid x6
 have hfin:Hid (∀o b W,bdown R t key 40 x 0=(o,b)→Below w.heap.size w W→(Ending.returned (.tuple #[itV o, .bool o.isSome, .int .i64 b])=Ending.returned (.tuple #[itV (bdown R t key 40 x 0).1, .bool (bdown R t key 40 x 0).1.isSome, .int .i64 (bdown R t key 40 x 0).2])∧Below w.heap.size w W)):=Lib.hid (fun o b W h1 h2=>⟨by rw [h1],h2⟩)
 obtain⟨D,hD⟩: ∃D,D=bdown R t key 40 x 0:=⟨_,rfl⟩
 have hDH:=Lib.hid hD
 clear h ht hW0 hb3 hb6 x3 x6 hb0 hD
 go_enter Tryz.func25,Tryz.ntmps25
 go_wp2
 rw [←hW0H.out.1,←hW0H.out.2.2,←hW0H.out.2.1]
 go_loopw [1,8,14] (fun hv bv iv wr=> ∃(i x' :Nat) (b:Int),i≤40∧x' <18446744073709551616∧hv= .int .u64 x' ∧bv= .int .i64 b∧iv= .int .i64 i∧Hid (D=bdown R t key (40-i) x' b)∧Hid (Below W0.heap.size W0 wr)) (fun _ _ iv _=>40-(intOf iv).toNat)
 case atStart=>exact⟨0,x,0,by omega,hx,rfl,rfl,rfl,hDH,Lib.hid (Below.refl _ _)⟩
 case round=>
  obtain⟨i,y,b,hi,hy,rfl,rfl,rfl,hd,hb⟩:=hrel
  have hbw:=hb0H.out.trans (hb.out.mono hb0H.out.size)
  have hbwH:=Lib.hid hbw
  have y6:=Lib.hid (x6H.out.below hb.out)
  have y3:=Lib.hid (x3H.out.below hb.out)
  have e60:=y6.out.at' (i:=0) rfl
  have e61:=y6.out.at' (i:=1) rfl
  have k60:=y6.out.free 0
  have k61:=y6.out.free 1
  have e30:=y3.out.at' (i:=0) rfl
  have e31:=y3.out.at' (i:=1) rfl
  by_cases hlt:i<40
  · have hGt:=Lib.hid (btGet_at (hH.out.below hbw) t htH.out y hy)
    obtain⟨m,hm⟩: ∃m,40-i=m+1:=⟨39-i,by omega⟩
    clear hbw
    go_wp2_with fail
    refine hGt.out.mono ?_
    rintro e w2 ⟨v1,v2,v3,rfl,hown,hb2⟩
    obtain⟨A1,q1,rfl⟩:=ownN_form hown.r1
    obtain⟨A2,q2,rfl⟩:=ownN_form hown.r2
    obtain⟨A3,q3,rfl⟩:=ownN_form hown.r3
    obtain⟨n,hn⟩: ∃n,n=bnG R t y:=⟨_,rfl⟩
    have hd2:D=bdown R t key (m+1) y b:=by rw [←hm];exact hd.out
    rw [←hn] at hown
    rw [←hn]
    obtain⟨W3,hW3⟩: ∃W,W=w2.alloc (Obj.cells #[.slice A1 n.keys.length q1, .slice A2 n.vals.length q2, .slice A3 n.kids.length q3, .int .u64 (n.size:Nat)] 48):=⟨_,rfl⟩
    obtain⟨b9,hb9⟩: ∃b,b=w2.heap.size:=⟨_,rfl⟩
    have hb23:Below w2.heap.size w2 W3:=by rw [hW3];exact(Below.refl _ _).alloc (Nat.le_refl _) _
    have hn96:=Lib.hid (show b9≠b6 by have:=y6.out.lt;have:=hb2.size;omega)
    have hb6o:=Lib.hid y6.out.lt
    have x9:Box W3 b9 48 [.slice A1 n.keys.length q1, .slice A2 n.vals.length q2, .slice A3 n.kids.length q3, .int .u64 (n.size:Nat)]:=by rw [hW3,hb9];exact Box.new w2 48 [.slice A1 n.keys.length q1, .slice A2 n.vals.length q2, .slice A3 n.kids.length q3, .int .u64 (n.size:Nat)]
    have hbr3:Below wr.heap.size wr W3:=hb2.trans (hb23.mono hb2.size)
    have z6:=Lib.hid (y6.out.below hbr3)
    have z3:=Lib.hid (y3.out.below hbr3)
    have hbw3:=Lib.hid (hbwH.out.trans (hbr3.mono hbwH.out.size))
    have hb03:=Lib.hid (hb.out.trans (hbr3.mono hb.out.size))
    have hW3H:=Lib.hid (And.intro hW3 hb9)
    have hnH:=Lib.hid hn
    have x9H:=Lib.hid x9
    have hownH:=Lib.hid (hown.below hb23)
    have hd2H:=Lib.hid hd2
    have hmH:=Lib.hid hm
    clear e60 e61 k60 k61 e30 e31 hGt hb2 hown hn hW3 hb9 hb23 hbr3 x9 hd2 hd hb y6 y3 hbwH hm
    by_cases he:bnE R t y=0
    · rw [decide_eq_true he]
      have hw:=bnG_words hH.out htH.out he
      rw [←hnH.out] at hw
      obtain⟨hfit,wk,wv,wc,hsz⟩:=hw
      have t2:=htH.out.2
      obtain⟨g1,g2,g3'⟩:=hfit
      have l1:n.keys.length≤31:=by omega
      have l3:n.kids.length≤32:=by rcases g3' with h9|h9
                                   · rw [h9];simp
                                   · omega
      have hV:BNV W3 (fun _=>False) (.agg #[.slice A1 n.keys.length q1, .slice A2 n.vals.length q2, .slice A3 n.kids.length q3, .int .u64 (n.size:Nat)]) n:=hownH.out.bnv (F:=fun _=>False) (fun _ h=>h.elim) n.size (by omega) (by omega) (by omega)
      have hPl:=btPlace_at (hH.out.below hbw3.out) hsh hV t wk key
      obtain⟨k,hk⟩: ∃k,k=plK R n.keys key:=⟨_,rfl⟩
      obtain⟨hb,hhb⟩: ∃hb,hb=plH R n.keys key:=⟨_,rfl⟩
      have hkl:k≤n.keys.length:=by rw [hk];exact(bsF_le _ _ 0 _ (Nat.zero_le _)).2
      have hhl:hb=true→k<n.keys.length:=by rw [hk,hhb];unfold plH;simp;intro h1 _;exact h1
      rw [←hk,←hhb] at hPl
      have hst:D=bdown.bstep R t n k hb b (bdown R t key m):=by rw [hd2H.out,hk,hhb,hnH.out];conv=>lhs;unfold bdown
                                                                exact if_neg (fun h=>h he)
      have hstH:=Lib.hid hst
      have hPlH:=Lib.hid hPl
      have hkids:Hid (n.kids= []∨n.kids.length=n.keys.length+1):=Lib.hid (g3'.imp id And.left)
      have hhlH:=Lib.hid hhl
      have hvl:=Lib.hid g2
      have wkH:=Lib.hid (And.intro wk (And.intro wv wc))
      have e30:=z3.out.at' (i:=0) rfl
      have e31:=z3.out.at' (i:=1) rfl
      rw [hW3H.out.1] at e30 e31
      clear hV hPl hk hhb hst hhl g2 g3' wk wv wc hsz he hd2H
      go_wp2_with fail
      rw [←hW3H.out.1,←hW3H.out.2]
      refine hPlH.out.mono ?_
      rintro e w4 ⟨rfl,hb4⟩
      have u3:=Lib.hid (z3.out.below hb4)
      have u6:=Lib.hid (z6.out.below hb4)
      have u9:=Lib.hid (x9H.out.below hb4)
      have uo:=Lib.hid (hownH.out.below hb4)
      have hbw4:=Lib.hid (hbw3.out.trans (hb4.mono hbw3.out.size))
      have hb04:=Lib.hid (hb03.out.trans (hb4.mono hb03.out.size))
      obtain⟨B1,p1,e1,hC1⟩:=row_cellsF (F:=fun _=>False) uo.out.r1 (fun _ h=>h.elim)
      obtain⟨B2,p2,e2,hC2⟩:=row_cellsF (F:=fun _=>False) uo.out.r2 (fun _ h=>h.elim)
      obtain⟨B3,p3,e3,hC3⟩:=row_cellsF (F:=fun _=>False) uo.out.r3 (fun _ h=>h.elim)
      cases e1
      cases e2
      cases e3
      have hC1H:=Lib.hid hC1
      have hC2H:=Lib.hid hC2
      have hC3H:=Lib.hid hC3
      obtain⟨S,hS⟩: ∃S:Nat→Int,S=fun j=>sumSz R t (n.kids.take j) (wrap64 (b+(k:Nat))):=⟨_,rfl⟩
      have hSH:=Lib.hid hS
      have hS0:S 0=wrap64 (b+(k:Nat)):=by rw [hS];rfl
      have hS0H:=Lib.hid hS0
      have hSs:Hid (∀j (hj:j<n.kids.length),S (j+1)=wrap64 (S j+bszR R t n.kids[j])):=Lib.hid (fun j hj=>by
       rw [hS]
       simp only [List.take_succ_eq_append_getElem hj]
       unfold sumSz
       rw [List.foldl_append]
       rfl)
      obtain⟨lim,hlim⟩: ∃l,l=if n.kids= [] then 0 else k:=⟨_,rfl⟩
      have hlimH:=Lib.hid hlim
      have w0:wrap64 (b+(k:Int))=S 0:=hS0.symm
      clear hb4 z3 z6 x9H hownH hbw3 hb03 hPlH hC1 hC2 hC3 hS hS0 hlim hW3H e30 e31
      obtain⟨wo,rfl⟩: ∃wo,wo=wr:=⟨_,rfl⟩
      go_wp2
      go_loopw [8,13] (fun bv jv wr2=> ∃j:Nat,j≤lim∧bv= .int .i64 (S j)∧jv= .int .i64 j∧Hid (Below w4.heap.size w4 wr2)) (fun _ jv _=>lim-(intOf jv).toNat)
      case atStart=>exact⟨0,by omega,by first|rfl|rw [hS0H.out],rfl,Lib.hid (Below.refl _ _)⟩
      case round=>
       obtain⟨j,hj,rfl,rfl,hb5⟩:=hrel
       have hb5w:=Lib.hid (hbw4.out.trans (hb5.out.mono hbw4.out.size))
       by_cases hlt:j<lim
       · have hk0:n.kids≠ []:=fun e=>by have h9:=hlimH.out;rw [if_pos e] at h9;omega
         have hjk:j<k:=by have h9:=hlimH.out;rw [if_neg hk0] at h9;omega
         have hk1:0<n.kids.length:=List.length_pos_iff.2 hk0
         have hjl:j<n.kids.length:=by rcases hkids.out with h9|h9
                                      · exact absurd h9 hk0
                                      · omega
         have d1:decide ((n.kids.length:Int)>0)=true:=decide_eq_true (by omega)
         have d2:decide ((j:Int)<(k:Int))=true:=decide_eq_true (by omega)
         obtain⟨b5,o5,rfl,hbl5,hcell⟩:=hC3H.out.num hjl
         have hcq:=hcell wr hb5.out
         have hSz:=fun W (hb:Below wr.heap.size wr W)=>btSize_at (hH.out.below (hb5w.out.trans (hb.mono hb5w.out.size))) t htH.out n.kids[j] (wkH.out.2.2 j hjl)
         have hSj:=hSs.out j hjl
         obtain⟨yk,hyk⟩: ∃yk,n.kids[j]=yk:=⟨_,rfl⟩
         rw [hyk] at hcq hSz hSj
         generalize bszR R t yk=zz at*
         have hSzH:=Lib.hid hSz
         have hykH:=Lib.hid hyk
         have x1:=fun X:Bel wr=>X.cell ((u3.out.below hb5.out).at' (i:=0) rfl)
         have x2:=fun X:Bel wr=>X.cell ((u3.out.below hb5.out).at' (i:=1) rfl)
         have x3:=fun X:Bel wr=>X.cell ((u9.out.below hb5.out).at' (i:=2) rfl)
         have x4:=fun X:Bel wr=>X.cell hcq
         have w5:wrap64 (S j+zz)=S (j+1):=hSj.symm
         have f2:=(u9.out.below hb5.out).at' (i:=2) rfl
         clear hSz hyk hSj hcell hk0
         go_wp2
         refine wp_region_calm hmo (by kernel_rfl) ?_
         repeat (go_big_quiet_step ((go_at_call 27;exact calls_calm (hSzH.out _ (Bel.h _)))))
         refine wpQuiet_nil ?_
         rintro _ ⟨X,rfl⟩
         have hbX:=Lib.hid (hb5.out.trans (X.h.mono hb5.out.size))
         clear x1 x2 x3 x4
         go_wp2
         go_roundw
         case rel=>exact⟨j+1,by omega,by first|rfl|rw [w5],by go_num,hbX⟩
         case measure=>simp [intOf];omega
       · obtain rfl:j=lim:=by omega
         have hSk:sumSz R t (n.kids.take k) (wrap64 (b+(k:Nat)))=S j:=by
          rw [hSH.out]
          by_cases hk0:n.kids= []
          · simp [hk0]
          · have h9:=hlimH.out
            rw [if_neg hk0] at h9
            rw [h9]
         have hst2' :=hstH.out
         unfold bdown.bstep at hst2'
         rw [hSk] at hst2'
         clear hSk
         by_cases hk0:n.kids= []
         · have hkz:n.kids.length=0:=by rw [hk0];rfl
           have hst2:=hst2'
           rw [if_pos hk0,if_pos hk0] at hst2
           cases hb with
           |true=>
            simp only [cond_true] at hst2
            have hkk:=hhlH.out rfl
            have hvk:k<n.vals.length:=by rw [hvl.out];exact hkk
            obtain⟨b7,o7,rfl,hbl7,hcell7⟩:=hC1H.out.num hkk
            obtain⟨b8,o8,rfl,hbl8,hcell8⟩:=hC2H.out.num hvk
            have hc7:=hcell7 wr hb5.out
            have hc8:=hcell8 wr hb5.out
            rw [show n.keys.getD k 0=n.keys[k] by simp [hkk],show n.vals.getD k 0=n.vals[k] by simp [hvk]] at hst2
            obtain⟨ya,hya⟩: ∃y,n.keys[k]=y:=⟨_,rfl⟩
            obtain⟨yv,hyv⟩: ∃y,n.vals[k]=y:=⟨_,rfl⟩
            rw [hya] at hc7 hst2
            rw [hyv] at hc8 hst2
            clear hya hyv hcell7 hcell8
            have x1:=fun X:Bel wr=>X.cell ((u9.out.below hb5.out).at' (i:=0) rfl)
            have x2:=fun X:Bel wr=>X.cell ((u9.out.below hb5.out).at' (i:=1) rfl)
            have x3:=fun X:Bel wr=>X.cell hc7
            have x4:=fun X:Bel wr=>X.cell hc8
            have f2:=(u9.out.below hb5.out).at' (i:=2) rfl
            have hdd:=hDH.out.symm.trans hst2
            have hddH:=Lib.hid hdd
            clear hdd hst2 hst2'
            have f0:=(u9.out.below hb5.out).at' (i:=0) rfl
            have f1:=(u9.out.below hb5.out).at' (i:=1) rfl
            have v6:=u6.out.below hb5.out
            have e60:=v6.at' (i:=0) rfl
            have e61:=v6.at' (i:=1) rfl
            have k60:=v6.free 0
            have k61:=v6.free 1
            have hf:=Lib.hid (hfin.out (some (ya,yv)) (S j) _ hddH.out ((hb5w.out.setCell (p:=⟨b6,0,none⟩) g6 (.int .u64 (ya:Nat))).setCell (p:=⟨b6,1,none⟩) g6 (.int .u64 (yv:Nat))).drew)
            have hq0:=(v6.set 0 (.int .u64 (ya:Nat))).set 1 (.int .u64 (yv:Nat))
            have hq:=Lib.hid (box_drew hq0)
            clear x1 x2 x3 x4 v6 hq0
            go_wp2
            go_region_with (fail)
            all_goals
             go_wp2
             have r0:=hq.out.at' (i:=0) rfl
             have r1:=hq.out.at' (i:=1) rfl
             refine bodyPost_ret (v:= .tuple #[.agg #[.int .u64 (ya:Nat), .int .u64 (yv:Nat)], .bool true, .int .i64 (S j)]) ?_ ?_ hf.out
             · simp [results,Tryz.f25,go_sem,r0,r1]
             · rfl
           |false=>
            simp only [cond_false] at hst2
            have hdd:=hDH.out.symm.trans hst2
            have v6:=u6.out.below hb5.out
            have e60:=v6.at' (i:=0) rfl
            have e61:=v6.at' (i:=1) rfl
            have k60:=v6.free 0
            have k61:=v6.free 1
            have f2:=(u9.out.below hb5.out).at' (i:=2) rfl
            have hf:=Lib.hid (hfin.out none (S j) _ hdd ((hb5w.out.setCell (p:=⟨b6,0,none⟩) g6 (.int .u64 0)).setCell (p:=⟨b6,1,none⟩) g6 (.int .u64 0)))
            have hq:=Lib.hid ((v6.set 0 (.int .u64 0)).set 1 (.int .u64 0))
            clear hdd hst2 hst2' v6
            go_wp2
            have r0:=hq.out.at' (i:=0) rfl
            have r1:=hq.out.at' (i:=1) rfl
            refine bodyPost_ret (v:= .tuple #[.agg #[.int .u64 0, .int .u64 0], .bool false, .int .i64 (S j)]) (by simp [results,Tryz.f25,go_sem,r0,r1]) rfl hf.out
         · have hkz:0<n.kids.length:=List.length_pos_iff.2 hk0
           have hjk: ¬j<k:=by have h9:=hlimH.out;rw [if_neg hk0] at h9;omega
           have hst2:=hst2'
           rw [if_neg hk0,if_neg hk0] at hst2
           cases hb with
           |true=>
            simp only [cond_true] at hst2
            have hkk:=hhlH.out rfl
            have hvk:k<n.vals.length:=by rw [hvl.out];exact hkk
            have hkj:k<n.kids.length:=by rcases hkids.out with h9|h9
                                         · exact absurd h9 hk0
                                         · omega
            obtain⟨D1,d1,e1,hD1⟩:=row_cellsF (F:=fun b=>b<wo.heap.size) uo.out.r1 (fun _ h=>h)
            obtain⟨D2,d2,e2,hD2⟩:=row_cellsF (F:=fun b=>b<wo.heap.size) uo.out.r2 (fun _ h=>h)
            obtain⟨D3,d3,e3,hD3⟩:=row_cellsF (F:=fun b=>b<wo.heap.size) uo.out.r3 (fun _ h=>h)
            cases e1
            cases e2
            cases e3
            obtain⟨b7,o7,rfl,hbl7,hf7,hcell7⟩:=hD1.num2 hkk
            obtain⟨b8,o8,rfl,hbl8,hf8,hcell8⟩:=hD2.num2 hvk
            obtain⟨b5,o5,rfl,hbl5,hf5,hcell⟩:=hD3.num2 hkj
            have hlo:=hb6o.out
            have hq7:=Lib.hid (show¬(b7=b6) by omega)
            have hq8:=Lib.hid (show¬(b8=b6) by omega)
            have hq5:=Lib.hid (show¬(b5=b6) by omega)
            have hc7:=hcell7 wr hb5.out
            have hc8:=hcell8 wr hb5.out
            have hcq:=hcell wr hb5.out
            clear hf7 hf8 hf5 hlo hD1 hD2 hD3
            rw [show n.keys.getD k 0=n.keys[k] by simp [hkk],show n.vals.getD k 0=n.vals[k] by simp [hvk]] at hst2
            obtain⟨ya,hya⟩: ∃y,n.keys[k]=y:=⟨_,rfl⟩
            obtain⟨yv,hyv⟩: ∃y,n.vals[k]=y:=⟨_,rfl⟩
            rw [hya] at hc7 hst2
            rw [hyv] at hc8 hst2
            have hSz:=fun W (hb:Below wr.heap.size wr W)=>btSize_at (hH.out.below (hb5w.out.trans (hb.mono hb5w.out.size))) t htH.out n.kids[k] (wkH.out.2.2 k hkj)
            rw [show n.kids.getD k 0=n.kids[k] by simp [hkj]] at hst2
            obtain⟨yk,hyk⟩: ∃yk,n.kids[k]=yk:=⟨_,rfl⟩
            rw [hyk] at hcq hSz hst2
            generalize bszR R t yk=zz at*
            have hSzH:=Lib.hid hSz
            obtain⟨bb,hbb⟩: ∃bb,bb=wrap64 (S j+zz):=⟨_,rfl⟩
            have w6:wrap64 (S j+zz)=bb:=hbb.symm
            rw [w6] at hst2
            have hdd:=hDH.out.symm.trans hst2
            have hddH:=Lib.hid hdd
            clear hya hyv hcell7 hcell8 hSz hyk hcell hbb hdd hst2 hst2'
            have x1:=fun X:Exw (fun b=>b=b6) wr=>X.cell ((u9.out.below hb5.out).at' (i:=0) rfl) hn96.out
            have x2:=fun X:Exw (fun b=>b=b6) wr=>X.cell ((u9.out.below hb5.out).at' (i:=1) rfl) hn96.out
            have x3:=fun X:Exw (fun b=>b=b6) wr=>X.cell ((u9.out.below hb5.out).at' (i:=2) rfl) hn96.out
            have x4:=fun X:Exw (fun b=>b=b6) wr=>X.cell hc7 hq7.out
            have x5:=fun X:Exw (fun b=>b=b6) wr=>X.cell hc8 hq8.out
            have x6:=fun X:Exw (fun b=>b=b6) wr=>X.cell hcq hq5.out
            have x7:=fun X:Exw (fun b=>b=b6) wr=>X.cell ((u3.out.below hb5.out).at' (i:=0) rfl) hne
            have x8:=fun X:Exw (fun b=>b=b6) wr=>X.cell ((u3.out.below hb5.out).at' (i:=1) rfl) hne
            have f2:=(u9.out.below hb5.out).at' (i:=2) rfl
            have d1:decide ((n.kids.length:Int)>0)=true:=decide_eq_true (by omega)
            go_wp2
            refine wp_region_steps (fun w' => ∃X:Exw (fun b=>b=b6) wr,w' =X.W) [.r 0, .r 1, .r 2, .r 3, .r 4, .r 5, .r 6, .r 7, .r 8, .r 9, .r 10, .r 11, .r 12, .r 13, .r 14, .r 15, .r 16, .r 17, .a 18, .r 19, .a 20, .r 21, .r 22] hmo (by kernel_rfl) rfl (by kernel_rfl) (exw_start _ _) (fun _ _ d _ _ h=>by cases d<;>exact h) ?_
            iterate 18 (refine wpSteps_r _ _ rfl rfl (by rintro _ ⟨X,rfl⟩;go_simp;exact rfl) ?_;go_simp)
            clear x1 x2 x3 x4 x5 x6 x7 x8
            refine wpSteps_a _ rfl (fun K1 hK1=> ?_)
            go_wp2_with fail
            refine(hSzH.out _ (below_drawn wr)).mono ?_
            rintro e w5 ⟨rfl,hbz⟩
            have hbw5:=Lib.hid ((below_drawn wr).trans hbz)
            go_wp2
            refine hK1 _ _ (exw_below hbw5.out) ?_
            clear hK1 K1
            refine wpSteps_r _ _ rfl rfl (by rintro _ ⟨X,rfl⟩;go_simp;exact rfl) ?_
            go_simp
            have v6:=Lib.hid ((u6.out.below hb5.out).below hbw5.out)
            have e60:=v6.out.at' (i:=0) rfl
            have e61:=v6.out.at' (i:=1) rfl
            have k60:=v6.out.free 0
            have k61:=v6.out.free 1
            refine wpSteps_a _ rfl (fun K2 hK2=> ?_)
            go_wp2
            refine hK2 _ _ (exw_set (B:=fun b=>b=b6) (p:=⟨b6,1,none⟩) (exw_set (B:=fun b=>b=b6) (p:=⟨b6,0,none⟩) (exw_below hbw5.out) rfl _) rfl _) ?_
            clear hK2 K2
            iterate 2 (refine wpSteps_r _ _ rfl rfl (by rintro _ ⟨X,rfl⟩;go_simp;exact rfl) ?_;go_simp)
            refine wpSteps_nil ?_
            have hf:=Lib.hid (hfin.out (some (ya,yv)) bb _ hddH.out (((hb5w.out.trans (hbw5.out.mono hb5w.out.size)).setCell (p:=⟨b6,0,none⟩) g6 (.int .u64 (ya:Nat))).setCell (p:=⟨b6,1,none⟩) g6 (.int .u64 (yv:Nat))))
            have hq:=Lib.hid ((v6.out.set 0 (.int .u64 (ya:Nat))).set 1 (.int .u64 (yv:Nat)))
            go_wp2
            have r0:=hq.out.at' (i:=0) rfl
            have r1:=hq.out.at' (i:=1) rfl
            refine bodyPost_ret (v:= .tuple #[.agg #[.int .u64 (ya:Nat), .int .u64 (yv:Nat)], .bool true, .int .i64 bb]) ?_ ?_ hf.out
            · simp [results,Tryz.f25,go_sem,r0,r1]
            · rfl
           |false=>
            simp only [cond_false] at hst2
            have hkj:k<n.kids.length:=by rcases hkids.out with h9|h9
                                         · exact absurd h9 hk0
                                         · omega
            obtain⟨b5,o5,rfl,hbl5,hcell⟩:=hC3H.out.num hkj
            have hcq:=hcell wr hb5.out
            have hky:=wkH.out.2.2 k hkj
            rw [show n.kids.getD k 0=n.kids[k] by simp [hkj]] at hst2
            obtain⟨yk,hyk⟩: ∃yk,n.kids[k]=yk:=⟨_,rfl⟩
            rw [hyk] at hcq hky hst2
            have hrel:Hid (D=bdown R t key (40-(i+1)) yk (S j)):=Lib.hid (by rw [show 40-(i+1)=m by have:=hmH.out;omega];exact hst2)
            have hb05:=Lib.hid (hb04.out.trans (hb5.out.mono hb04.out.size))
            have f2:=(u9.out.below hb5.out).at' (i:=2) rfl
            clear hyk hcell hst2 hst2' hk0
            go_wp2
            go_roundw
            case rel=>exact⟨i+1,yk,S j,by omega,hky,rfl,rfl,by go_num,hrel,hb05⟩
            case measure=>simp [intOf];omega
    · rw [decide_eq_false he]
      have heH:=Lib.hid he
      clear he
      have e60:=z6.out.at' (i:=0) rfl
      have e61:=z6.out.at' (i:=1) rfl
      have k60:=z6.out.free 0
      have k61:=z6.out.free 1
      rw [hW3H.out.1] at e60 e61 k60 k61
      go_wp2
      rw [←hW3H.out.1]
      have hdd:bdown R t key 40 x 0=(none,b):=by rw [←hDH.out,hd2H.out];unfold bdown;exact if_pos heH.out
      have hf:=hfin.out none b _ hdd ((hbw3.out.setCell (p:=⟨b6,0,none⟩) g6 (.int .u64 0)).setCell (p:=⟨b6,1,none⟩) g6 (.int .u64 0))
      have hq:=(z6.out.set 0 (.int .u64 0)).set 1 (.int .u64 0)
      have r0:=hq.at' (i:=0) rfl
      have r1:=hq.at' (i:=1) rfl
      refine bodyPost_ret (v:= .tuple #[.agg #[.int .u64 0, .int .u64 0], .bool false, .int .i64 b]) (by simp [results,Tryz.f25,go_sem,r0,r1]) rfl hf
  · obtain rfl:i=40:=by omega
    have hdd:bdown R t key 40 x 0=(none,b):=by rw [←hDH.out,hd.out];rfl
    have hf:=Lib.hid (hfin.out none b _ hdd ((hbw.setCell (p:=⟨b6,0,none⟩) g6 (.int .u64 0)).setCell (p:=⟨b6,1,none⟩) g6 (.int .u64 0)))
    have hq:=Lib.hid ((y6.out.set 0 (.int .u64 0)).set 1 (.int .u64 0))
    clear hbw hdd
    go_wp2
    have r0:=hq.out.at' (i:=0) rfl
    have r1:=hq.out.at' (i:=1) rfl
    refine bodyPost_ret (v:= .tuple #[.agg #[.int .u64 0, .int .u64 0], .bool false, .int .i64 b]) (by simp [results,Tryz.f25,go_sem,r0,r1]) rfl hf.out
end
namespace Bt
section
variable {R R1:Nat→Option (List Nat)} {t a lo:Nat}
theorem kid_ns: ∀{c:Sb} {l:List Lk} {k:Nat} {z:Nat},k≤l.length→z∈(kid c l k).ns→z∈nsOf c l
 |c,l,0,z,_,h=>by cases l<;>exact List.mem_append.2 (.inl h)
 |c,[],k+1,z,h,_=>absurd h (by simp)
 |c,p::l,k+1,z,h,hz=>by
  rw [nsOf_cons]
  exact List.mem_append.2 (.inr (kid_ns (by simpa using h) hz))
theorem mem_ns{c:Sb}{l:List Lk}{p:Lk}(hp:p∈l){z:Nat}(hz:z∈p.2.ns):z∈nsOf c l:=
 List.mem_append.2 (.inr (List.mem_flatMap.2 ⟨p,hp,hz⟩))
theorem setKid_at: ∀{c:Sb} {l:List Lk} {k:Nat} {s:Sb},k≤l.length→(nsOf c l).Nodup→At R t a lo c→(∀p∈l,At R t a lo p.2)→(∀z,z∈nsOf c l→z∉(kid c l k).ns→R1 z=R z)→At R1 t a lo s→
 At R1 t a lo (setKid c l k s).1∧ ∀p∈(setKid c l k s).2,At R1 t a lo p.2
 |c,l,0,s,_,hn,hc,hl,hf,hs=>by
  have hk:kid c l 0=c:=by cases l<;>rfl
  have e:setKid c l 0 s=(s,l):=by cases l<;>rfl
  rw [hk] at hf
  rw [e]
  refine⟨hs,fun p hp=>(hl p hp).congr fun z hz=>hf z (mem_ns hp hz) fun hz2=> ?_⟩
  exact(List.nodup_append.1 hn).2.2 z hz2 z (List.mem_flatMap.2 ⟨p,hp,hz⟩) rfl
 |c,[],k+1,s,h,_,_,_,_,_=>absurd h (by simp)
 |c,p::l,k+1,s,h,hn,hc,hl,hf,hs=>by
  rw [nsOf_cons] at hn
  obtain⟨n1,n2,n3⟩:=List.nodup_append.1 hn
  have hk:k≤l.length:=by simpa using h
  obtain⟨g1,g2⟩:=setKid_at (c:=p.2) (l:=l) (k:=k) (s:=s) hk n2 (hl p (by simp)) (fun q hq=>hl q (List.mem_cons_of_mem _ hq)) (fun z hz hz2=>hf z (by rw [nsOf_cons];exact List.mem_append.2 (.inr hz)) hz2) hs
  refine⟨hc.congr fun z hz=>hf z (by rw [nsOf_cons];exact List.mem_append.2 (.inl hz)) fun hz2=>n3 z hz z (kid_ns hk hz2) rfl,fun q hq=> ?_⟩
  rcases List.mem_cons.1 hq with rfl|hq
  · exact g1
  · exact g2 q hq
theorem insK_at: ∀{c:Sb} {l:List Lk} {k:Nat} {s:Sb} {m:It} {r:Sb},k≤l.length→(nsOf c l).Nodup→At R t a lo c→(∀p∈l,At R t a lo p.2)→(∀z,z∈nsOf c l→z∉(kid c l k).ns→R1 z=R z)→At R1 t a lo s→At R1 t a lo r→
 At R1 t a lo (insK c l k s m r).1∧ ∀p∈(insK c l k s m r).2,At R1 t a lo p.2
 |c,l,0,s,m,r,_,hn,hc,hl,hf,hs,hr=>by
  have hk:kid c l 0=c:=by cases l<;>rfl
  have e:insK c l 0 s m r=(s,(m,r)::l):=by cases l<;>rfl
  rw [hk] at hf
  rw [e]
  refine⟨hs,fun q hq=> ?_⟩
  rcases List.mem_cons.1 hq with rfl|hp
  · exact hr
  · exact(hl q hp).congr fun z hz=>hf z (mem_ns hp hz) fun hz2=>(List.nodup_append.1 hn).2.2 z hz2 z (List.mem_flatMap.2 ⟨q,hp,hz⟩) rfl
 |c,[],k+1,s,m,r,h,_,_,_,_,_,_=>absurd h (by simp)
 |c,p::l,k+1,s,m,r,h,hn,hc,hl,hf,hs,hr=>by
  rw [nsOf_cons] at hn
  obtain⟨n1,n2,n3⟩:=List.nodup_append.1 hn
  have hk:k≤l.length:=by simpa using h
  obtain⟨g1,g2⟩:=insK_at (c:=p.2) (l:=l) (k:=k) (s:=s) (m:=m) (r:=r) hk n2 (hl p (by simp)) (fun q hq=>hl q (List.mem_cons_of_mem _ hq)) (fun z hz hz2=>hf z (by rw [nsOf_cons];exact List.mem_append.2 (.inr hz)) hz2) hs hr
  refine⟨hc.congr fun z hz=>hf z (by rw [nsOf_cons];exact List.mem_append.2 (.inl hz)) fun hz2=>n3 z hz z (kid_ns hk hz2) rfl,fun q hq=> ?_⟩
  rcases List.mem_cons.1 hq with rfl|hq
  · exact g1
  · exact g2 q hq
theorem rsum_kids: ∀(c:Sb) (l:List Lk) (b:Nat),(bnG R t c.h).size=c.its.length→(∀p∈l,(bnG R t p.2.h).size=p.2.its.length)→b+(c.its++l.flatMap fun p=>p.2.its).length<18446744073709551616→
 rsum R t (c.h::l.map (·.2.h)) b=b+(c.its++l.flatMap fun p=>p.2.its).length
 |c,[],b,h1,_,h3=>by
  simp only [List.flatMap_nil,List.append_nil] at h3 ⊢
  simp only [rsum,List.map_nil,List.foldl_cons,List.foldl_nil,h1]
  exact Nat.mod_eq_of_lt h3
 |c,p::l,b,h1,h2,h3=>by
  simp only [List.flatMap_cons,List.length_append] at h3
  have ih:=rsum_kids p.2 l (b+c.its.length) (h2 p (by simp)) (fun q hq=>h2 q (List.mem_cons_of_mem _ hq)) (by simp only [List.length_append];omega)
  unfold rsum at ih ⊢
  rw [List.map_cons,List.foldl_cons,h1,Nat.mod_eq_of_lt (by omega),ih]
  simp only [List.flatMap_cons,List.length_append]
  omega
theorem its_len: ∀(c:Sb) (l:List Lk),(itsOf c l).length=l.length+(c.its++l.flatMap fun p=>p.2.its).length
 |c,[]=>by simp [itsOf,rest]
 |c,p::l=>by
  have:=its_len p.2 l
  rw [itsOf_cons]
  simp only [List.length_append,List.length_cons,List.flatMap_cons] at this ⊢
  omega
theorem node_keys(c:Sb)(l:List Lk):(nodeOf c l).keys.length=l.length∧(nodeOf c l).vals.length=l.length∧(nodeOf c l).kids.length=l.length+1:=by simp [nodeOf]
theorem node_fits{c:Sb}{l:List Lk}(h1:l.length≤2*t-1)(h0:0∉(c.h::l.map (·.2.h))):(nodeOf c l).Fits t:=by
 obtain⟨e1,e2,e3⟩:=node_keys c l
 exact⟨by omega,by omega, .inr ⟨by omega,h0⟩⟩
theorem leaf_fits{l:List It}(h1:l.length≤2*t-1):(leafOf l).Fits t:=⟨by simpa [leafOf] using h1,by simp [leafOf], .inl rfl⟩
def Rec(R:Nat→Option (List Nat))(t x:Nat):Prop:= ∃ws,R x=some ws∧ws.length=6*t
theorem bsplit_small{x:Nat}{st:List Nat}{n:BN}(hr:Rec R t x)(hf:n.Fits t)(hl:n.keys.length<2*t):bsplit R t x st n=(updR R x (some (n.wd t)),st,none):=by
 obtain⟨ws,h1,h2⟩:=hr
 unfold bsplit
 rw [if_pos hl,bputR_same hf h1 h2]
theorem upd_rec{x y:Nat}{n:BN}(h:Rec R t y):Rec (updR R x (some (n.wd t))) t y:=by
 by_cases e:y=x
 · subst e;exact⟨_,updR_same _ _ _,BN.wd_len t n⟩
 · obtain⟨ws,h1,h2⟩:=h
   exact⟨ws,(updR_other e).trans h1,h2⟩
theorem bsplit_great{x y:Nat}{st:List Nat}{n left right:BN}(hx:Rec R t x)(hy:Rec R t y)(hl:2*t≤n.keys.length)(hL:leftOf t n (rightOf R t n).size=left)(hR:rightOf R t n=right)(f1:left.Fits t)(f2:right.Fits t):
 bsplit R t x (y::st) n=(updR (updR R x (some (left.wd t))) y (some (right.wd t)),st,some (n.keys.getD t 0,n.vals.getD t 0,y)):=by
 obtain⟨ws,h1,h2⟩:=hx
 obtain⟨ws',h3,h4⟩:=upd_rec (x:=x) (n:=left) hy
 unfold bsplit btake
 rw [if_neg (by omega),hL,hR,bputR_same f1 h1 h2]
 simp only
 rw [bputR_same f2 h3 h4]
theorem more_eq{n m:BN}(h1:n.keys=m.keys)(h2:n.vals=m.vals)(h3:n.kids=m.kids)(h4:n.size+1=m.size)(hb:m.size<18446744073709551616):n.more=m:=by
 refine BN.ext' h1 h2 h3 ?_
 show(n.size+1)%18446744073709551616=m.size
 rw [h4,Nat.mod_eq_of_lt hb]
theorem map_kh(l:List Lk):l.map (·.1.kh)=(l.map (·.1)).map (·.kh):=by simp
theorem map_vh(l:List Lk):l.map (·.1.vh)=(l.map (·.1)).map (·.vh):=by simp
theorem setKid_node{c:Sb}{l:List Lk}{k:Nat}{s:Sb}(hk:k≤l.length)(he:s.h=(kid c l k).h)(hl:s.its.length=(kid c l k).its.length+1)(hb:(itsOf c l).length+1<18446744073709551616):
 (nodeOf c l).more=nodeOf (setKid c l k s).1 (setKid c l k s).2∧(itsOf (setKid c l k s).1 (setKid c l k s).2).length=(itsOf c l).length+1:=by
 have e:(itsOf (setKid c l k s).1 (setKid c l k s).2).length=(itsOf c l).length+1:=by
  rw [setKid_its c l k s hk,parts_at c l k hk]
  simp only [List.length_append,hl]
  omega
 refine⟨more_eq ?_ ?_ ?_ ?_ ?_,e⟩
 · show l.map (·.1.kh)=_
   rw [map_kh,←setKid_keys c l k s hk,←map_kh];rfl
 · show l.map (·.1.vh)=_
   rw [map_vh,←setKid_keys c l k s hk,←map_vh];rfl
 · exact(setKid_hs c l k s hk he).symm
 · exact e.symm
 · show(itsOf _ _).length<_
   rw [e];exact hb
theorem insK_node{c:Sb}{l:List Lk}{k:Nat}{s:Sb}{m:It}{r:Sb}(hk:k≤l.length)(he:s.h=(kid c l k).h)(hl:s.its.length+1+r.its.length=(kid c l k).its.length+1)(hb:(itsOf c l).length+1<18446744073709551616):
 (((nodeOf c l).insKV k m.kh m.vh).insKid (k+1) r.h).more=nodeOf (insK c l k s m r).1 (insK c l k s m r).2∧(itsOf (insK c l k s m r).1 (insK c l k s m r).2).length=(itsOf c l).length+1:=by
 have e:(itsOf (insK c l k s m r).1 (insK c l k s m r).2).length=(itsOf c l).length+1:=by
  rw [insK_its c l k s m r hk,parts_at c l k hk]
  simp only [List.length_append,List.length_cons]
  omega
 refine⟨more_eq ?_ ?_ ?_ ?_ ?_,e⟩
 · show(l.map (·.1.kh)).take k++m.kh::(l.map (·.1.kh)).drop k=(insK c l k s m r).2.map (·.1.kh)
   rw [map_kh,map_kh,insK_keys c l k s m r hk]
   simp only [List.map_append,List.map_cons,List.map_take,List.map_drop]
 · show(l.map (·.1.vh)).take k++m.vh::(l.map (·.1.vh)).drop k=(insK c l k s m r).2.map (·.1.vh)
   rw [map_vh,map_vh,insK_keys c l k s m r hk]
   simp only [List.map_append,List.map_cons,List.map_take,List.map_drop]
 · exact(insK_hs c l k s m r hk he).symm
 · exact e.symm
 · show(itsOf _ _).length<_
   rw [e];exact hb
theorem halves{l:List Lk}{t:Nat}(h:t<l.length): ∃A m d B,l=A++(m,d)::B∧A.length=t∧B.length=l.length-(t+1)∧l.take t=A∧l.drop (t+1)=B:=by
 refine⟨l.take t,l[t].1,l[t].2,l.drop (t+1), ?_,by rw [List.length_take];omega,by rw [List.length_drop],rfl,rfl⟩
 have:=List.take_append_drop t l
 rw [List.drop_eq_getElem_cons h] at this
 exact this.symm
theorem halves_its(c:Sb)(A:List Lk)(m:It)(d:Sb)(B:List Lk):itsOf c (A++(m,d)::B)=itsOf c A++m::itsOf d B:=by
 unfold itsOf;rw [rest_append,rest_cons];simp
theorem halves_ns(c:Sb)(A:List Lk)(m:It)(d:Sb)(B:List Lk):nsOf c (A++(m,d)::B)=nsOf c A++nsOf d B:=by simp [nsOf]
theorem halves_nodes{c:Sb}{A:List Lk}{m:It}{d:Sb}{B:List Lk}(ht:A.length=t)(hd:(bnG R t d.h).size=d.its.length)(hB: ∀p∈B,(bnG R t p.2.h).size=p.2.its.length)(hb:(itsOf c (A++(m,d)::B)).length<18446744073709551616):
 rightOf R t (nodeOf c (A++(m,d)::B))=nodeOf d B∧leftOf t (nodeOf c (A++(m,d)::B)) (itsOf d B).length=nodeOf c A∧(nodeOf c (A++(m,d)::B)).keys.getD t 0=m.kh∧(nodeOf c (A++(m,d)::B)).vals.getD t 0=m.vh:=by
 have hl:=congrArg List.length (halves_its c A m d B)
 simp only [List.length_append,List.length_cons] at hl
 have hkids:(nodeOf c (A++(m,d)::B)).kids.drop (t+1)=d.h::B.map (·.2.h):=by
  show(c.h::(A++(m,d)::B).map (·.2.h)).drop (t+1)=_
  rw [List.drop_succ_cons,List.map_append,List.drop_left' (by rw [List.length_map];exact ht)]
  rfl
 have hrs:rsum R t (d.h::B.map (·.2.h)) B.length=(itsOf d B).length:=by
  have h9:=its_len d B
  rw [rsum_kids d B B.length hd hB (by omega),h9]
 refine⟨BN.ext' ?_ ?_ hkids ?_,BN.ext' ?_ ?_ ?_ ?_, ?_, ?_⟩
 · show((A++(m,d)::B).map (·.1.kh)).drop (t+1)=B.map (·.1.kh)
   rw [List.map_append,List.map_cons,←List.singleton_append,←List.append_assoc,List.drop_left' (by simp [ht])]
 · show((A++(m,d)::B).map (·.1.vh)).drop (t+1)=B.map (·.1.vh)
   rw [List.map_append,List.map_cons,←List.singleton_append,←List.append_assoc,List.drop_left' (by simp [ht])]
 · show rsum R t ((nodeOf c (A++(m,d)::B)).kids.drop (t+1)) ((nodeOf c (A++(m,d)::B)).keys.length-(t+1))=(itsOf d B).length
   rw [hkids,show(nodeOf c (A++(m,d)::B)).keys.length-(t+1)=B.length by simp [nodeOf,ht];omega,hrs]
 · show((A++(m,d)::B).map (·.1.kh)).take t=A.map (·.1.kh)
   rw [List.map_append,List.take_left' (by rw [List.length_map];exact ht)]
 · show((A++(m,d)::B).map (·.1.vh)).take t=A.map (·.1.vh)
   rw [List.map_append,List.take_left' (by rw [List.length_map];exact ht)]
 · show(c.h::(A++(m,d)::B).map (·.2.h)).take (t+1)=c.h::A.map (·.2.h)
   rw [List.take_succ_cons,List.map_append,List.take_left' (by rw [List.length_map];exact ht)]
 · show((itsOf c (A++(m,d)::B)).length+36893488147419103232-(itsOf d B).length-1)%18446744073709551616=(itsOf c A).length
   omega
 · show((A++(m,d)::B).map (·.1.kh)).getD t 0=m.kh
   rw [List.getD_eq_getElem?_getD,List.getElem?_map,List.getElem?_append_right (by omega),ht,Nat.sub_self]
   rfl
 · show((A++(m,d)::B).map (·.1.vh)).getD t 0=m.vh
   rw [List.getD_eq_getElem?_getD,List.getElem?_map,List.getElem?_append_right (by omega),ht,Nat.sub_self]
   rfl
theorem leaf_halves{A B:List It}{m:It}(ht:A.length=t)(hb:A.length+B.length+1<18446744073709551616):
 rightOf R t (leafOf (A++m::B))=leafOf B∧leftOf t (leafOf (A++m::B)) B.length=leafOf A∧(leafOf (A++m::B)).keys.getD t 0=m.kh∧(leafOf (A++m::B)).vals.getD t 0=m.vh:=by
 refine⟨BN.ext' ?_ ?_ ?_ ?_,BN.ext' ?_ ?_ ?_ ?_, ?_, ?_⟩
 · show((A++m::B).map (·.kh)).drop (t+1)=B.map (·.kh)
   rw [List.map_append,List.map_cons,←List.singleton_append,←List.append_assoc,List.drop_left' (by simp [ht])]
 · show((A++m::B).map (·.vh)).drop (t+1)=B.map (·.vh)
   rw [List.map_append,List.map_cons,←List.singleton_append,←List.append_assoc,List.drop_left' (by simp [ht])]
 · show([]:List Nat).drop (t+1)= []
   simp
 · show rsum R t (([]:List Nat).drop (t+1)) (((A++m::B).map (·.kh)).length-(t+1))=B.length
   simp only [List.drop_nil,rsum,List.foldl_nil,List.length_map,List.length_append,List.length_cons]
   omega
 · show((A++m::B).map (·.kh)).take t=A.map (·.kh)
   rw [List.map_append,List.take_left' (by rw [List.length_map];exact ht)]
 · show((A++m::B).map (·.vh)).take t=A.map (·.vh)
   rw [List.map_append,List.take_left' (by rw [List.length_map];exact ht)]
 · show([]:List Nat).take (t+1)= []
   simp
 · show((A++m::B).length+36893488147419103232-B.length-1)%18446744073709551616=A.length
   simp only [List.length_append,List.length_cons]
   omega
 · show((A++m::B).map (·.kh)).getD t 0=m.kh
   rw [List.getD_eq_getElem?_getD,List.getElem?_map,List.getElem?_append_right (by omega),ht,Nat.sub_self]
   rfl
 · show((A++m::B).map (·.vh)).getD t 0=m.vh
   rw [List.getD_eq_getElem?_getD,List.getElem?_map,List.getElem?_append_right (by omega),ht,Nat.sub_self]
   rfl
end
end Bt
section
variable (R:Nat→Option (List Nat)) (t:Nat)
def bnodes(most:Nat):Nat→List Nat→Nat→List Nat
 |0,out,_=>out
 |f+1,out,h=>if bnE R t h≠0∨most≤out.length then out else (bnG R t h).kids.foldl (bnodes most f) (out++ [h])
def bheight:Nat→Nat→Nat
 |0,_=>0
 |f+1,x=>if bnE R t x≠0 then 0 else if (bnG R t x).kids= [] then 1 else bheight f ((bnG R t x).kids.getD 0 0)+1
def blist:Nat→List (Nat × Nat) × Nat→Nat→List (Nat × Nat) × Nat
 |0,o,_=>o
 |f+1,o,h=>if bnE R t h≠0∨o.2=0 then o else lsFrom (bnG R t h) (blist f) (bnG R t h).keys.length 0 (o.1,o.2-1)
where
 lsStep (n:BN) (rec:List (Nat × Nat) × Nat→Nat→List (Nat × Nat) × Nat) (k:Nat) (o:List (Nat × Nat) × Nat):List (Nat × Nat) × Nat:=
  let p:=if n.kids= [] then o else rec o (n.kids.getD k 0)
  (p.1++ [(n.keys.getD k 0,n.vals.getD k 0)],p.2)
 lsFrom (n:BN) (rec:List (Nat × Nat) × Nat→Nat→List (Nat × Nat) × Nat):Nat→Nat→List (Nat × Nat) × Nat→List (Nat × Nat) × Nat
  |0,_,o=>if n.kids= [] then o else rec o (n.kids.getD (n.kids.length-1) 0)
  |m+1,i,o=>lsFrom n rec m (i+1) (lsStep n rec i o)
def bfits:Nat→Bool→Nat→Bool
 |above,top,h=>
  if bnE R t h≠0 then false
  else if (bnG R t h).keys.length<(cond top 1 (t-1)) then false
  else match above with
  |0=>if (bnG R t h).kids= [] then decide ((bnG R t h).size=rsum R t [] (bnG R t h).keys.length) else false
  |a+1=>if (bnG R t h).kids= [] then false else (bnG R t h).kids.all (bfits a false)&&decide ((bnG R t h).size=rsum R t (bnG R t h).kids (bnG R t h).keys.length)
end
namespace Bt
section
variable {R:Nat→Option (List Nat)} {t:Nat}
theorem fold_nodes_of{most f:Nat}{P:Sb→Prop}(h: ∀(out:List Nat) (s:Sb),P s→out.length+s.ns.length≤most→bnodes R t most f out s.h=out++s.ns): ∀(l:List Sb) (out:List Nat),(∀s∈l,P s)→out.length+(l.flatMap (·.ns)).length≤most→(l.map (·.h)).foldl (bnodes R t most f) out=out++l.flatMap (·.ns)
 | [],out,_,_=>by simp
 |s::l,out,hp,hb=>by
  simp only [List.flatMap_cons,List.length_append] at hb
  rw [List.map_cons,List.foldl_cons,h out s (hp s (by simp)) (by omega),fold_nodes_of h l _ (fun q hq=>hp q (by simp [hq])) (by rw [List.length_append];omega)]
  simp
def subs(c:Sb)(l:List Lk):List Sb:=c::l.map (·.2)
theorem subs_hs(c:Sb)(l:List Lk):(subs c l).map (·.h)=c.h::l.map (·.2.h):=by simp [subs]
theorem subs_ns(c:Sb)(l:List Lk):(subs c l).flatMap (·.ns)=nsOf c l:=by simp [subs,nsOf,List.flatMap_map]
theorem subs_all{P:Sb→Prop}{c:Sb}{l:List Lk}(h1:P c)(h2: ∀p∈l,P p.2): ∀s∈subs c l,P s:=by
 intro s hs
 rcases List.mem_cons.1 hs with rfl|hs
 · exact h1
 · obtain⟨p,hp,rfl⟩:=List.mem_map.1 hs;exact h2 p hp
theorem ns_len{a lo:Nat}{s:Sb}(h:At R t a lo s):1≤s.ns.length:=List.length_pos_iff.2 (List.ne_nil_of_mem (ns_pos h))
theorem nodes_right(ht:BN.Deg t)(most:Nat): ∀(a lo f:Nat) (s:Sb) (out:List Nat),At R t a lo s→a<f→out.length+s.ns.length≤most→bnodes R t most f out s.h=out++s.ns:=by
 intro a
 induction a with
 |zero=>
  intro lo f s out h hf hb
  obtain⟨f,rfl⟩: ∃g,f=g+1:=⟨f-1,by omega⟩
  obtain⟨e1,e2⟩:=h.2.2.get ht
  conv=>lhs;unfold bnodes
  have hl:=ns_len h
  rw [if_neg (by rw [e2];omega),e1,show(leafOf s.its).kids= [] from rfl,List.foldl_nil,h.1]
 |succ a ih=>
  intro lo f s out h hf hb
  obtain⟨f,rfl⟩: ∃g,f=g+1:=⟨f-1,by omega⟩
  have hl:=ns_len h
  obtain⟨c,l,h1,h2,h3,h4,h5,h6⟩:=h
  obtain⟨e1,e2⟩:=h4.get ht
  conv=>lhs;unfold bnodes
  rw [h2] at hb ⊢
  rw [List.length_cons] at hb
  rw [if_neg (by rw [e2];omega),e1,show(nodeOf c l).kids=(subs c l).map (·.h) from(subs_hs c l).symm]
  rw [fold_nodes_of (P:=At R t a (t-1)) (fun o s hs ho=>ih (t-1) f s o hs (by omega) ho) (subs c l) _ (subs_all h5 h6) (by rw [subs_ns,List.length_append,List.length_singleton];omega),subs_ns]
  simp
theorem height_right(ht:BN.Deg t): ∀(a lo f:Nat) (s:Sb),At R t a lo s→a<f→bheight R t f s.h=a+1:=by
 intro a
 induction a with
 |zero=>
  intro lo f s h hf
  obtain⟨f,rfl⟩: ∃g,f=g+1:=⟨f-1,by omega⟩
  obtain⟨e1,e2⟩:=h.2.2.get ht
  conv=>lhs;unfold bheight
  rw [if_neg (by rw [e2];simp),e1,if_pos (show(leafOf s.its).kids= [] from rfl)]
 |succ a ih=>
  intro lo f s h hf
  obtain⟨f,rfl⟩: ∃g,f=g+1:=⟨f-1,by omega⟩
  obtain⟨c,l,h1,h2,h3,h4,h5,h6⟩:=h
  obtain⟨e1,e2⟩:=h4.get ht
  conv=>lhs;unfold bheight
  rw [if_neg (by rw [e2];simp),e1,if_neg (show¬(nodeOf c l).kids= [] by simp [nodeOf])]
  show bheight R t f c.h+1=_
  rw [ih (t-1) f c h5 (by omega)]
end
end Bt
theorem itV_form(o:Option (Nat × Nat)): ∃a b:Nat,itV o= .agg #[.int .u64 (a:Nat), .int .u64 (b:Nat)]:=by
 cases o with
 |none=>exact⟨0,0,rfl⟩
 |some p=>exact⟨p.1,p.2,rfl⟩
section
variable {w w' :World} {s N:Nat} {R:Nat→Option (List Nat)} {nn:Nat}
set_option maxRecDepth 100000 in
theorem btFind_at(h:Rd N w s R nn)(hsh:Short R){t:Nat}(ht:BN.Deg t)(x:Nat)(hx:x<18446744073709551616)(key:ByteArray):
 Calls Tryz.prog 7 #[.pointer (some ⟨s,0,none⟩), .int .i64 (t:Nat), .int .u64 (x:Nat), .string key] w fun e w' =>e= .returned (.tuple #[itV (bdown R t key 40 x 0).1, .bool (bdown R t key 40 x 0).1.isSome])∧Below w.heap.size w w' :=by
 have hb0:Below w.heap.size w (w.alloc (Obj.cells #[.int .u64 0, .int .u64 0] 31)):=(Below.refl _ w).alloc (Nat.le_refl _) _
 have hD:=btDown_at (h.below hb0) hsh ht x hx key
 obtain⟨a,b,hab⟩:=itV_form (bdown R t key 40 x 0).1
 rw [hab] at hD ⊢
 generalize (bdown R t key 40 x 0).1.isSome=ok at*
 generalize (bdown R t key 40 x 0).2=bel at*
 have x0:Box (w.alloc (Obj.cells #[.int .u64 0, .int .u64 0] 31)) w.heap.size 31 [.int .u64 0, .int .u64 0]:=Box.new w _ _
 obtain⟨b0,hb0e⟩: ∃b,b=w.heap.size:=⟨_,rfl⟩
 obtain⟨W0,hW0⟩: ∃W,W=w.alloc (Obj.cells #[.int .u64 0, .int .u64 0] 31):=⟨_,rfl⟩
 rw [←hW0] at hb0 hD x0
 rw [←hb0e] at x0
 have g0:w.heap.size≤b0:=by omega
 have hDH:=Lib.hid hD
 have hb0H:=Lib.hid hb0
 have x0H:=Lib.hid x0
 have hWH:=Lib.hid (And.intro hW0 hb0e)
 clear h hD hb0 x0 hW0 hb0e hab
 go_enter Tryz.func7,Tryz.ntmps7
 go_wp2_with fail
 rw [←hWH.out.1,←hWH.out.2]
 refine hDH.out.mono ?_
 rintro e w2 ⟨rfl,hb2⟩
 have y0:=Lib.hid (x0H.out.below hb2)
 have c0:=y0.out.at' (i:=0) rfl
 have c1:=y0.out.at' (i:=1) rfl
 have k0:=y0.out.free 0
 have k1:=y0.out.free 1
 have hq:=((y0.out.set 0 (.int .u64 (a:Nat))).set 1 (.int .u64 (b:Nat))).alloc (Obj.cells #[.int .u64 (a:Nat), .int .u64 (b:Nat)] 31)
 have hs:=(((hb0H.out.trans (hb2.mono hb0H.out.size)).setCell (p:=⟨b0,0,none⟩) g0 (.int .u64 (a:Nat))).setCell (p:=⟨b0,1,none⟩) g0 (.int .u64 (b:Nat)))
 have hf:=hs.alloc hs.size (Obj.cells #[.int .u64 (a:Nat), .int .u64 (b:Nat)] 31)
 have l0:=y0.out.lt
 have hqH:=Lib.hid hq
 have hfH:=Lib.hid hf
 clear hq hs hf hb2
 go_wp2
 have r0:=hqH.out.at' (i:=0) rfl
 have r1:=hqH.out.at' (i:=1) rfl
 refine bodyPost_ret (v:= .tuple #[.agg #[.int .u64 (a:Nat), .int .u64 (b:Nat)], .bool ok]) (by simp [results,Tryz.f7,go_sem,r0,r1]) rfl ⟨rfl,hfH.out⟩
set_option maxRecDepth 100000 in
theorem btRank_at(h:Rd N w s R nn)(hsh:Short R){t:Nat}(ht:BN.Deg t)(x:Nat)(hx:x<18446744073709551616)(key:ByteArray):
 Calls Tryz.prog 12 #[.pointer (some ⟨s,0,none⟩), .int .i64 (t:Nat), .int .u64 (x:Nat), .string key] w fun e w' =>e= .returned (.int .i64 (bdown R t key 40 x 0).2)∧Below w.heap.size w w' :=by
 have hD:=Lib.hid (btDown_at h hsh ht x hx key)
 obtain⟨a,b,hab⟩:=itV_form (bdown R t key 40 x 0).1
 rw [hab] at hD
 generalize (bdown R t key 40 x 0).1.isSome=ok at*
 generalize (bdown R t key 40 x 0).2=bel at*
 clear h hab
 go_enter Tryz.func12,Tryz.ntmps12
 go_wp2_with fail
 refine hD.out.mono ?_
 rintro e w2 ⟨rfl,hb2⟩
 have hf:=Lib.hid (hb2.alloc hb2.size (Obj.cells #[.int .u64 (a:Nat), .int .u64 (b:Nat)] 31))
 clear hb2
 go_wp2
 go_ret
 exact⟨rfl,hf.out⟩
set_option maxRecDepth 100000 in
theorem btSz_at(h:Rd N w s R nn)(t:Nat)(ht:BN.Deg t)(x:Nat)(hx:x<18446744073709551616):
 Calls Tryz.prog 11 #[.pointer (some ⟨s,0,none⟩), .int .i64 (t:Nat), .int .u64 (x:Nat)] w fun e w' =>e= .returned (.int .i64 (bszR R t x))∧Below w.heap.size w w' :=by
 have hD:=Lib.hid (btSize_at h t ht x hx)
 generalize bszR R t x=z at*
 clear h
 go_enter Tryz.func11,Tryz.ntmps11
 go_wp2_with fail
 refine hD.out.mono ?_
 rintro e w2 ⟨rfl,hb2⟩
 have hf:=Lib.hid hb2
 clear hb2
 go_wp2
 go_ret
 exact⟨rfl,hf.out⟩
def mostN(nn t:Nat):Nat:=nn/(6*t)+1
set_option maxRecDepth 100000 in
theorem btMost_at(h:Rd N w s R nn)(t:Nat)(ht:BN.Deg t):
 Calls Tryz.prog 38 #[.agg #[.pointer (some ⟨s,0,none⟩), .int .i64 (t:Nat)]] w fun e w' =>e= .returned (.int .i64 (mostN nn t:Nat))∧Below w.heap.size w w' :=by
 have hmo:Tryz.prog.follows .mixedOrders=true:=by kernel_rfl
 obtain⟨t1,t2⟩:=ht
 have hn:=h.le
 have hb1:Below w.heap.size w (w.alloc (Obj.cells #[.pointer (some ⟨s,0,none⟩), .int .i64 (t:Nat)] 74)):=(Below.refl _ w).alloc (Nat.le_refl _) _
 have x1:Box (w.alloc (Obj.cells #[.pointer (some ⟨s,0,none⟩), .int .i64 (t:Nat)] 74)) w.heap.size 74 [.pointer (some ⟨s,0,none⟩), .int .i64 (t:Nat)]:=Box.new w _ _
 obtain⟨W0,hW0⟩: ∃W,W=w.alloc (Obj.cells #[.pointer (some ⟨s,0,none⟩), .int .i64 (t:Nat)] 74):=⟨_,rfl⟩
 rw [←hW0] at hb1 x1
 have hW0H:=Lib.hid hW0
 clear hW0
 have hW:=Lib.hid (fun W (hb:Below w.heap.size w W)=>rwords_at (h.below hb))
 have hT:=Lib.hid (fun W=>bnWords_yes ⟨t1,t2⟩ W)
 obtain⟨m,hm⟩: ∃m,m=nn/(6*t):=⟨_,rfl⟩
 have hq:Hid (mostN nn t=m+1):=Lib.hid (by rw [hm];rfl)
 have hm2:m≤262144:=by rw [hm];exact Nat.le_trans (Nat.div_le_self _ _) hn
 obtain⟨d,hd⟩: ∃d,d=6*t:=⟨_,rfl⟩
 have hd1:12≤d:=by omega
 have hdv:((nn:Int)/(d:Int))=(m:Int):=by rw [hm,←hd];rfl
 have hTd:Hid (∀W,Calls Tryz.prog 55 #[.int .i64 (t:Nat)] W fun e w' =>e= .returned (.int .i64 (d:Nat))∧W=w'):=Lib.hid (by rw [hd];exact hT.out)
 have hd0: ¬d=0:=by omega
 have hw1:IntKind.i64.wrap (m:Int)=(m:Int):=by rw [IntKind.wrap_i64];omega
 have hw2:IntKind.i64.wrap ((m:Int)+1)=(m:Int)+1:=by rw [IntKind.wrap_i64];omega
 have c0:=fun X:Exw (fun _=>False) W0=>X.cell (x1.at' (i:=0) rfl) (fun h=>h)
 have c1:=fun X:Exw (fun _=>False) W0=>X.cell (x1.at' (i:=1) rfl) (fun h=>h)
 have hb1H:=Lib.hid hb1
 rw [hq.out]
 clear h hb1 x1 hT hm hd hq
 go_enter Tryz.func38,Tryz.ntmps38
 go_wp2
 rw [←hW0H.out]
 refine wp_region_steps (fun w' => ∃X:Exw (fun _=>False) W0,w' =X.W) [.r 0, .r 1, .r 3, .r 4, .a 2, .a 5, .r 6, .r 7, .r 8] hmo (by kernel_rfl) rfl (by kernel_rfl) (exw_start _ _) (fun _ _ d _ _ h=>by cases d<;>exact h) ?_
 iterate 4 (refine wpSteps_r _ _ rfl rfl (by rintro _ ⟨X,rfl⟩;go_simp;exact rfl) ?_;go_simp)
 clear c0 c1
 have hbd:=Lib.hid (hb1H.out.trans ((below_drawn W0).mono hb1H.out.size))
 refine wpSteps_a _ rfl (fun K1 hK1=> ?_)
 go_wp2_with fail
 refine(hW.out _ hbd.out).mono ?_
 rintro e w2 ⟨rfl,hb2⟩
 have hb3:=Lib.hid (hbd.out.trans (hb2.mono hbd.out.size))
 have hb4:=Lib.hid ((below_drawn W0).trans hb2)
 clear hb2
 go_wp2
 refine hK1 _ _ (exw_below hb4.out) ?_
 clear hK1 K1
 refine wpSteps_a _ rfl (fun K2 hK2=> ?_)
 go_wp2_with fail
 refine(hTd.out _).mono ?_
 rintro e w3 ⟨rfl,rfl⟩
 go_wp2
 refine hK2 _ _ (exw_below hb4.out) ?_
 clear hK2 K2
 iterate 3 (refine wpSteps_r _ _ rfl rfl (by rintro _ ⟨X,rfl⟩;go_simp;exact rfl) ?_;go_simp)
 refine wpSteps_nil ?_
 go_wp2
 go_ret
 exact⟨by rw [Int.natCast_add];rfl,hb3.out⟩
end
attribute [local go_sem] Oper.semAt_some wide_fn
theorem Tryz.under_ints:Tryz.prog.underlying 112=some (.slice 3):=by kernel_rfl
theorem Tryz.info_int:(Tryz.prog.info? 3).map (fun i=>(i.zero,i.size,i.bytes))=some (some (.int .i64 0),1,8):=by kernel_rfl
def rowsOf(l:List (Nat × Nat)):List Value:=l.map fun b=> .int .i64 (b.1:Nat)
def OutE(B:Nat)(W:World)(k:Nat):Prop:=k=B∨ ∃m c,W.cell? ⟨B,0,none⟩=some (.slice (some ⟨k,0,none⟩) m c)
theorem outE_below{B:Nat}{X Y:World}(hB:B<X.heap.size)(hb:Below X.heap.size X Y)(k:Nat)(h:OutE B Y k):OutE B X k:=by
 rcases h with h|⟨m,c,h⟩
 · exact .inl h
 · exact .inr ⟨m,c,(hb.cell (p:=⟨B,0,none⟩) hB).symm.trans h⟩
theorem outE_put{B:Nat}{W:World}{l:Nat}(o' :Obj)(hl:B≠l)(k:Nat)(h:OutE B (W.putObj l o') k):OutE B W k:=by
 rcases h with h|⟨m,c,h⟩
 · exact .inl h
 · refine .inr ⟨m,c,(World.cell?_of_block (a:=⟨B,0,none⟩) ?_).symm.trans h⟩
   exact World.putObj_heap_other hl
def LiveI(w:World)(l:List (Nat × Nat))(W:World):Prop:= ∃v,Boxed W w.heap.size 112 v∧W.ownsRow w.heap.size 3 1 v l.length (rowsOf l)∧Below w.heap.size w W
theorem LiveI.below{w X Y:World}{l:List (Nat × Nat)}(h:LiveI w l X)(hb:Below X.heap.size X Y):LiveI w l Y:=by
 obtain⟨v,h1,h2,h3⟩:=h
 exact⟨v,(hb.block _ h1.lt).trans h1,ownsRow_kb (Cs:=fun _=>False) h2 (KB.below hb) (fun _ h=>h.elim),h3.trans (hb.mono h3.size)⟩
theorem liveI_own{β:Type}(w:World)(f:β→List (Nat × Nat))(n:Nat)(hn:w.heap.size≤n):OwnFrom n (fun s W=>LiveI w (f s) W):=fun s X Y row hs hg hr=>by
 obtain⟨v,h1,h2,h3⟩:=hs
 obtain⟨v',a,b,_⟩:=holdsRow_own w.heap.size w.heap.size 112 3 1 (fun s=>(f s).length) (fun s=>rowsOf (f s)) (fun _ _=>True) s X Y row ⟨v,h1,h2,trivial⟩ hg (fun r e=>(hr r e).2)
 exact⟨v',a,b,ownFrom_below (β:=β) (Nat.le_refl _) hn s X Y row h3 hg hr⟩
structure BoxOff(W:World)(B3 B:Nat):Prop where
 ne:B≠B3
 off: ∃u,W.cell? ⟨B3,0,none⟩=some u∧u.ownBlock≠some B
theorem live_append{w W w1:World}{l l' :List (Nat × Nat)}{v v' :Value}{tmp:Obj}(hv:Boxed W w.heap.size 112 v)(hrow:W.ownsRow w.heap.size 3 1 v l.length (rowsOf l))(hb:Below w.heap.size w W)
 (hown' :w1.ownsRow w.heap.size 3 1 v' l'.length (rowsOf l')) (hgrow:(W.alloc tmp).grownBy w1 v.ownBlock) (hblk:v'.ownBlock=v.ownBlock∨v'.ownBlock=some (W.alloc tmp).heap.size):
 Boxed w1 w.heap.size 112 v∧LiveI w l' (w1.setCell ⟨w.heap.size,0,none⟩ v')∧KE (OutE w.heap.size) W (w1.setCell ⟨w.heap.size,0,none⟩ v')∧KeepsOthers W (w1.setCell ⟨w.heap.size,0,none⟩ v')∧ ∀B,B<W.heap.size→BoxOff W w.heap.size B→BoxOff (w1.setCell ⟨w.heap.size,0,none⟩ v') w.heap.size B:=by
 obtain⟨a1,a2,a3,a4,a5⟩:=hv.appended (by decide) hrow hb.size (Nat.le_refl _) hown' hgrow
 refine⟨a1,⟨v',a2,a3,hb.trans a5⟩,⟨⟨a4.size,fun k o hk ho hn=> ?_⟩,fun k hk=> ?_⟩,a4,fun B hB ho=>⟨ho.ne,v',a2.cell,fun e=> ?_⟩⟩
 · have hkw:k<W.heap.size:=(Array.getElem?_eq_some_iff.1 hk).1
   have h1:k≠w.heap.size:=fun e=>hn (.inl e)
   have h2:some k≠v.ownBlock:=fun e=>by
    refine hn (.inr ?_)
    rcases hrow.2 with ⟨rfl,_⟩|⟨g,cap,cur,rfl,_,_,_⟩
    · simp [Value.ownBlock] at e
    · have:k=g:=by simpa [Value.ownBlock] using e
      subst this
      exact⟨_,_,hv.cell⟩
   rw [Below.heap_setCell _ _ _ k h1]
   exact(hgrow.block k (by simp;omega) h2).trans ((Below.heap_alloc W tmp k hkw).trans hk)
 · rcases hk with rfl|⟨m,c,hc⟩
   · exact .inl (.inl rfl)
   · rw [a2.cell] at hc
     simp only [Option.some.injEq] at hc
     subst hc
     have hob:(Value.slice (some ⟨k,0,none⟩) m c).ownBlock=some k:=by simp [Value.ownBlock]
     rw [hob] at hblk
     rcases hblk with h1|h1
     · rcases hrow.2 with ⟨rfl,_⟩|⟨g,cap,cur,rfl,_,_,_⟩
       · simp [Value.ownBlock] at h1
       · have:k=g:=by simpa [Value.ownBlock] using h1
         subst this
         exact .inl (.inr ⟨_,_,hv.cell⟩)
     · have:k=(W.alloc tmp).heap.size:=by simpa using h1
       exact .inr (by rw [this];simp)
 · obtain⟨u,h2,h3⟩:=ho.off
   rw [hv.cell] at h2
   simp only [Option.some.injEq] at h2
   subst h2
   rcases hblk with h1|h1
   · rw [h1] at e;exact h3 e
   · rw [h1] at e
     have:W.heap.size+1=B:=by simpa using e
     omega
theorem BoxOff.not{W:World}{B3 B:Nat}(h:BoxOff W B3 B): ¬OutE B3 W B:=by
 rintro(h1|⟨m,c,h1⟩)
 · exact h.ne h1
 · obtain⟨u,h2,h3⟩:=h.off
   rw [h1] at h2
   simp only [Option.some.injEq] at h2
   subst h2
   exact h3 (by simp [Value.ownBlock])
theorem BoxOff.kept{W W' :World}{B3 B:Nat}{row:Option Nat}(h:BoxOff W B3 B)(hg:W.grownBy W' row)(hr: ∀r,row=some r→ ∃o:Obj,W.heap[r]? =some o∧o.isCells=false):BoxOff W' B3 B:=by
 obtain⟨u,h2,h3⟩:=h.off
 exact⟨h.ne,u,cell_kept h2 hg hr,h3⟩
theorem BoxOff.below{W W' :World}{B3 B:Nat}(h:BoxOff W B3 B)(hb:Below W.heap.size W W'):BoxOff W' B3 B:=
 h.kept (row:=none) ⟨hb.os,hb.tape,hb.output,hb.size,fun k hk _=>hb.block k hk⟩ (fun r e=>by cases e)
theorem HdBox.below{W W' :World}{B:Nat}{h:Hd}(hx:HdBox W B h)(hb:Below W.heap.size W W'):HdBox W' B h:=
 hx.kept (row:=none) ⟨hb.os,hb.tape,hb.output,hb.size,fun k hk _=>hb.block k hk⟩ (fun r e=>by cases e)
theorem HdBox.ke{W W' :World}{B B3:Nat}{h:Hd}(hx:HdBox W B h)(hk:KE (OutE B3) W W')(ho:BoxOff W B3 B):HdBox W' B h:=
 ⟨hk.kb.cell hx.k ho.not,hk.kb.cell hx.n ho.not,hk.kb.cell hx.w ho.not⟩
theorem live_off{w W:World}{l:List (Nat × Nat)}(h:LiveI w l W){o:Obj}:BoxOff (W.alloc o) w.heap.size W.heap.size:=by
 obtain⟨v,h1,h2,h3⟩:=h
 refine⟨by have:=h1.lt;omega,v,(h1.alloc o).cell,fun e=> ?_⟩
 rcases h2.2 with ⟨rfl,_⟩|⟨g,cap,cur,rfl,_,hg,_⟩
 · simp [Value.ownBlock] at e
 · have:g=W.heap.size:=by simpa [Value.ownBlock] using e
   have:=(Array.getElem?_eq_some_iff.1 hg).1
   omega
def slotBlocks(p c m k:Nat):List (Nat × Nat):=((List.range k).filter fun j=>m.testBit j).map fun j=>(64*p+2+j*sz c,sz c)
theorem slotBlocks_succ(p c m k:Nat):slotBlocks p c m (k+1)=if m.testBit k=true then slotBlocks p c m k++ [(64*p+2+k*sz c,sz c)] else slotBlocks p c m k:=by
 unfold slotBlocks
 rw [List.range_succ,List.filter_append,List.map_append]
 by_cases h:m.testBit k=true
 · rw [if_pos h];simp [h]
 · rw [if_neg h];simp [h]
theorem slotBlocks_len(p c m k:Nat):(slotBlocks p c m k).length≤k:=by
 unfold slotBlocks
 rw [List.length_map]
 exact Nat.le_trans (List.length_filter_le _ _) (by simp)
theorem slotBlocks_all(p c m:Nat):slotBlocks p c m (slotsN c)=blocksOf (p, .small c m):=rfl
theorem blocksOf_len(x:Nat × Hd):(blocksOf x).length≤31:=by
 obtain⟨p,h⟩:=x
 cases h with
 |small c m=>exact Nat.le_trans (slotBlocks_len p c m (slotsN c)) (slots_small c)
 |large w=>simp [blocksOf]
theorem blocks_len(L:HL):(blocks L).length≤31*L.length:=by
 induction L with
 |nil=>simp [blocks]
 |cons x t ih=>
  have h:=blocksOf_len x
  simp only [blocks,List.flatMap_cons,List.length_append,List.length_cons] at*
  omega
theorem heads_len{L:HL}:L.length≤(runs L).length:=by
 induction L with
 |nil=>simp
 |cons x t ih=>
  have:=x.2.len_pos
  simp only [runs,List.flatMap_cons,List.length_append,List.length_range',List.length_cons] at*
  omega
theorem rowsOf_snoc(l:List (Nat × Nat))(b:Nat × Nat):rowsOf l++ [.int .i64 (b.1:Nat)]=rowsOf (l++ [b]):=by simp [rowsOf]
theorem rows_large(l:List (Nat × Nat))(p ww:Nat):rowsOf l++ [.int .i64 ((p:Int)*64+2)]=rowsOf (l++ [(64*p+2,ww)]):=by
 rw [←rowsOf_snoc]
 have:(p:Int)*64+2=((64*p+2:Nat):Int):=by push_cast;omega
 rw [this]
theorem rows_small(l:List (Nat × Nat))(A s:Nat):rowsOf l++ [.int .i64 (A:Int)]=rowsOf (l++ [(A,s)]):=rowsOf_snoc l (A,s)
set_option maxRecDepth 100000 in
theorem live_is{w:World}{ha a q:Nat}{F:Nat→Prop}{L:HL}{mem:Nat→Nat}(h:HeapIs w ha a F L q mem):
 Calls Tryz.prog 51 #[.pointer (some ⟨ha,0,none⟩)] w fun e w' => ∃v,e= .returned v∧w'.ownsRow w.heap.size 3 1 v (blocks L).length (rowsOf (blocks L))∧Below w.heap.size w w' :=by
 obtain⟨i0,hi,hz0,hz1,hz2⟩:=info_parts Tryz.info_int
 obtain⟨⟨mb,D,k1,rfl⟩,k3,k4⟩:=h
 refine(callsIn_wide (n:=9)).1 ?_
 have hN:=Lib.hid ((callsIn_wide (n:=8)).2 (heapNone_at k1))
 have hHd:=Lib.hid (fun w=>(callsIn_wide (n:=8)).2 (heads_calls ha w))
 have HH:=Lib.hid k1
 have Hl:=Lib.hid k3
 have Hh:=Lib.hid k4
 have hLlen:L.length≤4096:=by have h1:=k1.sl.room;have h2:=k1.sl.quota;rw [k1.sl.count] at h1;have:=heads_len (L:=L);omega
 clear k1 k3 k4
 refine callsIn_of_wp_marks Tryz.func51 rfl trivial ?_ rfl
 simp only [Tryz.ntmps51,List.size_toArray,List.length_cons,List.length_nil,Nat.reduceAdd,Nat.reduceSub,Array.replicate_succ,Array.replicate_zero,List.push_toArray,List.append_toArray,List.nil_append,List.cons_append]
 gi_wp2_with fail
 refine hN.out.mono ?_
 rintro e w' ⟨rfl,rfl⟩
 gi_wp2_with fail
 refine(hHd.out _).mono ?_
 rintro e w2 ⟨rfl,hW2⟩
 have hsz1:(w.alloc (Obj.cells #[Value.slice none 0 0] 112)).heap.size=w.heap.size+1:=by simp
 rw [hsz1]
 have hbx:Boxed w2 w.heap.size 112 (.slice none 0 0):=by rw [hW2];exact(Boxed.new w _ _).alloc _
 have hx2:w2.cell? ⟨w.heap.size+1,0,none⟩=some (.pointer (some ⟨ha,0,none⟩)):=by rw [hW2];go_simp
 have hb2w:Below w.heap.size w w2:=by rw [hW2];exact((Below.refl _ w).alloc (Nat.le_refl _) _).alloc (by simp) _
 have hz2' :w.heap.size+2≤w2.heap.size:=by rw [hW2];simp
 clear hW2 hN hsz1
 gi_wp2_with fail
 have HH2:=Lib.hid (HH.out.below hb2w)
 have hofn: ∀k,OutE w.heap.size w2 k→k=w.heap.size:=fun k hk=>by
  rcases hk with h|⟨m,c,h⟩
  · exact h
  · rw [hbx.cell] at h;cases h
 have hE0:EOk (OutE w.heap.size) w2.heap.size a mb ha (w.heap.size+1) D none w2:=⟨Nat.le_refl _,fun k hk=>by
  have hk2:=hofn k hk
  subst hk2
  refine⟨fun hf=> ?_, ?_, ?_,by omega,fun r hr=>by cases hr⟩
  · exact Nat.lt_irrefl _ (HH.out.sl.lt hf)
  · have:=cell_lt HH.out.hs;simp only at this;omega
  · have h2:=HH.out.tabF a (.inl rfl);have h3:=HH.out.sl.lt (.inl rfl);omega⟩
 refine wpIn_rangeFunc_ownH (α:={z:Nat × Hd // z∈L}) rfl (by omega) (gf:=106) (lb:= #[.pointer (some ⟨w.heap.size+1,0,none⟩)]) rfl trivial (enters_of Tryz.func106 (by kernel_rfl) rfl)
  (heads_stopsE HH2.out Hl.out Hh.out hx2 (OutE w.heap.size) (fun X Y hX hb k hk=>outE_below (by omega) hb k hk) hE0 (fun k hk=>by have:=hofn k hk;omega))
  (fun h k=>h.trans k) (fun W l o o' hl' hl h1 h2=>⟨KB.putObj o' hl h1 h2,fun k hk=> .inl (outE_put o' (by omega) k hk)⟩) (Below.refl _ _) (fun _=>rfl)
  (fun pre W=>LiveI w (blocks (pre.map (fun(z:{z:Nat × Hd // z∈L})=>z.1))) W)
  (fun cd pre W=>False)
  (liveI_own w (fun pre:List {z:Nat × Hd // z∈L}=>blocks (pre.map (fun(z:{z:Nat × Hd // z∈L})=>z.1))) _ (by omega))
  (fun _ _ _ _ _ hs _ _=>hs)
  ⟨_,hbx,World.ownsRow_nil _ _ _ _,hb2w⟩
  (fun x a' W=> ∃B,HdBox W B x.1.2∧BoxOff W w.heap.size B∧a' ={ tmps:= #[Value.pointer (some { block:=ha,off:=0 }),undef,Value.slice none 0 0,Value.pointer (some { block:=w.heap.size,off:=0 }),Value.int IntKind.i64 (x.1.1:Nat),Value.pointer (some { block:=B,off:=0 }),undef,undef,undef,Value.pointer (some { block:=ha,off:=0 }),Value.bool false,Value.pointer (some { block:=ha,off:=0 }),Value.func (Fn.func 106) #[] #[Value.pointer (some { block:=w.heap.size+1,off:=0 })],Value.int IntKind.i64 (x.1.1:Nat),hdV x.1.2,undef,undef,undef,undef,undef,undef,undef,undef,undef,undef,undef,undef,undef,undef,undef,undef,undef,undef,undef,undef,undef,undef,undef,undef,undef,undef,undef,undef,undef,undef,undef,undef,undef],defers:= [] })
  (fun x a' s A B row hs hg hr=>by
   obtain⟨B',h2,h4,h3⟩:=hs
   exact⟨B',h2.kept hg (fun r e=>(hr r e).2),h4.kept hg (fun r e=>(hr r e).2),h3⟩)
  ?assign ?body ?done ?stop
 case assign=>
  rintro l pre ⟨⟨p,hd⟩,hxm⟩ W K hi hK
  dsimp only at hK ⊢
  have hb:Below W.heap.size W (W.alloc (Obj.cells #[Value.int IntKind.i64 (hdK hd:Nat),Value.int IntKind.i64 (hdN hd:Nat),Value.int IntKind.u64 (hdW hd:Nat)] 154)):=(Below.refl _ W).alloc (Nat.le_refl _) _
  have hwW:w.heap.size<W.heap.size:=by obtain⟨v,h1,_⟩:=hi;exact h1.lt
  have hK2:=hK _ (W.alloc (Obj.cells #[Value.int IntKind.i64 (hdK hd:Nat),Value.int IntKind.i64 (hdN hd:Nat),Value.int IntKind.u64 (hdW hd:Nat)] 154)) ((keepsOthers_below hb).from _) (KE.below hb (fun k hk=>outE_below hwW hb k hk)) (hi.below hb) ⟨W.heap.size,hdBox_new _ _ _,live_off hi,rfl⟩
  have hK2H:=Lib.hid hK2
  clear hK hK2 hb hi
  rw [hdV_eq] at hK2H ⊢
  gi_wp2
  exact hK2H.out
 case body=>
  rintro l pre ⟨⟨p,hd⟩,hxm⟩ a' W hl ⟨r,hr⟩ hi ⟨B,hbx,hoff,rfl⟩ hlen
  dsimp only at hbx ⊢
  have hok:=Hl.out.ok _ hxm
  have hxp:p∈runs L:=mem_runs.2 ⟨(p,hd),hxm,Nat.le_refl _,by have:=hd.len_pos;simp only;omega⟩
  have hplow:=HH.out.sl.low _ hxp
  have hk:=hbx.k
  have hn:=hbx.n
  have hw:=hbx.w
  have hnext:Hid (blocks ((pre++ [(⟨(p,hd),hxm⟩:{z:Nat × Hd // z∈L})]).map (fun(z:{z:Nat × Hd // z∈L})=>z.1))=blocks (pre.map (fun(z:{z:Nat × Hd // z∈L})=>z.1))++blocksOf (p,hd)):=Lib.hid (by
   rw [List.map_append,blocks,blocks,List.flatMap_append];simp)
  have hpl:(blocks (pre.map (fun(z:{z:Nat × Hd // z∈L})=>z.1))).length≤31*4096:=by
   have:=blocks_len (pre.map (fun(z:{z:Nat × Hd // z∈L})=>z.1))
   rw [List.length_map] at this
   omega
  generalize blocks (pre.map (fun(z:{z:Nat × Hd // z∈L})=>z.1))=told at*
  clear hxp
  cases hd with
  |large ww=>
   simp only [hdK,hdN,hdW] at hk hn hw ⊢
   have d0:((2:Int)==2)=true:=by decide
   obtain⟨v,hv,hrow,hb⟩:=hi
   have hc:=hv.cell
   have hbH:=Lib.hid hb
   have hrowH:=Lib.hid hrow
   have hvH:=Lib.hid hv
   clear hok hb hrow hv
   have hz:w.heap.size≤W.heap.size:=hbH.out.size
   gi_wp2_with (gi_at_builtin;refine wpListIn_append_own_at _ rfl _ _ 112 rfl w.heap.size 3 i0 (.int .i64 0) 1 8 Tryz.under_ints hi hz0 hz1 hz2 rfl (by decide) _ _ _ rfl (hrowH.out.alloc _) ⟨W.heap.size,0,none⟩ 1 1 [.int .i64 ((p:Int)*64+2)] rfl rfl (cell_one_new _ _ _) (by simp [Value.oneCell']) (by unfold maxLen;omega) (by omega) (by simp;omega) ?_;intro v' w1 hown' hgrow _ hblk;rw [rows_large told p ww] at hown';obtain⟨g',cap',rfl⟩:=ownsRow_succ hown';obtain⟨b1,b2,b3,b4,b5⟩:=live_append (l' :=told++ [(64*p+2,ww)]) hvH.out hrowH.out hbH.out (by simpa using hown') hgrow hblk;have hc1:=b1.cell;have hf1:=b1.frozen)
   exact⟨b4.from _,b3,by show LiveI w _ _;rw [hnext.out];exact b2⟩
  |small cc m=>
   obtain⟨hc8,hm0,hmS⟩:=hok
   have hm64:Hid (m<18446744073709551616):=Lib.hid (Nat.lt_trans hmS (pow_lt64 (by have:=slots_small cc;omega)))
   have hs31:=slots_small cc
   have hsl:slotsR ((cc:Nat):Int)= .tuple #[.int .i64 (slotsN cc:Nat), .int .i64 0]:=if_pos ⟨by omega,by omega⟩
   have hS:=Lib.hid (fun w=>CallsIn.inRound l ((callsIn_wide (n:=6)).2 (slots_any (cc:Nat) w)))
   simp only [hdK,hdN,hdW] at hk hn hw ⊢
   have d0:((1:Int)==2)=false:=by decide
   have hBW:B<W.heap.size:=cell_lt hk
   have hiH:=Lib.hid hi
   clear hm0 hmS hi
   gi_wp2_with fail
   refine(hS.out _).mono ?_
   rintro e W' ⟨rfl,hbS⟩
   rw [hsl]
   have hbx4:HdBox W' B (.small cc m):=⟨(hbS.cell (p:=⟨B,0,none⟩) hBW).trans hk,(hbS.cell (p:=⟨B,1,none⟩) hBW).trans hn,(hbS.cell (p:=⟨B,2,none⟩) hBW).trans hw⟩
   have hwW:w.heap.size<W.heap.size:=by obtain⟨v,h1,_⟩:=hiH.out;exact h1.lt
   have hi4:=Lib.hid (hiH.out.below hbS)
   have hk4:=Lib.hid ((keepsOthers_below hbS).from w2.heap.size)
   have hke4:=Lib.hid (KE.below hbS (fun k hk=>outE_below hwW hbS k hk))
   have hz4:=hbS.size
   have hoff4:=Lib.hid (hoff.below hbS)
   clear hbS hk hn hw d0
   gi_wp2_with fail
   generalize hsn:slotsN cc=sn at*
   have hsnH:=Lib.hid hsn
   clear hsn
   gi_loopw [31] (fun kv wr=> ∃k:Nat,k≤sn∧kv= .int .i64 k∧Hid (HdBox wr B (.small cc m))∧Hid (BoxOff wr w.heap.size B)∧Hid (LiveI w (told++slotBlocks p cc m k) wr)∧Hid (KE (OutE w.heap.size) W' wr)∧Hid (KeepsOthers W' wr)) (fun kv _=>sn-(intOf kv).toNat)
   case atStart=>exact⟨0,by omega,rfl,Lib.hid hbx4,hoff4,by simpa [slotBlocks] using hi4,Lib.hid (KE.below (Below.refl _ _) (fun _ h=>h)),Lib.hid (KeepsOthers.refl _)⟩
   case round=>
    obtain⟨k,hkk,rfl,hbr,hor,hir,hker,hkr⟩:=hrel
    have hbk:=hbr.out.k
    have hbn:=hbr.out.n
    have hbm:=hbr.out.w
    simp only [hdK,hdN,hdW] at hbk hbn hbm
    have hHas:=Lib.hid (fun w=>CallsIn.inRound l ((callsIn_wide (n:=6)).2 (has_at m k hm64.out (by omega) w)))
    by_cases hlt:k<sn
    · have hss:=Lib.hid (slotBlocks_succ p cc m k)
      by_cases hmk:m.testBit k=true
      · have hPl:=Lib.hid (fun w=>CallsIn.inRound l ((callsIn_wide (n:=6)).2 (hplace_at p cc k hplow hc8 (by rw [hsnH.out];omega) w)))
        have hmkH:=Lib.hid hmk
        have d5:=hmk
        have hmo:Tryz.prog.follows .mixedOrders=true:=by kernel_rfl
        obtain⟨v,hv,hrow,hb⟩:=hir.out
        have hc:=hv.cell
        have hlen5:(told++slotBlocks p cc m k).length≤31*4096+31:=by
         rw [List.length_append];have:=slotBlocks_len p cc m k;have:=hsnH.out;omega
        have hvH:=Lib.hid hv
        have hrowH:=Lib.hid hrow
        have hbH:=Lib.hid hb
        clear hv hrow hb hmk
        have hz5:w.heap.size≤wr.heap.size:=hbH.out.size
        generalize hA:64*p+2+k*sz cc=A at*
        have hAH:=Lib.hid hA
        clear hA
        have hnx:=Lib.hid (show told++slotBlocks p cc m (k+1)=(told++slotBlocks p cc m k)++ [(A,sz cc)] by rw [hss.out,if_pos hmkH.out,List.append_assoc])
        generalize hls:told++slotBlocks p cc m k=ls at*
        have hlsH:=Lib.hid hls
        clear hls
        gi_wp2_with (gi_at_call 79;refine(hHas.out _).mono ?_;rintro e W5 ⟨rfl,rfl⟩)
        have hcX: ∀X:Bel wr,X.W.cell? ⟨w.heap.size,0,none⟩=some v:=fun X=>X.cell hc
        have hbnX: ∀X:Bel wr,X.W.cell? ⟨B,1,none⟩=some (.int .i64 (cc:Nat)):=fun X=>X.cell hbn
        refine wpIn_region_float (fun w' => ∃X:Bel wr,w' =X.W) 5 2 7 hmo (by kernel_rfl) (by kernel_rfl) (by kernel_rfl) (by kernel_rfl) (by decide) rfl (by kernel_rfl) ⟨⟨_,below_drawn wr⟩,rfl⟩ (fun _ _ _ _ h=>h) ?_
        simp only [List.take_succ_cons,List.take_zero,List.drop_succ_cons,List.drop_zero]
        refine wpPureC_step v rfl (by rintro _ ⟨X,rfl⟩;have:=hcX X;go_simp) (fun _=>rfl) ?_
        go_simp
        refine wpPureC_step (.int .i64 (p:Nat)) rfl (by rintro _ ⟨X,rfl⟩;go_simp) (fun _=>rfl) ?_
        go_simp
        refine wpPureC_step (.pointer (some ⟨B,1,none⟩)) rfl (by rintro _ ⟨X,rfl⟩;go_simp) (fun _=>rfl) ?_
        go_simp
        refine wpPureC_step (.int .i64 (cc:Nat)) rfl (by rintro _ ⟨X,rfl⟩;have:=hbnX X;go_simp) (fun _=>rfl) ?_
        go_simp
        refine wpPureC_step (.int .i64 (k:Nat)) rfl (by rintro _ ⟨X,rfl⟩;go_simp) (fun _=>rfl) ?_
        go_simp
        refine wpPureC_nil ?_
        refine wpChainC_step (fun K5 hK5=> ?_)
        gi_wp2_with (gi_at_call 80;refine(hPl.out _).mono ?_;rintro e W5 ⟨rfl,hb5⟩)
        have hb5' :Below wr.heap.size wr W5:=(below_drawn wr).trans hb5
        have hc5:W5.cell? ⟨w.heap.size,0,none⟩=some v:=(hb5'.cell (p:=⟨w.heap.size,0,none⟩) (cell_lt hc)).trans hc
        obtain⟨v5,hv5,hrow5,hbw5⟩:=hir.out.below hb5'
        obtain rfl:v5=v:=by have h1:=hv5.cell;rw [hc5] at h1;simpa using h1.symm
        have hf5:=hv5.frozen
        have hv5H:=Lib.hid hv5
        have hrow5H:=Lib.hid hrow5
        have hbw5H:=Lib.hid hbw5
        have hbH5:=Lib.hid hb5'
        have hz6:wr.heap.size≤W5.heap.size:=hb5'.size
        have hoff5:=hor.out.below hb5'
        have hoff5H:=Lib.hid hoff5
        have hc0:=Lib.hid hc
        clear hv5 hrow5 hbw5 hb5 hb5' hc hbn hbk hbm hcX hbnX hoff5
        have hwr:w.heap.size<wr.heap.size:=cell_lt hc0.out
        have hBr:B<wr.heap.size:=cell_lt hbr.out.k
        refine hK5 _ _ ⟨⟨W5,hbH5.out⟩,rfl⟩ ?_
        clear hK5 K5
        refine wpChainC_step (fun K6 hK6=> ?_)
        gi_wp2
        refine hK6 _ _ ⟨⟨_,hbH5.out.alloc hz6 _⟩,rfl⟩ ?_
        clear hK6 K6
        refine wpChainC_zero ?_
        have hz7:w.heap.size≤W5.heap.size:=by omega
        gi_wp2_with (gi_at_builtin;refine wpListIn_append_own_at _ rfl _ _ 112 rfl w.heap.size 3 i0 (.int .i64 0) 1 8 Tryz.under_ints hi hz0 hz1 hz2 rfl (by decide) _ _ _ rfl (hrow5H.out.alloc _) ⟨W5.heap.size,0,none⟩ 1 1 [.int .i64 (A:Int)] rfl rfl (cell_one_new _ _ _) (by simp [Value.oneCell']) (by unfold maxLen;omega) (by omega) (by simp;omega) ?_;intro v' w1 hown' hgrow _ hblk;rw [rows_small _ A (sz cc)] at hown';obtain⟨g',cap',rfl⟩:=ownsRow_succ hown';obtain⟨b1,b2,b3,b4,b5⟩:=live_append (l' :=ls++ [(A,sz cc)]) hv5H.out hrow5H.out hbw5H.out (by simpa using hown') hgrow hblk;have hc1:=b1.cell;have hf1:=b1.frozen)
        have hkeH:=Lib.hid (KE.below hbH5.out (fun k hk=>outE_below hwr hbH5.out k hk))
        go_roundw
        case rel=>
         refine⟨k+1,by omega,by go_num,Lib.hid ((hbr.out.below hbH5.out).ke b3 hoff5H.out),Lib.hid (b5 B (by omega) hoff5H.out), ?_,Lib.hid (hker.out.trans (hkeH.out.trans b3)),Lib.hid (hkr.out.trans ((keepsOthers_below hbH5.out).trans b4))⟩
         rw [hnx.out];exact Lib.hid b2
        case measure=>simp [intOf];omega
      · have hmf:m.testBit k=false:=by simpa using hmk
        have hmkH:=Lib.hid hmk
        clear hmk
        gi_wp2_with (gi_at_call 79;refine(hHas.out _).mono ?_;rintro e W5 ⟨rfl,rfl⟩)
        go_roundw
        case rel=>exact⟨k+1,by omega,by go_num,hbr,hor,by rw [hss.out,if_neg hmkH.out];exact hir,hker,hkr⟩
        case measure=>simp [intOf];omega
    · obtain rfl:k=sn:=by omega
      gi_wp2
      exact⟨hk4.out.trans (hkr.out.from _),hke4.out.trans hker.out,by show LiveI w _ _;rw [hnext.out,←slotBlocks_all,hsnH.out];exact hir.out⟩
 case done=>
  rintro D' xs W hD hxs hi hK
  rw [hxs] at hi
  obtain⟨v,hv,hrow,hb⟩:=hi
  have hc:=hv.cell
  have hbH:=Lib.hid hb
  have hrowH:=Lib.hid hrow
  clear hb hrow hv hxs
  gi_wp2
  refine⟨by simp, .inl ⟨_,_,rfl,run_takeDeferred hK, ?_⟩⟩
  refine⟨v,by simp [results,Tryz.f51],v,rfl,ownsRow_kb (Cs:=fun _=>False) hrowH.out (KB.putObj _ hK rfl rfl) (fun _ h=>h.elim), ?_⟩
  exact hbH.out.trans (belowK_b (w:=w) (Nat.le_refl _) _ D' _ _ (by omega) hK rfl rfl)
 case stop=>
  rintro D' cd pre W hD hSp hf
  exact hf.elim
end Go.Proofs.YthcmecokejemcaaGreatDoor
