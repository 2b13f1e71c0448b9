/-
  The seat's own texts, part xg: BtWI.
-/
import Derived.Test.YthcmecokejemcaaGreatDoorWMy
import Derived.Deep.Cut
import Derived.Deep.DeepCutAuto
set_option linter.unusedSimpArgs false
set_option linter.unusedVariables false
set_option maxHeartbeats 8000000
namespace Go.Proofs.YthcmecokejemcaaGreatDoor
open Go.RowKit Go.Shelf
section
variable {s N M:Nat} {F:Nat→Prop} {bl b2:Nat} {vb:Option Nat} {H:List Nat} {P q most last G:Nat}
set_option maxRecDepth 100000 in
theorem btIns_at{t:Nat}(ht:BN.Deg t)(key:ByteArray){ak av:Nat}(hak:ak<18446744073709551616)(hav:av<18446744073709551616): ∀(f:Nat),f≤40→ ∀(w:World) (R:Nat→Option (List Nat)) (st:List Nat) (x:Nat),InE N M w s t F bl b2 vb H P q most last G R st→M≤w.heap.size→x<18446744073709551616→
 Calls Tryz.prog 33 #[.agg #[.pointer (some ⟨s,0,none⟩), .int .i64 (t:Nat)], .int .u64 (x:Nat), .string key, .agg #[.int .u64 (ak:Nat), .int .u64 (av:Nat)], .func (.func 61) #[] #[.pointer (some ⟨bl,0,none⟩), .pointer (some ⟨b2,0,none⟩)], .int .i64 ((40-f:Nat):Int)] w (BInR N M w s t F bl b2 vb H P q most last G (bins t key ak av f R st.reverse x)):=by
 have hmo:Tryz.prog.follows .mixedOrders=true:=by kernel_rfl
 intro f
 induction f with
 |zero=>
  as_aux_lemma=>
  intro hf w R st x hE hM hx
  obtain⟨N0,h,hwr⟩:=hE.str.rd
  obtain⟨W0,hW0⟩: ∃W,W=((w.alloc (Obj.cells #[.pointer (some ⟨s,0,none⟩), .int .i64 (t:Nat)] 74)).alloc (Obj.cells #[.int .u64 (ak:Nat), .int .u64 (av:Nat)] 31)).alloc (Obj.cells #[.bool false, .int .u64 0, .int .u64 0, .int .u64 0] 88):=⟨_,rfl⟩
  have hb0:Below w.heap.size w W0:=by rw [hW0];exact(((Below.refl _ w).alloc (Nat.le_refl _) _).alloc (by simp) _).alloc (by simp;omega) _
  obtain⟨b6,hb6⟩: ∃b,b=w.heap.size:=⟨_,rfl⟩
  obtain⟨b12,hb12⟩: ∃b,b=w.heap.size+1+1:=⟨_,rfl⟩
  have x6:Box W0 b6 74 [.pointer (some ⟨s,0,none⟩), .int .i64 (t:Nat)]:=by rw [hW0,hb6];exact((Box.new w 74 [.pointer (some ⟨s,0,none⟩), .int .i64 (t:Nat)]).alloc _).alloc _
  have x12:Box W0 b12 88 [.bool false, .int .u64 0, .int .u64 0, .int .u64 0]:=by
   rw [hW0,hb12]
   have:=Box.new ((w.alloc (Obj.cells #[.pointer (some ⟨s,0,none⟩), .int .i64 (t:Nat)] 74)).alloc (Obj.cells #[.int .u64 (ak:Nat), .int .u64 (av:Nat)] 31)) 88 [.bool false, .int .u64 0, .int .u64 0, .int .u64 0]
   rwa [show((w.alloc (Obj.cells #[.pointer (some ⟨s,0,none⟩), .int .i64 (t:Nat)] 74)).alloc (Obj.cells #[.int .u64 (ak:Nat), .int .u64 (av:Nat)] 31)).heap.size=w.heap.size+1+1 by simp] at this
  have hGtH:=Lib.hid (btGet_at (h.below hb0) t ht x hx)
  have hW0H:=Lib.hid (And.intro hW0 (And.intro hb6 hb12))
  have hb0H:=Lib.hid hb0
  have x12H:=Lib.hid x12
  have hEH:=Lib.hid hE
  have hMH:=Lib.hid hM
  have e60:=x6.at' (i:=0) rfl
  have e61:=x6.at' (i:=1) rfl
  rw [hW0,hb6] at e60 e61
  have d40:((40-0:Nat):Int)=40:=rfl
  rw [d40]
  obtain⟨D,hD⟩: ∃D,D=bins t key ak av 0 R st.reverse x:=⟨_,rfl⟩
  rw [←hD]
  have hDH:Hid (D=(R,st.reverse,none)):=Lib.hid hD
  clear h hE hM hf hW0 hb6 hb12 x6 x12 hb0 d40 hD
  go_enter Tryz.func33,Tryz.ntmps33
  go_wp2_with fail
  rw [←hW0H.out.1,←hW0H.out.2.2,←hW0H.out.2.1]
  refine hGtH.out.mono ?_
  rintro e w2 ⟨v1,v2,v3,rfl,hown,hb2⟩
  obtain⟨A1,q1,rfl⟩:=ownN_form hown.r1
  obtain⟨A2,q2,rfl⟩:=ownN_form hown.r2
  obtain⟨A3,q3,rfl⟩:=ownN_form hown.r3
  generalize (bnG R t x).keys.length=n1 at*
  generalize (bnG R t x).vals.length=n2 at*
  generalize (bnG R t x).kids.length=n3 at*
  generalize (bnG R t x).size=n4 at*
  obtain⟨W3,hW3⟩: ∃W,W=w2.alloc (Obj.cells #[.slice A1 n1 q1, .slice A2 n2 q2, .slice A3 n3 q3, .int .u64 (n4:Nat)] 48):=⟨_,rfl⟩
  have hb3:Below W0.heap.size W0 W3:=hb2.trans (by rw [hW3];exact((Below.refl _ _).alloc (Nat.le_refl _) _).mono hb2.size)
  have v12:=x12H.out.below hb3
  have k0:=v12.free 0
  have k1:=v12.free 1
  have k2:=v12.free 2
  have k3:=v12.free 3
  have j0:=v12.at' (i:=0) rfl
  have j1:=v12.at' (i:=1) rfl
  have j2:=v12.at' (i:=2) rfl
  have j3:=v12.at' (i:=3) rfl
  have hf:=Lib.hid (bin_none hEH.out hMH.out hDH.out (below_four (hb0H.out.trans (hb3.mono hb0H.out.size)) (show w.heap.size≤b12 by have:=hW0H.out.2.2;omega) (.bool false) (.int .u64 0) (.int .u64 0) (.int .u64 0)))
  have hq:=Lib.hid ((((v12.set 0 (.bool false)).set 1 (.int .u64 0)).set 2 (.int .u64 0)).set 3 (.int .u64 0))
  have hW3H:=Lib.hid hW3
  rw [hW3] at k0 k1 k2 k3 j0 j1 j2 j3
  clear v12 hb3 hb2 hown hW3 hGtH
  cases decide (bnE R t x=0) with
  |true=>
   go_wp2
   rw [←hW3H.out]
   have r0:=hq.out.at' (i:=0) rfl
   have r1:=hq.out.at' (i:=1) rfl
   have r2:=hq.out.at' (i:=2) rfl
   have r3:=hq.out.at' (i:=3) rfl
   refine bodyPost_ret (v:= .agg #[.bool false, .int .u64 0, .int .u64 0, .int .u64 0]) (by simp [results,Tryz.f33,go_sem,r0,r1,r2,r3]) rfl hf.out
  |false=>
   go_wp2
   rw [←hW3H.out]
   have r0:=hq.out.at' (i:=0) rfl
   have r1:=hq.out.at' (i:=1) rfl
   have r2:=hq.out.at' (i:=2) rfl
   have r3:=hq.out.at' (i:=3) rfl
   refine bodyPost_ret (v:= .agg #[.bool false, .int .u64 0, .int .u64 0, .int .u64 0]) (by simp [results,Tryz.f33,go_sem,r0,r1,r2,r3]) rfl hf.out
 |succ f ih=>
  intro hf w R st x hE hM hx
  obtain⟨d,hd⟩: ∃d,d=40-(f+1):=⟨_,rfl⟩
  have hd40:d<40:=by omega
  rw [←hd]
  obtain⟨N0,h,hwr⟩:=hE.str.rd
  obtain⟨W0,hW0⟩: ∃W,W=((w.alloc (Obj.cells #[.pointer (some ⟨s,0,none⟩), .int .i64 (t:Nat)] 74)).alloc (Obj.cells #[.int .u64 (ak:Nat), .int .u64 (av:Nat)] 31)).alloc (Obj.cells #[.bool false, .int .u64 0, .int .u64 0, .int .u64 0] 88):=⟨_,rfl⟩
  have hb0:Below w.heap.size w W0:=by rw [hW0];exact(((Below.refl _ w).alloc (Nat.le_refl _) _).alloc (by simp) _).alloc (by simp;omega) _
  obtain⟨b6,hb6⟩: ∃b,b=w.heap.size:=⟨_,rfl⟩
  obtain⟨b9,hb9⟩: ∃b,b=w.heap.size+1:=⟨_,rfl⟩
  obtain⟨b12,hb12⟩: ∃b,b=w.heap.size+1+1:=⟨_,rfl⟩
  have x6:Box W0 b6 74 [.pointer (some ⟨s,0,none⟩), .int .i64 (t:Nat)]:=by rw [hW0,hb6];exact((Box.new w 74 [.pointer (some ⟨s,0,none⟩), .int .i64 (t:Nat)]).alloc _).alloc _
  have x9:Box W0 b9 31 [.int .u64 (ak:Nat), .int .u64 (av:Nat)]:=by
   rw [hW0,hb9]
   have:=Box.new (w.alloc (Obj.cells #[.pointer (some ⟨s,0,none⟩), .int .i64 (t:Nat)] 74)) 31 [.int .u64 (ak:Nat), .int .u64 (av:Nat)]
   rw [show(w.alloc (Obj.cells #[.pointer (some ⟨s,0,none⟩), .int .i64 (t:Nat)] 74)).heap.size=w.heap.size+1 by simp] at this
   exact this.alloc _
  have x12:Box W0 b12 88 [.bool false, .int .u64 0, .int .u64 0, .int .u64 0]:=by
   rw [hW0,hb12]
   have:=Box.new ((w.alloc (Obj.cells #[.pointer (some ⟨s,0,none⟩), .int .i64 (t:Nat)] 74)).alloc (Obj.cells #[.int .u64 (ak:Nat), .int .u64 (av:Nat)] 31)) 88 [.bool false, .int .u64 0, .int .u64 0, .int .u64 0]
   rwa [show((w.alloc (Obj.cells #[.pointer (some ⟨s,0,none⟩), .int .i64 (t:Nat)] 74)).alloc (Obj.cells #[.int .u64 (ak:Nat), .int .u64 (av:Nat)] 31)).heap.size=w.heap.size+1+1 by simp] at this
  have hGt:=btGet_at (h.below hb0) t ht x hx
  have hW0H:=Lib.hid (And.intro hW0 (And.intro hb6 (And.intro hb9 hb12)))
  have hb0H:=Lib.hid hb0
  have x6H:=Lib.hid x6
  have x9H:=Lib.hid x9
  have x12H:=Lib.hid x12
  have hGtH:=Lib.hid hGt
  have hH:=Lib.hid h
  have hEH:=Lib.hid hE
  have hMH:=Lib.hid hM
  have hdH:=Lib.hid hd
  have ihH:=Lib.hid ih
  have htH:=Lib.hid ht
  have hfH:=Lib.hid hf
  obtain⟨D,hD⟩: ∃D,D=bins t key ak av (f+1) R st.reverse x:=⟨_,rfl⟩
  rw [←hD]
  have hDH:=Lib.hid hD
  have d40:((d:Int)==40)=false:=by simp;omega
  have e60:=x6.at' (i:=0) rfl
  have e61:=x6.at' (i:=1) rfl
  rw [hW0,hb6] at e60 e61
  clear ih h ht hE hM hd hf hW0 hb6 hb9 hb12 x6 x9 x12 hb0 hD hGt hwr
  go_enter Tryz.func33,Tryz.ntmps33
  go_wp2_with fail
  rw [←hW0H.out.1,←hW0H.out.2.2.2,←hW0H.out.2.2.1,←hW0H.out.2.1]
  refine hGtH.out.mono ?_
  rintro e w2 ⟨v1,v2,v3,rfl,hown,hb2⟩
  obtain⟨A1,q1,rfl⟩:=ownN_form hown.r1
  obtain⟨A2,q2,rfl⟩:=ownN_form hown.r2
  obtain⟨A3,q3,rfl⟩:=ownN_form hown.r3
  obtain⟨n,hn⟩: ∃n,n=bnG R t x:=⟨_,rfl⟩
  rw [←hn] at hown
  rw [←hn]
  obtain⟨W3,hW3⟩: ∃W,W=w2.alloc (Obj.cells #[.slice A1 n.keys.length q1, .slice A2 n.vals.length q2, .slice A3 n.kids.length q3, .int .u64 (n.size:Nat)] 48):=⟨_,rfl⟩
  obtain⟨b13,hb13⟩: ∃b,b=w2.heap.size:=⟨_,rfl⟩
  have hb23:Below w2.heap.size w2 W3:=by rw [hW3];exact(Below.refl _ _).alloc (Nat.le_refl _) _
  have x13:Box W3 b13 48 [.slice A1 n.keys.length q1, .slice A2 n.vals.length q2, .slice A3 n.kids.length q3, .int .u64 (n.size:Nat)]:=by rw [hW3,hb13];exact Box.new w2 48 [.slice A1 n.keys.length q1, .slice A2 n.vals.length q2, .slice A3 n.kids.length q3, .int .u64 (n.size:Nat)]
  have hb03:Below W0.heap.size W0 W3:=hb2.trans (hb23.mono hb2.size)
  have z6:=Lib.hid (x6H.out.below hb03)
  have z9:=Lib.hid (x9H.out.below hb03)
  have z12:=Lib.hid (x12H.out.below hb03)
  have hbw3:=Lib.hid (hb0H.out.trans (hb03.mono hb0H.out.size))
  have hlows:=Lib.hid (show b6<W0.heap.size∧b9<W0.heap.size∧b12<W0.heap.size∧W0.heap.size≤b13 from⟨x6H.out.lt,x9H.out.lt,x12H.out.lt,by have:=hb2.size;omega⟩)
  have hapart:Hid (∀b,(Value.slice A1 n.keys.length q1).ownBlock=some b∨(Value.slice A2 n.vals.length q2).ownBlock=some b∨(Value.slice A3 n.kids.length q3).ownBlock=some b→b≠b13):=Lib.hid fun b hb=>by
   rcases hb with hb|hb|hb
   · have:=rows_lt hown.r1 b hb;omega
   · have:=rows_lt hown.r2 b hb;omega
   · have:=rows_lt hown.r3 b hb;omega
  have hW3H:=Lib.hid (And.intro hW3 hb13)
  have hnH:=Lib.hid hn
  have x13H:=Lib.hid x13
  have hownH:=Lib.hid (hown.below hb23)
  clear e60 e61 hGtH hb2 hown hn hW3 hb13 hb23 hb03 x13
  by_cases he:bnE R t x=0
  · rw [decide_eq_true he]
    have hw:=bnG_words hH.out htH.out he
    rw [←hnH.out] at hw
    obtain⟨hfit,wk,wv,wc,hsz⟩:=hw
    have t2:=htH.out.2
    obtain⟨g1,g2,g3'⟩:=hfit
    have l1:n.keys.length≤31:=by omega
    have l3:n.kids.length≤32:=by rcases g3' with h9|h9
                                 · rw [h9];simp
                                 · omega
    have hV:BNV W3 (fun _=>False) (.agg #[.slice A1 n.keys.length q1, .slice A2 n.vals.length q2, .slice A3 n.kids.length q3, .int .u64 (n.size:Nat)]) n:=hownH.out.bnv (F:=fun _=>False) (fun _ h=>h.elim) n.size (by omega) (by omega) (by omega)
    have hPl:=btPlace_at (hH.out.below hbw3.out) hEH.out.sh hV t wk key
    obtain⟨k,hk⟩: ∃k,k=plK R n.keys key:=⟨_,rfl⟩
    obtain⟨hb,hhb⟩: ∃hb,hb=plH R n.keys key:=⟨_,rfl⟩
    have hkl:k≤n.keys.length:=by rw [hk];exact(bsF_le _ _ 0 _ (Nat.zero_le _)).2
    rw [←hk,←hhb] at hPl
    have hst:D=insGo R t x st.reverse n k ak av (bins t key ak av f R st.reverse (n.kids.getD k 0)):=by
     rw [hDH.out]
     exact bins_node hnH.out.symm he hk.symm
    have hok:n.Ok:=⟨fun z hz=>by obtain⟨j,hj,rfl⟩:=List.getElem_of_mem hz;exact wk j hj,fun z hz=>by obtain⟨j,hj,rfl⟩:=List.getElem_of_mem hz;exact wv j hj,fun z hz=>by obtain⟨j,hj,rfl⟩:=List.getElem_of_mem hz;exact wc j hj,hsz⟩
    have hstH:=Lib.hid hst
    have hPlH:=Lib.hid hPl
    have hkids:Hid (n.kids= []∨n.kids.length=n.keys.length+1):=Lib.hid (g3'.imp id And.left)
    have hvl:=Lib.hid g2
    have hokH:=Lib.hid hok
    have hl13:=Lib.hid (And.intro l1 l3)
    have e60:=z6.out.at' (i:=0) rfl
    have e61:=z6.out.at' (i:=1) rfl
    rw [hW3H.out.1] at e60 e61
    clear hV hPl hk hhb hst g1 g2 g3' wk wv wc hsz he l1 l3 hok
    go_wp2_with fail
    rw [←hW3H.out.1,←hW3H.out.2]
    refine hPlH.out.mono ?_
    rintro e w4 ⟨rfl,hb4⟩
    have u6:=Lib.hid (z6.out.below hb4)
    have u9:=Lib.hid (z9.out.below hb4)
    have u12:=Lib.hid (z12.out.below hb4)
    have u13:=Lib.hid (x13H.out.below hb4)
    have uo:=Lib.hid (hownH.out.below hb4)
    have hbw4:=Lib.hid (hbw3.out.trans (hb4.mono hbw3.out.size))
    have hE4:=Lib.hid (hEH.out.low (hbw4.out.mono hMH.out))
    have f2:=u13.out.at' (i:=2) rfl
    have h04:=Lib.hid (show W0.heap.size≤w4.heap.size from Nat.le_of_lt (Nat.lt_of_le_of_lt hlows.out.2.2.2 u13.out.lt))
    clear hb4 z6 z9 z12 x13H hownH hbw3 hPlH hW3H e60 e61
    go_upto_if 45 with (fail)
    go_cut [] from 42 (fun wc=> ∃R2 st2 n2 vk vv vi,Hid (Mid N M w s t F bl b2 vb H P q most last G D x b6 b12 b13 W0.heap.size wc R2 st2 n2 vk vv vi))
    case first=>
     by_cases hk0:n.kids= []
     ·
      as_aux_lemma=>
      have hkb:((n.kids.length:Int)==0)=true:=by rw [hk0];rfl
      have hst2:=hstH.out
      unfold insGo at hst2
      rw [if_pos hk0] at hst2
      have hst2H:=Lib.hid hst2
      have hk0H:=Lib.hid hk0
      have hR4:Hid (Rows w4 W0.heap.size (fun b=>b=b13) w4 (.slice A1 n.keys.length q1) n.keys (.slice A2 n.vals.length q2) n.vals (.slice A3 n.kids.length q3) n.kids):=Lib.hid (Rows.start uo.out (fun b hb=>by rw [hb];exact u13.out.lt) hapart.out h04.out)
      have hkl1:k≤n.keys.length:=hkl
      have hkl2:k≤n.vals.length:=by rw [hvl.out];exact hkl
      have hlen1:n.keys.length≤100000:=by have:=hl13.out.1;omega
      have hlen2:n.vals.length≤100000:=by rw [hvl.out];exact hlen1
      have x13z:=fun {W:World} (hb:W.heap[b13]? =w4.heap[b13]?)=>u13.out.block hb
      obtain⟨Lk,hLk⟩: ∃l,l=n.keys.take k++ak::n.keys.drop k:=⟨_,rfl⟩
      obtain⟨Lv,hLv⟩: ∃l,l=n.vals.take k++av::n.vals.drop k:=⟨_,rfl⟩
      have hLkH:=Lib.hid hLk
      have hLvH:=Lib.hid hLv
      clear hLk hLv
      have hMid6:Hid (∀(A:Option Addr) (c:Nat) (A' :Option Addr) (c' :Nat) (W:World),Rows w4 W0.heap.size (fun b=>b=b13) W (.slice A Lk.length c) Lk (.slice A' Lv.length c') Lv (.slice A3 n.kids.length q3) n.kids→
       ∃R2 st2 n2 vk vv vi,Hid (Mid N M w s t F bl b2 vb H P q most last G D x b6 b12 b13 W0.heap.size ((W.setCell ⟨b13,0,none⟩ (.slice A Lk.length c)).setCell ⟨b13,1,none⟩ (.slice A' Lv.length c')) R2 st2 n2 vk vv vi)):=Lib.hid fun A c A' c' W hR=>by
       have m4:=hR
       have m1:D=bsplit R t x st.reverse (n.insKV k ak av).more:=hst2H.out
       have m3:=Turn.below (F:=FB F bl) hbw4.out
       have m7:=((x13z (hR.box b13 rfl)).set 0 (.slice A Lk.length c)).set 1 (.slice A' Lv.length c')
       have m8:(n.insKV k ak av).Ok:=⟨ins_ok hokH.out.keys k hak,ins_ok hokH.out.vals k hav,hokH.out.kids,hokH.out.size⟩
       have m9:(n.keys.take k++ak::n.keys.drop k).length≤32:=by
        rw [ins_len hkl1];have:=hl13.out.1;omega
       have m10:(n.vals.take k++av::n.vals.drop k).length=(n.keys.take k++ak::n.keys.drop k).length:=by
        rw [ins_len hkl1,ins_len hkl2,hvl.out]
       rw [hLkH.out,hLvH.out] at m4 m7 ⊢
       exact⟨R,st,n.insKV k ak av,_,_,_,Lib.hid (mid_of (bn:=fun b=>b=b13) (n:=n.insKV k ak av) rfl m1 hE4.out (Nat.le_trans hMH.out hb0H.out.size) hb0H.out.size m3 m4 (grown_trans (grown_set W b13 0 _) (grown_set _ b13 1 _)) hlows.out.2.2.2 h04.out u6.out hlows.out.1 u12.out hlows.out.2.2.1 m7 m8 m9 m10 (.inl hk0H.out))⟩
      have f0:=u13.out.at' (i:=0) rfl
      have f1:=u13.out.at' (i:=1) rfl
      have n13: ¬(W0.heap.size≤b13∧ ¬b13=b13):=by simp
      have n9: ¬(W0.heap.size≤b9∧ ¬b9=b13):=by have:=hlows.out.2.1;omega
      have x1:=fun X:Exw (fun b=>W0.heap.size≤b∧ ¬b=b13) w4=>X.cell f0 n13
      have x2:=fun X:Exw (fun b=>W0.heap.size≤b∧ ¬b=b13) w4=>X.cell f1 n13
      have x3:=fun X:Exw (fun b=>W0.heap.size≤b∧ ¬b=b13) w4=>X.cell (u9.out.at' (i:=0) rfl) n9
      have x4:=fun X:Exw (fun b=>W0.heap.size≤b∧ ¬b=b13) w4=>X.cell (u9.out.at' (i:=1) rfl) n9
      clear hst2 hk0 f0 f1 n13 n9
      go_wp2
      refine wp_region_tree (fun w' => ∃X:Exw (fun b=>W0.heap.size≤b∧ ¬b=b13) w4,w' =X.W) [15,16,17] (.r 0<| .r 1<| .r 2<| .r 3<| .r 4<| .r 7<| .r 8<| .r 9<| .r 10<| .r 11<| .two 5 (.two 6 (.r 14<| .a 12<| .a 13<| .a 15<| .a 16<| .a 17<| .nil) 12 (.a 6<| .r 14<| .a 13<| .a 15<| .a 16<| .a 17<| .nil)) 12 (.a 5<| .a 6<| .r 14<| .a 13<| .a 15<| .a 16<| .a 17<| .nil)) hmo (by kernel_rfl) (by kernel_rfl) (by kernel_rfl) (exw_start _ _) (fun _ _ d _ _ h=>by cases d<;>exact h) ?_
      iterate 10 (refine wpTree_r _ _ rfl rfl (by rintro _ ⟨X,rfl⟩;go_simp;exact rfl) ?_;go_simp)
      clear x1 x2 x3 x4
      refine wpTree_two _ _ rfl rfl (fun K hK=> ?_) (fun K hK=> ?_)
      · go_wp2
        obtain⟨hR1x,hVkx⟩:=hR4.out.vblkd h04.out ak
        obtain⟨vbk,hvbk⟩: ∃b,b=w4.heap.size:=⟨_,rfl⟩
        have hbw1:Below w4.heap.size w4 (w4.alloc (Obj.cells #[.int .u64 (ak:Nat)] 23)).drew:=((Below.refl _ _).alloc (Nat.le_refl _) _).drew
        rw [←hvbk] at hVkx ⊢
        obtain⟨W1,hW1⟩: ∃W',W' =(w4.alloc (Obj.cells #[.int .u64 (ak:Nat)] 23)).drew:=⟨_,rfl⟩
        rw [←hW1] at hR1x hVkx hbw1 ⊢
        have hR1:=Lib.hid hR1x
        have hVk:=Lib.hid hVkx
        clear hW1 hvbk hR1x hVkx hbw1
        refine hK _ _ hR1.out.exw ?_
        clear hK K
        refine wpTree_two _ _ rfl rfl (fun K hK=> ?_) (fun K hK=> ?_)
        · have hI2:=Lib.hid (hR1.out.callN h04.out hVk.out k hkl1 hlen1 hLkH.out)
          go_wp2_with fail
          refine hI2.out.mono ?_
          rintro e W2 ⟨Ak,ck,rfl,hR2x,hmv⟩
          have hR2:=Lib.hid hR2x
          clear hI2 hR2x hmv hVk
          go_wp2
          refine hK _ _ hR2.out.exw ?_
          clear hK K
          refine wpTree_r _ _ rfl rfl (by rintro _ ⟨X,rfl⟩;go_simp;exact rfl) ?_
          go_simp
          refine wpTree_a _ rfl (fun K hK=> ?_)
          go_wp2
          obtain⟨hR3x,hVvx⟩:=hR2.out.vblk h04.out av
          obtain⟨vbv,hvbv⟩: ∃b,b=W2.heap.size:=⟨_,rfl⟩
          have hbw3:Below W2.heap.size W2 (W2.alloc (Obj.cells #[.int .u64 (av:Nat)] 23)):=((Below.refl _ _).alloc (Nat.le_refl _) _)
          rw [←hvbv] at hVvx ⊢
          obtain⟨W3,hW3⟩: ∃W',W' =(W2.alloc (Obj.cells #[.int .u64 (av:Nat)] 23)):=⟨_,rfl⟩
          rw [←hW3] at hR3x hVvx hbw3 ⊢
          have hR3:=Lib.hid hR3x
          have hVv:=Lib.hid hVvx
          clear hW3 hvbv hR3x hVvx hbw3
          refine hK _ _ hR3.out.exw ?_
          clear hK K
          refine wpTree_a _ rfl (fun K hK=> ?_)
          have hI4:=Lib.hid (hR3.out.call2 h04.out hVv.out k hkl2 hlen2 hLvH.out)
          go_wp2_with fail
          refine hI4.out.mono ?_
          rintro e W4 ⟨Av,cv,rfl,hR4x⟩
          have hR4:=Lib.hid hR4x
          clear hI4 hR4x hVv
          go_wp2
          refine hK _ _ hR4.out.exw ?_
          clear hK K
          have hRz:=Lib.hid hR4.out
          clear hR4
          have g13:=x13z (hRz.out.box b13 rfl)
          have c0:=g13.at' (i:=0) rfl
          have c1:=g13.at' (i:=1) rfl
          have d0:=g13.free 0
          have d1:=g13.free 1
          have g13H:=Lib.hid g13
          clear g13
          refine wpTree_z _ rfl (by decide) (fun K hK=> ?_)
          go_wp2
          refine hK _ _ ?_
          clear hK K
          refine wpTree_z _ rfl (by decide) (fun K hK=> ?_)
          go_wp2
          refine hK _ _ ?_
          clear hK K
          refine wpTree_z _ rfl (by decide) (fun K hK=> ?_)
          go_wp2
          refine hK _ _ (wpTree_nil ?_)
          clear hK K
          go_wp2
          go_meet
          case rel=>exact hMid6.out _ _ _ _ _ hRz.out
        · go_wp2
          obtain⟨hR2x,hVvx⟩:=hR1.out.vblk h04.out av
          obtain⟨vbv,hvbv⟩: ∃b,b=W1.heap.size:=⟨_,rfl⟩
          have hbw2:Below W1.heap.size W1 (W1.alloc (Obj.cells #[.int .u64 (av:Nat)] 23)):=((Below.refl _ _).alloc (Nat.le_refl _) _)
          rw [←hvbv] at hVvx ⊢
          obtain⟨W2,hW2⟩: ∃W',W' =(W1.alloc (Obj.cells #[.int .u64 (av:Nat)] 23)):=⟨_,rfl⟩
          rw [←hW2] at hR2x hVvx hbw2 ⊢
          have hVkn:=Lib.hid (hVk.out.below hbw2)
          clear hVk
          have hVk:=Lib.hid hVkn.out
          clear hVkn
          have hR2:=Lib.hid hR2x
          have hVv:=Lib.hid hVvx
          clear hW2 hvbv hR2x hVvx hbw2
          refine hK _ _ hR2.out.exw ?_
          clear hK K
          refine wpTree_a _ rfl (fun K hK=> ?_)
          have hI3:=Lib.hid (hR2.out.callN h04.out hVk.out k hkl1 hlen1 hLkH.out)
          go_wp2_with fail
          refine hI3.out.mono ?_
          rintro e W3 ⟨Ak,ck,rfl,hR3x,hmv⟩
          have hR3:=Lib.hid hR3x
          have hVvn:=Lib.hid ((hmv _ _ hVv.out))
          clear hVv
          have hVv:=Lib.hid hVvn.out
          clear hVvn
          clear hI3 hR3x hmv hVk
          go_wp2
          refine hK _ _ hR3.out.exw ?_
          clear hK K
          refine wpTree_r _ _ rfl rfl (by rintro _ ⟨X,rfl⟩;go_simp;exact rfl) ?_
          go_simp
          refine wpTree_a _ rfl (fun K hK=> ?_)
          have hI4:=Lib.hid (hR3.out.call2 h04.out hVv.out k hkl2 hlen2 hLvH.out)
          go_wp2_with fail
          refine hI4.out.mono ?_
          rintro e W4 ⟨Av,cv,rfl,hR4x⟩
          have hR4:=Lib.hid hR4x
          clear hI4 hR4x hVv
          go_wp2
          refine hK _ _ hR4.out.exw ?_
          clear hK K
          have hRz:=Lib.hid hR4.out
          clear hR4
          have g13:=x13z (hRz.out.box b13 rfl)
          have c0:=g13.at' (i:=0) rfl
          have c1:=g13.at' (i:=1) rfl
          have d0:=g13.free 0
          have d1:=g13.free 1
          have g13H:=Lib.hid g13
          clear g13
          refine wpTree_z _ rfl (by decide) (fun K hK=> ?_)
          go_wp2
          refine hK _ _ ?_
          clear hK K
          refine wpTree_z _ rfl (by decide) (fun K hK=> ?_)
          go_wp2
          refine hK _ _ ?_
          clear hK K
          refine wpTree_z _ rfl (by decide) (fun K hK=> ?_)
          go_wp2
          refine hK _ _ (wpTree_nil ?_)
          clear hK K
          go_wp2
          go_meet
          case rel=>exact hMid6.out _ _ _ _ _ hRz.out
      · go_wp2
        obtain⟨hR1x,hVvx⟩:=hR4.out.vblkd h04.out av
        obtain⟨vbv,hvbv⟩: ∃b,b=w4.heap.size:=⟨_,rfl⟩
        have hbw1:Below w4.heap.size w4 (w4.alloc (Obj.cells #[.int .u64 (av:Nat)] 23)).drew:=((Below.refl _ _).alloc (Nat.le_refl _) _).drew
        rw [←hvbv] at hVvx ⊢
        obtain⟨W1,hW1⟩: ∃W',W' =(w4.alloc (Obj.cells #[.int .u64 (av:Nat)] 23)).drew:=⟨_,rfl⟩
        rw [←hW1] at hR1x hVvx hbw1 ⊢
        have hR1:=Lib.hid hR1x
        have hVv:=Lib.hid hVvx
        clear hW1 hvbv hR1x hVvx hbw1
        refine hK _ _ hR1.out.exw ?_
        clear hK K
        refine wpTree_a _ rfl (fun K hK=> ?_)
        go_wp2
        obtain⟨hR2x,hVkx⟩:=hR1.out.vblk h04.out ak
        obtain⟨vbk,hvbk⟩: ∃b,b=W1.heap.size:=⟨_,rfl⟩
        have hbw2:Below W1.heap.size W1 (W1.alloc (Obj.cells #[.int .u64 (ak:Nat)] 23)):=((Below.refl _ _).alloc (Nat.le_refl _) _)
        rw [←hvbk] at hVkx ⊢
        obtain⟨W2,hW2⟩: ∃W',W' =(W1.alloc (Obj.cells #[.int .u64 (ak:Nat)] 23)):=⟨_,rfl⟩
        rw [←hW2] at hR2x hVkx hbw2 ⊢
        have hVvn:=Lib.hid (hVv.out.below hbw2)
        clear hVv
        have hVv:=Lib.hid hVvn.out
        clear hVvn
        have hR2:=Lib.hid hR2x
        have hVk:=Lib.hid hVkx
        clear hW2 hvbk hR2x hVkx hbw2
        refine hK _ _ hR2.out.exw ?_
        clear hK K
        refine wpTree_a _ rfl (fun K hK=> ?_)
        have hI3:=Lib.hid (hR2.out.callN h04.out hVk.out k hkl1 hlen1 hLkH.out)
        go_wp2_with fail
        refine hI3.out.mono ?_
        rintro e W3 ⟨Ak,ck,rfl,hR3x,hmv⟩
        have hR3:=Lib.hid hR3x
        have hVvn:=Lib.hid ((hmv _ _ hVv.out))
        clear hVv
        have hVv:=Lib.hid hVvn.out
        clear hVvn
        clear hI3 hR3x hmv hVk
        go_wp2
        refine hK _ _ hR3.out.exw ?_
        clear hK K
        refine wpTree_r _ _ rfl rfl (by rintro _ ⟨X,rfl⟩;go_simp;exact rfl) ?_
        go_simp
        refine wpTree_a _ rfl (fun K hK=> ?_)
        have hI4:=Lib.hid (hR3.out.call2 h04.out hVv.out k hkl2 hlen2 hLvH.out)
        go_wp2_with fail
        refine hI4.out.mono ?_
        rintro e W4 ⟨Av,cv,rfl,hR4x⟩
        have hR4:=Lib.hid hR4x
        clear hI4 hR4x hVv
        go_wp2
        refine hK _ _ hR4.out.exw ?_
        clear hK K
        have hRz:=Lib.hid hR4.out
        clear hR4
        have g13:=x13z (hRz.out.box b13 rfl)
        have c0:=g13.at' (i:=0) rfl
        have c1:=g13.at' (i:=1) rfl
        have d0:=g13.free 0
        have d1:=g13.free 1
        have g13H:=Lib.hid g13
        clear g13
        refine wpTree_z _ rfl (by decide) (fun K hK=> ?_)
        go_wp2
        refine hK _ _ ?_
        clear hK K
        refine wpTree_z _ rfl (by decide) (fun K hK=> ?_)
        go_wp2
        refine hK _ _ ?_
        clear hK K
        refine wpTree_z _ rfl (by decide) (fun K hK=> ?_)
        go_wp2
        refine hK _ _ (wpTree_nil ?_)
        clear hK K
        go_wp2
        go_meet
        case rel=>exact hMid6.out _ _ _ _ _ hRz.out
     ·
      as_aux_lemma=>
      have hk0H:=Lib.hid hk0
      have hkz:0<n.kids.length:=List.length_pos_iff.2 hk0
      have hst2:=hstH.out
      unfold insGo at hst2
      rw [if_neg hk0] at hst2
      have hkl' :=hkl
      have hkj:k<n.kids.length:=by rcases hkids.out with h9|h9
                                   · exact absurd h9 hk0
                                   · omega
      rw [show n.kids.getD k 0=n.kids[k] by simp [hkj]] at hst2
      have hky:=hokH.out.kids _ (List.getElem_mem hkj)
      obtain⟨B3,p3,e3,hC3⟩:=row_cellsF (F:=FB F bl) uo.out.r3 (fun b hb=>Nat.lt_of_lt_of_le (hEH.out.fb b hb) (Nat.le_trans hMH.out hb0H.out.size))
      cases e3
      obtain⟨b5,o5,rfl,hbl5,hf5,hcell⟩:=hC3.num2 hkj
      have hcq:=hcell w4 (Below.refl _ _)
      obtain⟨yk,hyk⟩: ∃yk,n.kids[k]=yk:=⟨_,rfl⟩
      rw [hyk] at hcq hky hst2
      obtain⟨rc,hrc⟩: ∃rc,rc=bins t key ak av f R st.reverse yk:=⟨_,rfl⟩
      rw [←hrc] at hst2
      have hst2H:=Lib.hid hst2
      have hIns:Hid (∀W,Below w4.heap.size w4 W→Calls Tryz.prog 33 #[.agg #[.pointer (some ⟨s,0,none⟩), .int .i64 (t:Nat)], .int .u64 (yk:Nat), .string key, .agg #[.int .u64 (ak:Nat), .int .u64 (av:Nat)], .func (.func 61) #[] #[.pointer (some ⟨bl,0,none⟩), .pointer (some ⟨b2,0,none⟩)], .int .i64 ((d:Int)+1)] W (BInR N M W s t F bl b2 vb H P q most last G rc)):=Lib.hid fun W hb=>by
       have h9:=ihH.out (by have:=hfH.out;omega) W R st yk (hE4.out.low (hb.mono (Nat.le_trans hMH.out hbw4.out.size))) (Nat.le_trans (Nat.le_trans hMH.out hbw4.out.size) hb.size) hky
       rw [show((40-f:Nat):Int)=(d:Int)+1 by have:=hdH.out;have:=hfH.out;omega,←hrc] at h9
       exact h9
      have nF: ∀{b},M≤b→ ¬FB F bl b:=fun {b} hb hf=>by have:=hEH.out.fb b hf;omega
      have hMB:=Nat.le_trans hMH.out hb0H.out.size
      have nF13: ¬FB F bl b13:=nF (Nat.le_trans hMB hlows.out.2.2.2)
      have nF6: ¬FB F bl b6:=nF (by have:=hW0H.out.2.1;have:=hMH.out;omega)
      have nF9: ¬FB F bl b9:=nF (by have:=hW0H.out.2.2.1;have:=hMH.out;omega)
      have nF12: ¬FB F bl b12:=nF (by have:=hW0H.out.2.2.2;have:=hMH.out;omega)
      have nFH:=Lib.hid (And.intro nF13 (And.intro nF6 (And.intro nF9 nF12)))
      have x1:=fun X:Exw (FB F bl) w4=>X.cell (u6.out.at' (i:=0) rfl) nF6
      have x2:=fun X:Exw (FB F bl) w4=>X.cell (u6.out.at' (i:=1) rfl) nF6
      have x3:=fun X:Exw (FB F bl) w4=>X.cell (u13.out.at' (i:=2) rfl) nF13
      have x4:=fun X:Exw (FB F bl) w4=>X.cell hcq hf5
      have x5:=fun X:Exw (FB F bl) w4=>X.cell (u9.out.at' (i:=0) rfl) nF9
      have x6:=fun X:Exw (FB F bl) w4=>X.cell (u9.out.at' (i:=1) rfl) nF9
      have hMb:=Lib.hid (And.intro hMB (Nat.le_trans hMH.out hbw4.out.size))
      clear hst2 hk0 hky hC3 hcell hrc hyk nF nF13 nF6 nF9 nF12 hMB hkl'
      go_upto_region 7 with (fail)
      go_cut [17] from 42 (fun s17 wc=> ∃b17 o R' st',s17= .pointer (some ⟨b17,0,none⟩)∧Hid (Up N M w4 s t F bl b2 vb H P q most last G rc b17 o wc R' st'))
      case first=>
       as_aux_lemma=>
       refine wp_region_tree (fun w' => ∃X:Exw (FB F bl) w4,w' =X.W) [13] (.r 0<| .r 1<| .r 2<| .r 3<| .r 4<| .r 5<| .r 6<| .r 7<| .r 8<| .r 9<| .r 10<| .two 11 (.a 12<| .a 13<| .nil) 12 (.a 11<| .a 13<| .nil)) hmo (by kernel_rfl) (by kernel_rfl) (by kernel_rfl) (exw_start _ _) (fun _ _ d _ _ h=>by cases d<;>exact h) ?_
       iterate 11 (refine wpTree_r _ _ rfl rfl (by rintro _ ⟨X,rfl⟩;go_simp;exact rfl) ?_;go_simp)
       clear x1 x2 x3 x4 x5 x6
       refine wpTree_two _ _ rfl rfl (fun K hK=> ?_) (fun K hK=> ?_)
       · go_wp2_with fail
         refine(hIns.out _ (below_drawn w4)).mono ?_
         rintro e w5 ⟨rfl,hE5,hT5,h64⟩
         obtain⟨R',L',o⟩:=rc
         have hT4:=(Turn.below (F:=FB F bl) (below_drawn w4)).trans hT5
         have hT4H:=Lib.hid hT4
         have hE5H:=Lib.hid hE5
         have h64H:=Lib.hid h64
         clear hE5 hT5 hT4 h64
         rcases o with _|⟨a,b,r⟩
         all_goals
          simp only [splV]
          go_wp2
          refine hK _ _ (exw_turn hT4H.out) ?_
          clear hK K
          refine wpTree_a _ rfl (fun K hK=> ?_)
          go_wp2
          refine hK _ _ (exw_turn (hT4H.out.trans (Turn.below ((Below.refl _ w5).alloc (Nat.le_refl _) _)))) ?_
          clear hK K
          refine wpTree_z _ rfl (by decide) (fun K hK=> ?_)
          go_wp2
          refine hK _ _ (wpTree_nil ?_)
          clear hK K
          go_wp2
          go_meet
          case rel=>exact⟨w5.heap.size,_,R',L'.reverse,rfl,Lib.hid ⟨by rw [List.reverse_reverse],hE5H.out.low (((Below.refl _ w5).alloc (Nat.le_refl _) _).mono (Nat.le_trans hMb.out.2 hT4H.out.size)),hT4H.out.trans (Turn.below ((Below.refl _ w5).alloc (Nat.le_refl _) _)),Box.new w5 _ _,hT4H.out.size,h64H.out⟩⟩
       · go_wp2
         have hb45:Below w4.heap.size w4 (w4.alloc (Obj.cells #[.bool false, .int .u64 0, .int .u64 0, .int .u64 0] 88)).drew:=((Below.refl _ w4).alloc (Nat.le_refl _) _).drew
         have y17:Box (w4.alloc (Obj.cells #[.bool false, .int .u64 0, .int .u64 0, .int .u64 0] 88)).drew w4.heap.size 88 [.bool false, .int .u64 0, .int .u64 0, .int .u64 0]:=box_drew (Box.new w4 _ _)
         obtain⟨b17,hb17⟩: ∃b,b=w4.heap.size:=⟨_,rfl⟩
         rw [←hb17] at y17 ⊢
         have hb17H:=Lib.hid hb17
         refine hK _ _ (exw_turn (Turn.below hb45)) ?_
         clear hK K
         obtain⟨W5,hW5⟩: ∃W,W=(w4.alloc (Obj.cells #[.bool false, .int .u64 0, .int .u64 0, .int .u64 0] 88)).drew:=⟨_,rfl⟩
         rw [←hW5] at hb45 y17 ⊢
         have hb45H:=Lib.hid hb45
         have y17H:=Lib.hid y17
         clear hW5 hb45 y17 hb17
         refine wpTree_a _ rfl (fun K hK=> ?_)
         go_wp2_with fail
         refine(hIns.out _ hb45H.out).mono ?_
         rintro e w5 ⟨rfl,hE5,hT5,h64⟩
         obtain⟨R',L',o⟩:=rc
         have hT4:=(Turn.below (F:=FB F bl) hb45H.out).trans hT5
         have n17: ¬FB F bl b17:=fun hf=>by have:=hEH.out.fb _ hf;have:=hb17H.out;have:=hMb.out.2;omega
         have q17:=y17H.out.turn hT5 n17
         have hT4H:=Lib.hid hT4
         have hE5H:=Lib.hid hE5
         have h64H:=Lib.hid h64
         have q17H:=Lib.hid q17
         have k0:=q17.free 0
         have k1:=q17.free 1
         have k2:=q17.free 2
         have k3:=q17.free 3
         have j0:=q17.at' (i:=0) rfl
         have j1:=q17.at' (i:=1) rfl
         have j2:=q17.at' (i:=2) rfl
         have j3:=q17.at' (i:=3) rfl
         clear hE5 hT5 hT4 h64 n17 q17
         rcases o with _|⟨a,b,r⟩
         all_goals
          simp only [splV]
          go_wp2
          refine hK _ _ (exw_turn hT4H.out) ?_
          clear hK K
          refine wpTree_z _ rfl (by decide) (fun K hK=> ?_)
          go_wp2
          refine hK _ _ (wpTree_nil ?_)
          clear hK K
          go_wp2
          go_meet
          case rel=>
           have hg:=fun v0 v1 v2 v3=>grown_trans (grown_trans (grown_trans (grown_set w5 b17 0 v0) (grown_set _ b17 1 v1)) (grown_set _ b17 2 v2)) (grown_set _ b17 3 v3)
           exact⟨b17,_,R',L'.reverse,rfl,Lib.hid ⟨by rw [List.reverse_reverse],hE5H.out.grow (by have:=hb17H.out;have:=hMb.out.2;omega) (Nat.le_trans hMb.out.2 hT4H.out.size) (hg _ _ _ _),hT4H.out.grown (by have:=hb17H.out;omega) (hg _ _ _ _),(((q17H.out.set 0 _).set 1 _).set 2 _).set 3 _,by have:=hb17H.out;omega,h64H.out⟩⟩
      case rest=>
       obtain⟨b17,o,R',st',rfl,hUp⟩:=hcut
       have hst2:=hst2H.out
       rw [hUp.out.req] at hst2
       have u17:=hUp.out.x17
       have x13c:=u13.out.turn hUp.out.turn nFH.out.1
       have hoc:=uo.out.turn hUp.out.turn (fun b hb=>Nat.lt_of_lt_of_le (hEH.out.fb b hb) hMb.out.1)
       have x6c:=u6.out.turn hUp.out.turn nFH.out.2.1
       have x12c:=u12.out.turn hUp.out.turn nFH.out.2.2.2
       have hTc:=(Turn.below (F:=FB F bl) hbw4.out).trans hUp.out.turn
       have hszc:=hUp.out.turn.size
       have hgec:=hUp.out.ge
       have x13cH:=Lib.hid x13c
       have hocH:=Lib.hid hoc
       have x6cH:=Lib.hid x6c
       have x12cH:=Lib.hid x12c
       have hTcH:=Lib.hid hTc
       have hszH:=Lib.hid (And.intro hszc hgec)
       clear x13c hoc x6c x12c hTc hszc hgec
       rcases o with _|⟨a,b,r⟩
       · have y0:=u17.at' (i:=0) rfl
         have hst2' :=Lib.hid hst2
         have hrow:=Lib.hid (Rows.start (bn:=fun b=>b=b13) hocH.out (fun b hb=>by rw [hb];exact x13cH.out.lt) hapart.out (Nat.le_trans h04.out hszH.out.1))
         clear hst2 u17
         go_wp2
         go_meet
         case rel=>
          exact⟨R',st',n,_,_,_,Lib.hid (mid_of (bn:=fun b=>b=b13) rfl hst2'.out hUp.out.e hMb.out.1 hb0H.out.size hTcH.out hrow.out (grownBy_below (Below.refl _ _) _) hlows.out.2.2.2 (Nat.le_trans h04.out hszH.out.1) x6cH.out hlows.out.1 x12cH.out hlows.out.2.2.1 x13cH.out hokH.out (by have:=hl13.out.1;omega) hvl.out hkids.out)⟩
       · have y0:=u17.at' (i:=0) rfl
         obtain⟨ha64,hb64,hr64⟩:=hUp.out.w64 a b r rfl
         have h64:=Lib.hid (And.intro ha64 (And.intro hb64 hr64))
         have hB9:=Lib.hid (Nat.le_trans h04.out hszH.out.1)
         have hge17:w4.heap.size≤b17:=hszH.out.2
         have hoff9: ∀z,(Value.slice A1 n.keys.length q1).ownBlock=some z∨(Value.slice A2 n.vals.length q2).ownBlock=some z∨(Value.slice (some ⟨b5,o5,none⟩) n.kids.length q3).ownBlock=some z→ ¬(z=b13∨z=b17):=fun z hz h9=>by
          rcases h9 with h9|h9
          · exact hapart.out z hz h9
          · have:z<w4.heap.size:=by
             rcases hz with h1|h1|h1
             · exact rows_lt uo.out.r1 z h1
             · exact rows_lt uo.out.r2 z h1
             · exact rows_lt uo.out.r3 z h1
            omega
         have hR4:=Lib.hid (Rows.start (bn:=fun z=>z=b13∨z=b17) hocH.out (fun z hz=>by rcases hz with hz|hz<;>rw [hz];exact x13cH.out.lt;exact u17.lt) hoff9 hB9.out)
         have hkl1:k≤n.keys.length:=hkl
         have hkl2:k≤n.vals.length:=by rw [hvl.out];exact hkl
         have hlen1:n.keys.length≤100000:=by have:=hl13.out.1;omega
         have hlen2:n.vals.length≤100000:=by rw [hvl.out];exact hlen1
         have x13z:=fun {W:World} (hb:W.heap[b13]? =wc.heap[b13]?)=>x13cH.out.block hb
         obtain⟨Lk,hLk⟩: ∃l,l=n.keys.take k++a::n.keys.drop k:=⟨_,rfl⟩
         obtain⟨Lv,hLv⟩: ∃l,l=n.vals.take k++b::n.vals.drop k:=⟨_,rfl⟩
         have hLkH:=Lib.hid hLk
         have hLvH:=Lib.hid hLv
         clear hLk hLv
         have hne17:b17≠b13:=by have:=u13.out.lt;omega
         have u17H:=Lib.hid u17
         have hNine:Hid (∀(A:Option Addr) (c:Nat) (A' :Option Addr) (c' :Nat) (W:World),Rows wc W0.heap.size (fun z=>z=b13∨z=b17) W (.slice A Lk.length c) Lk (.slice A' Lv.length c') Lv (.slice (some ⟨b5,o5,none⟩) n.kids.length q3) n.kids→
          ∃vk vv,Hid (Nine wc W0.heap.size b13 b17 vk Lk vv Lv (.slice (some ⟨b5,o5,none⟩) n.kids.length q3) n.kids n.size a b r ((W.setCell ⟨b13,0,none⟩ (.slice A Lk.length c)).setCell ⟨b13,1,none⟩ (.slice A' Lv.length c')))):=Lib.hid fun A c A' c' W hR=>
          ⟨_,_,Lib.hid (nine_of (bn:=fun z=>z=b13∨z=b17) (.inl rfl) (.inr rfl) hne17 hR (grown_trans (grown_set W b13 0 _) (grown_set _ b13 1 _)) hlows.out.2.2.2 hB9.out (((x13z (hR.box b13 (.inl rfl))).set 0 _).set 1 _) u17H.out)⟩
         have f0:=x13cH.out.at' (i:=0) rfl
         have f1:=x13cH.out.at' (i:=1) rfl
         have n13: ¬(W0.heap.size≤b13∧ ¬(b13=b13∨b13=b17)):=by simp
         have n17: ¬(W0.heap.size≤b17∧ ¬(b17=b13∨b17=b17)):=by simp
         have x1:=fun X:Exw (fun z=>W0.heap.size≤z∧ ¬(z=b13∨z=b17)) wc=>X.cell f0 n13
         have x2:=fun X:Exw (fun z=>W0.heap.size≤z∧ ¬(z=b13∨z=b17)) wc=>X.cell f1 n13
         have x3:=fun X:Exw (fun z=>W0.heap.size≤z∧ ¬(z=b13∨z=b17)) wc=>X.cell (u17.at' (i:=1) rfl) n17
         have x4:=fun X:Exw (fun z=>W0.heap.size≤z∧ ¬(z=b13∨z=b17)) wc=>X.cell (u17.at' (i:=2) rfl) n17
         have hst3:D=bsplit R' t x st'.reverse ((n.insKV k a b).insKid (k+1) r).more:=by rw [hst2]
         have hst3H:=Lib.hid hst3
         clear hst2 hst3 f0 f1 n13 n17 u17 hoff9 hge17 hne17 ha64 hb64 hr64
         go_upto_region 9 with (fail)
         go_cut [] from 76 (fun w9=> ∃vk vv,Hid (Nine wc W0.heap.size b13 b17 vk Lk vv Lv (.slice (some ⟨b5,o5,none⟩) n.kids.length q3) n.kids n.size a b r w9))
         case first=>
          as_aux_lemma=>
          refine wp_region_tree (fun w' => ∃X:Exw (fun z=>W0.heap.size≤z∧ ¬(z=b13∨z=b17)) wc,w' =X.W) [17,18,19] (.r 0<| .r 1<| .r 2<| .r 3<| .r 4<| .r 5<| .r 8<| .r 9<| .r 10<| .r 11<| .r 12<| .r 13<| .two 6 (.two 7 (.r 16<| .a 14<| .a 15<| .a 17<| .a 18<| .a 19<| .nil) 14 (.a 7<| .r 16<| .a 15<| .a 17<| .a 18<| .a 19<| .nil)) 14 (.a 6<| .a 7<| .r 16<| .a 15<| .a 17<| .a 18<| .a 19<| .nil)) hmo (by kernel_rfl) (by kernel_rfl) (by kernel_rfl) (exw_start _ _) (fun _ _ d _ _ h=>by cases d<;>exact h) ?_
          iterate 12 (refine wpTree_r _ _ rfl rfl (by rintro _ ⟨X,rfl⟩;go_simp;exact rfl) ?_;go_simp)
          clear x1 x2 x3 x4
          refine wpTree_two _ _ rfl rfl (fun K hK=> ?_) (fun K hK=> ?_)
          · go_wp2
            obtain⟨hR1x,hVkx⟩:=hR4.out.vblkd hB9.out a
            obtain⟨vbk,hvbk⟩: ∃b,b=wc.heap.size:=⟨_,rfl⟩
            have hbw1:Below wc.heap.size wc (wc.alloc (Obj.cells #[.int .u64 (a:Nat)] 23)).drew:=((Below.refl _ _).alloc (Nat.le_refl _) _).drew
            rw [←hvbk] at hVkx ⊢
            obtain⟨W1,hW1⟩: ∃W',W' =(wc.alloc (Obj.cells #[.int .u64 (a:Nat)] 23)).drew:=⟨_,rfl⟩
            rw [←hW1] at hR1x hVkx hbw1 ⊢
            have hR1:=Lib.hid hR1x
            have hVk:=Lib.hid hVkx
            clear hW1 hvbk hR1x hVkx hbw1
            refine hK _ _ hR1.out.exw ?_
            clear hK K
            refine wpTree_two _ _ rfl rfl (fun K hK=> ?_) (fun K hK=> ?_)
            · have hI2:=Lib.hid (hR1.out.callN hB9.out hVk.out k hkl1 hlen1 hLkH.out)
              go_wp2_with fail
              refine hI2.out.mono ?_
              rintro e W2 ⟨Ak,ck,rfl,hR2x,hmv⟩
              have hR2:=Lib.hid hR2x
              clear hI2 hR2x hmv hVk
              go_wp2
              refine hK _ _ hR2.out.exw ?_
              clear hK K
              refine wpTree_r _ _ rfl rfl (by rintro _ ⟨X,rfl⟩;go_simp;exact rfl) ?_
              go_simp
              refine wpTree_a _ rfl (fun K hK=> ?_)
              go_wp2
              obtain⟨hR3x,hVvx⟩:=hR2.out.vblk hB9.out b
              obtain⟨vbv,hvbv⟩: ∃b,b=W2.heap.size:=⟨_,rfl⟩
              have hbw3:Below W2.heap.size W2 (W2.alloc (Obj.cells #[.int .u64 (b:Nat)] 23)):=((Below.refl _ _).alloc (Nat.le_refl _) _)
              rw [←hvbv] at hVvx ⊢
              obtain⟨W3,hW3⟩: ∃W',W' =(W2.alloc (Obj.cells #[.int .u64 (b:Nat)] 23)):=⟨_,rfl⟩
              rw [←hW3] at hR3x hVvx hbw3 ⊢
              have hR3:=Lib.hid hR3x
              have hVv:=Lib.hid hVvx
              clear hW3 hvbv hR3x hVvx hbw3
              refine hK _ _ hR3.out.exw ?_
              clear hK K
              refine wpTree_a _ rfl (fun K hK=> ?_)
              have hI4:=Lib.hid (hR3.out.call2 hB9.out hVv.out k hkl2 hlen2 hLvH.out)
              go_wp2_with fail
              refine hI4.out.mono ?_
              rintro e W4 ⟨Av,cv,rfl,hR4x⟩
              have hR4:=Lib.hid hR4x
              clear hI4 hR4x hVv
              go_wp2
              refine hK _ _ hR4.out.exw ?_
              clear hK K
              have hRz:=Lib.hid hR4.out
              clear hR4
              have g13:=x13z (hRz.out.box b13 (.inl rfl))
              have c0:=g13.at' (i:=0) rfl
              have c1:=g13.at' (i:=1) rfl
              have d0:=g13.free 0
              have d1:=g13.free 1
              have g13H:=Lib.hid g13
              clear g13
              refine wpTree_z _ rfl (by decide) (fun K hK=> ?_)
              go_wp2
              refine hK _ _ ?_
              clear hK K
              refine wpTree_z _ rfl (by decide) (fun K hK=> ?_)
              go_wp2
              refine hK _ _ ?_
              clear hK K
              refine wpTree_z _ rfl (by decide) (fun K hK=> ?_)
              go_wp2
              refine hK _ _ (wpTree_nil ?_)
              clear hK K
              go_wp2
              go_meet
              case rel=>exact hNine.out _ _ _ _ _ hRz.out
            · go_wp2
              obtain⟨hR2x,hVvx⟩:=hR1.out.vblk hB9.out b
              obtain⟨vbv,hvbv⟩: ∃b,b=W1.heap.size:=⟨_,rfl⟩
              have hbw2:Below W1.heap.size W1 (W1.alloc (Obj.cells #[.int .u64 (b:Nat)] 23)):=((Below.refl _ _).alloc (Nat.le_refl _) _)
              rw [←hvbv] at hVvx ⊢
              obtain⟨W2,hW2⟩: ∃W',W' =(W1.alloc (Obj.cells #[.int .u64 (b:Nat)] 23)):=⟨_,rfl⟩
              rw [←hW2] at hR2x hVvx hbw2 ⊢
              have hVkn:=Lib.hid (hVk.out.below hbw2)
              clear hVk
              have hVk:=Lib.hid hVkn.out
              clear hVkn
              have hR2:=Lib.hid hR2x
              have hVv:=Lib.hid hVvx
              clear hW2 hvbv hR2x hVvx hbw2
              refine hK _ _ hR2.out.exw ?_
              clear hK K
              refine wpTree_a _ rfl (fun K hK=> ?_)
              have hI3:=Lib.hid (hR2.out.callN hB9.out hVk.out k hkl1 hlen1 hLkH.out)
              go_wp2_with fail
              refine hI3.out.mono ?_
              rintro e W3 ⟨Ak,ck,rfl,hR3x,hmv⟩
              have hR3:=Lib.hid hR3x
              have hVvn:=Lib.hid ((hmv _ _ hVv.out))
              clear hVv
              have hVv:=Lib.hid hVvn.out
              clear hVvn
              clear hI3 hR3x hmv hVk
              go_wp2
              refine hK _ _ hR3.out.exw ?_
              clear hK K
              refine wpTree_r _ _ rfl rfl (by rintro _ ⟨X,rfl⟩;go_simp;exact rfl) ?_
              go_simp
              refine wpTree_a _ rfl (fun K hK=> ?_)
              have hI4:=Lib.hid (hR3.out.call2 hB9.out hVv.out k hkl2 hlen2 hLvH.out)
              go_wp2_with fail
              refine hI4.out.mono ?_
              rintro e W4 ⟨Av,cv,rfl,hR4x⟩
              have hR4:=Lib.hid hR4x
              clear hI4 hR4x hVv
              go_wp2
              refine hK _ _ hR4.out.exw ?_
              clear hK K
              have hRz:=Lib.hid hR4.out
              clear hR4
              have g13:=x13z (hRz.out.box b13 (.inl rfl))
              have c0:=g13.at' (i:=0) rfl
              have c1:=g13.at' (i:=1) rfl
              have d0:=g13.free 0
              have d1:=g13.free 1
              have g13H:=Lib.hid g13
              clear g13
              refine wpTree_z _ rfl (by decide) (fun K hK=> ?_)
              go_wp2
              refine hK _ _ ?_
              clear hK K
              refine wpTree_z _ rfl (by decide) (fun K hK=> ?_)
              go_wp2
              refine hK _ _ ?_
              clear hK K
              refine wpTree_z _ rfl (by decide) (fun K hK=> ?_)
              go_wp2
              refine hK _ _ (wpTree_nil ?_)
              clear hK K
              go_wp2
              go_meet
              case rel=>exact hNine.out _ _ _ _ _ hRz.out
          · go_wp2
            obtain⟨hR1x,hVvx⟩:=hR4.out.vblkd hB9.out b
            obtain⟨vbv,hvbv⟩: ∃b,b=wc.heap.size:=⟨_,rfl⟩
            have hbw1:Below wc.heap.size wc (wc.alloc (Obj.cells #[.int .u64 (b:Nat)] 23)).drew:=((Below.refl _ _).alloc (Nat.le_refl _) _).drew
            rw [←hvbv] at hVvx ⊢
            obtain⟨W1,hW1⟩: ∃W',W' =(wc.alloc (Obj.cells #[.int .u64 (b:Nat)] 23)).drew:=⟨_,rfl⟩
            rw [←hW1] at hR1x hVvx hbw1 ⊢
            have hR1:=Lib.hid hR1x
            have hVv:=Lib.hid hVvx
            clear hW1 hvbv hR1x hVvx hbw1
            refine hK _ _ hR1.out.exw ?_
            clear hK K
            refine wpTree_a _ rfl (fun K hK=> ?_)
            go_wp2
            obtain⟨hR2x,hVkx⟩:=hR1.out.vblk hB9.out a
            obtain⟨vbk,hvbk⟩: ∃b,b=W1.heap.size:=⟨_,rfl⟩
            have hbw2:Below W1.heap.size W1 (W1.alloc (Obj.cells #[.int .u64 (a:Nat)] 23)):=((Below.refl _ _).alloc (Nat.le_refl _) _)
            rw [←hvbk] at hVkx ⊢
            obtain⟨W2,hW2⟩: ∃W',W' =(W1.alloc (Obj.cells #[.int .u64 (a:Nat)] 23)):=⟨_,rfl⟩
            rw [←hW2] at hR2x hVkx hbw2 ⊢
            have hVvn:=Lib.hid (hVv.out.below hbw2)
            clear hVv
            have hVv:=Lib.hid hVvn.out
            clear hVvn
            have hR2:=Lib.hid hR2x
            have hVk:=Lib.hid hVkx
            clear hW2 hvbk hR2x hVkx hbw2
            refine hK _ _ hR2.out.exw ?_
            clear hK K
            refine wpTree_a _ rfl (fun K hK=> ?_)
            have hI3:=Lib.hid (hR2.out.callN hB9.out hVk.out k hkl1 hlen1 hLkH.out)
            go_wp2_with fail
            refine hI3.out.mono ?_
            rintro e W3 ⟨Ak,ck,rfl,hR3x,hmv⟩
            have hR3:=Lib.hid hR3x
            have hVvn:=Lib.hid ((hmv _ _ hVv.out))
            clear hVv
            have hVv:=Lib.hid hVvn.out
            clear hVvn
            clear hI3 hR3x hmv hVk
            go_wp2
            refine hK _ _ hR3.out.exw ?_
            clear hK K
            refine wpTree_r _ _ rfl rfl (by rintro _ ⟨X,rfl⟩;go_simp;exact rfl) ?_
            go_simp
            refine wpTree_a _ rfl (fun K hK=> ?_)
            have hI4:=Lib.hid (hR3.out.call2 hB9.out hVv.out k hkl2 hlen2 hLvH.out)
            go_wp2_with fail
            refine hI4.out.mono ?_
            rintro e W4 ⟨Av,cv,rfl,hR4x⟩
            have hR4:=Lib.hid hR4x
            clear hI4 hR4x hVv
            go_wp2
            refine hK _ _ hR4.out.exw ?_
            clear hK K
            have hRz:=Lib.hid hR4.out
            clear hR4
            have g13:=x13z (hRz.out.box b13 (.inl rfl))
            have c0:=g13.at' (i:=0) rfl
            have c1:=g13.at' (i:=1) rfl
            have d0:=g13.free 0
            have d1:=g13.free 1
            have g13H:=Lib.hid g13
            clear g13
            refine wpTree_z _ rfl (by decide) (fun K hK=> ?_)
            go_wp2
            refine hK _ _ ?_
            clear hK K
            refine wpTree_z _ rfl (by decide) (fun K hK=> ?_)
            go_wp2
            refine hK _ _ ?_
            clear hK K
            refine wpTree_z _ rfl (by decide) (fun K hK=> ?_)
            go_wp2
            refine hK _ _ (wpTree_nil ?_)
            clear hK K
            go_wp2
            go_meet
            case rel=>exact hNine.out _ _ _ _ _ hRz.out
         case rest=>
          as_aux_lemma=>
          obtain⟨vk9,vv9,hN⟩:=hcut
          have hN9:=hN.out
          have hk1:k+1≤n.kids.length:=by omega
          have hlk:n.kids.length≤100000:=by have:=hl13.out.2;omega
          have hR9:=Rows.start (bn:=fun z=>z=b13) hN9.own (fun z hz=>by rw [hz];exact hN9.x13.lt) hN9.off (Nat.le_trans hB9.out hN9.ge)
          obtain⟨hR10,hV10⟩:=hR9.vblk (Nat.le_trans hB9.out hN9.ge) r
          have hI:=hR10.flip13.call (Nat.le_trans hB9.out hN9.ge) hV10.flip13 (k+1) hk1 hlk
          obtain⟨Li,hLi⟩: ∃l,l=n.kids.take (k+1)++r::n.kids.drop (k+1):=⟨_,rfl⟩
          rw [←hLi] at hI
          push_cast at hI
          have hIH:=Lib.hid hI
          have hLiH:=Lib.hid hLi
          have p2:=hN9.x13.at' (i:=2) rfl
          have p3:=hN9.x17.at' (i:=3) rfl
          have hk31:k≤32:=by have:=hl13.out.1;omega
          have hN9H:=Lib.hid hN9
          have hkz1:=Lib.hid hk1
          clear hI hLi hR9 hR10 hV10 hN hN9 hlk hk1
          go_wp2_with fail
          refine hIH.out.mono ?_
          rintro e W10 ⟨Av,cv,rfl,hR10x,hmv⟩
          have hR10:=Lib.hid hR10x.flip13
          have g13:=hN9H.out.x13.block (hR10.out.box b13 rfl)
          have g2:=g13.free 2
          have g2c:=g13.at' (i:=2) rfl
          have g13H:=Lib.hid g13
          clear hIH hR10x hmv g13 p2 p3
          go_wp2
          go_meet
          case rel=>
           have m1:D=bsplit R' t x st'.reverse ((n.insKV k a b).insKid (k+1) r).more:=hst3H.out
           have m2:=hUp.out.e.low (hN9H.out.low.mono hMb.out.1)
           have m3:=hTcH.out.low (hN9H.out.low.mono hb0H.out.size)
           have m4:=hR10.out
           have m5:=box_low x6cH.out hN9H.out.low hlows.out.1
           have m6:=box_low x12cH.out hN9H.out.low hlows.out.2.2.1
           have m7:=g13H.out.set 2 (.slice Av Li.length cv)
           have m8:((n.insKV k a b).insKid (k+1) r).Ok:=⟨ins_ok hokH.out.keys k h64.out.1,ins_ok hokH.out.vals k h64.out.2.1,ins_ok hokH.out.kids (k+1) h64.out.2.2,hokH.out.size⟩
           have m9:(n.keys.take k++a::n.keys.drop k).length≤32:=by
            rw [ins_len hkl1];have:=hl13.out.1;omega
           have m10:(n.vals.take k++b::n.vals.drop k).length=(n.keys.take k++a::n.keys.drop k).length:=by
            rw [ins_len hkl1,ins_len hkl2,hvl.out]
           have m11:(n.kids.take (k+1)++r::n.kids.drop (k+1)).length=(n.keys.take k++a::n.keys.drop k).length+1:=by
            rw [ins_len hkl1,ins_len hkz1.out]
            rcases hkids.out with h9|h9
            · exact absurd h9 hk0H.out
            · omega
           rw [hLkH.out,hLvH.out,hLiH.out] at m4
           rw [hLiH.out] at m7 ⊢
           exact⟨R',st',(n.insKV k a b).insKid (k+1) r,_,_,_,Lib.hid (mid_of (bn:=fun z=>z=b13) (n:=(n.insKV k a b).insKid (k+1) r) rfl m1 m2 hMb.out.1 hb0H.out.size m3 m4 (grown_set W10 b13 2 _) hlows.out.2.2.2 (Nat.le_trans hB9.out hN9H.out.ge) m5 hlows.out.1 m6 hlows.out.2.2.1 m7 m8 m9 m10 (.inr m11))⟩
    case rest=>
     as_aux_lemma=>
     obtain⟨R2,st2,n2,vk,vv,vi,hMid⟩:=hcut
     have hm:=hMid.out
     have d3:=hm.x13.free 3
     have e60:=hm.x6.at' (i:=0) rfl
     have e61:=hm.x6.at' (i:=1) rfl
     obtain⟨sz1,hsz1⟩: ∃z,z=n2.more.size:=⟨_,rfl⟩
     have wsz:IntKind.u64.wrap ((n2.size:Int)+1)=(sz1:Int):=by rw [hsz1];exact more_wrap hm.ok.size
     have hsz64:sz1<18446744073709551616:=by rw [hsz1];exact Nat.mod_lt _ (by decide)
     have t1:=htH.out.1
     have t2:=htH.out.2
     have hMB:=Nat.le_trans hMH.out hb0H.out.size
     have h13M:M≤b13:=Nat.le_trans hMB hlows.out.2.2.2
     have hMc:M≤wc.heap.size:=Nat.le_trans h13M (Nat.le_of_lt hm.x13.lt)
     obtain⟨A,hA⟩: ∃A,A=wc.setCell ⟨b13,3,none⟩ (.int .u64 (sz1:Nat)):=⟨_,rfl⟩
     have hgA:wc.grownBy A (some b13):=by rw [hA];exact grown_set wc b13 3 _
     have hEA:=hm.e.grow h13M hMc hgA
     have hTA:=hm.turn.grown (Nat.le_trans hb0H.out.size hlows.out.2.2.2) hgA
     have hoA:Own3 A W0.heap.size vk n2.keys vv n2.vals vi n2.kids:=hm.own.off fun z hz=>by rw [hA];exact Below.heap_setCell wc ⟨b13,3,none⟩ _ z (hm.off z hz)
     have x13A:Box A b13 48 [vk,vv,vi, .int .u64 (sz1:Nat)]:=by rw [hA];exact hm.x13.set 3 _
     have x6A:Box A b6 74 [.pointer (some ⟨s,0,none⟩), .int .i64 (t:Nat)]:=by rw [hA];exact hm.x6.other (p:=⟨b13,3,none⟩) (by have:=hlows.out;show b6≠b13;omega) _
     have x12A:Box A b12 88 [.bool false, .int .u64 0, .int .u64 0, .int .u64 0]:=by rw [hA];exact hm.x12.other (p:=⟨b13,3,none⟩) (by have:=hlows.out;show b12≠b13;omega) _
     have nF: ∀{z},M≤z→ ¬FB F bl z:=fun {z} hz hf=>by have:=hEH.out.fb z hf;omega
     have nF13: ¬FB F bl b13:=nF h13M
     have nF6: ¬FB F bl b6:=nF (by have:=hW0H.out.2.1;have:=hMH.out;omega)
     have nF12: ¬FB F bl b12:=nF (by have:=hW0H.out.2.2.2;have:=hMH.out;omega)
     have h12M:M≤b12:=by have:=hW0H.out.2.2.2;have:=hMH.out;omega
     have hw12:w.heap.size≤b12:=by have:=hW0H.out.2.2.2;omega
     have hMA:M≤A.heap.size:=Nat.le_trans hMc hgA.size
     have hFB0: ∀z,FB F bl z→z<W0.heap.size:=fun z hz=>Nat.lt_of_lt_of_le (hEH.out.fb z hz) hMB
     have hokA:n2.more.Ok:=⟨hm.ok.keys,hm.ok.vals,hm.ok.kids,Nat.mod_lt _ (by decide)⟩
     have hl1:n2.keys.length≤32:=hm.l1
     have hl2:=hm.l2
     have hl3:=hm.l3
     have hl3b:n2.kids.length≤33:=by rcases hl3 with h9|h9<;>rw [h9]<;>simp<;>omega
     have hVA:=hoA.bnv (F:=FB F bl) hFB0 sz1 (by omega) (by omega) (by omega)
     obtain⟨Ak,ck,rfl⟩:=ownN_form hm.own.r1
     have p0:=hm.x13.at' (i:=0) rfl
     have p3:=hm.x13.at' (i:=3) rfl
     have hDD:=hm.D
     have hDH2:=Lib.hid hDD
     have nFH:=Lib.hid (And.intro nF13 (And.intro nF6 nF12))
     have hE2:=Lib.hid hEA
     have hT2:=Lib.hid hTA
     have ho2:=Lib.hid hoA
     have x13A:=Lib.hid x13A
     have x6A:=Lib.hid x6A
     have x12A:=Lib.hid x12A
     have hVA2:=Lib.hid hVA
     have hok2:=Lib.hid hokA
     have hl23:=Lib.hid (And.intro hl2 (And.intro hl3 hl3b))
     have hAH:=Lib.hid hA
     have hszH2:=Lib.hid hsz1
     have hMs:=Lib.hid (And.intro h12M (And.intro hw12 (And.intro hMA hFB0)))
     clear hm hMid hDD nF13 nF6 nF12 nF hEA hTA hoA hVA hokA hl2 hl3 hl3b hgA hsz1 h12M hw12 hMA hFB0 hMB h13M hMc hA
     by_cases hlt:n2.keys.length<2*t
     · have dl:decide ((n2.keys.length:Int)<2*(t:Int))=true:=decide_eq_true (by omega)
       as_aux_lemma=>
       go_upto_region 12 with (fail)
       rw [←hAH.out]
       clear p0 p3 d3 e60 e61
       have p0:=x13A.out.at' (i:=0) rfl
       have p1:=x13A.out.at' (i:=1) rfl
       have p2:=x13A.out.at' (i:=2) rfl
       have p3:=x13A.out.at' (i:=3) rfl
       have e60:=x6A.out.at' (i:=0) rfl
       have e61:=x6A.out.at' (i:=1) rfl
       have hd2:Hid (D=(bputR R2 t x n2.more,st2.reverse,none)):=Lib.hid (by rw [hDH2.out];unfold bsplit;rw [if_pos (by exact hlt)])
       have hV:=hVA2.out.less (F' :=F) fun z hz=> .inl hz
       rw [show(BN.mk n2.keys n2.vals n2.kids sz1)=n2.more by rw [hszH2.out];rfl] at hV
       have hPut:=Lib.hid (bnPut_at hE2.out.str t htH.out x hx hV hok2.out)
       clear hV
       go_wp2_with fail
       refine hPut.out.mono ?_
       unfold BPut
       rintro e w7 ⟨rfl,hS7,hT7⟩
       have r12:=x12A.out.turn hT7 (fun h9=>nFH.out.2.2 (.inl h9))
       have k0:=r12.free 0
       have k1:=r12.free 1
       have k2:=r12.free 2
       have k3:=r12.free 3
       have j0:=r12.at' (i:=0) rfl
       have j1:=r12.at' (i:=1) rfl
       have j2:=r12.at' (i:=2) rfl
       have j3:=r12.at' (i:=3) rfl
       have hq:=Lib.hid ((((r12.set 0 (.bool false)).set 1 (.int .u64 0)).set 2 (.int .u64 0)).set 3 (.int .u64 0))
       have hE7:=Lib.hid (hE2.out.turn hS7 hT7 (fits_short htH.out hE2.out.sh))
       have hT7H:=Lib.hid (hT2.out.trans hT7.fb)
       clear hS7 hT7 r12 hPut
       go_wp2
       have r0:=hq.out.at' (i:=0) rfl
       have r1:=hq.out.at' (i:=1) rfl
       have r2:=hq.out.at' (i:=2) rfl
       have r3:=hq.out.at' (i:=3) rfl
       refine bodyPost_ret (v:= .agg #[.bool false, .int .u64 0, .int .u64 0, .int .u64 0]) (by simp [results,Tryz.f33,go_sem,r0,r1,r2,r3]) rfl ?_
       rw [hd2.out]
       have hg:=grown_trans (grown_trans (grown_trans (grown_set w7 b12 0 (.bool false)) (grown_set _ b12 1 (.int .u64 0))) (grown_set _ b12 2 (.int .u64 0))) (grown_set _ b12 3 (.int .u64 0))
       refine⟨rfl, ?_,hT7H.out.grown hMs.out.2.1 hg,fun a b r h=>by cases h⟩
       simp only [List.reverse_reverse]
       exact hE7.out.grow hMs.out.1 (Nat.le_trans hMH.out hT7H.out.size) hg
     · have dl:decide ((n2.keys.length:Int)<2*(t:Int))=false:=decide_eq_false (by omega)
       have hk9:t+1<n2.keys.length:=by omega
       have hv9:t+1<n2.vals.length:=by rw [hl23.out.1];omega
       obtain⟨gk,ck',e1,hBk,hgk⟩:=row_some ho2.out.r1 (fun e=>by rw [e] at hk9;simp at hk9)
       cases e1
       obtain⟨gv,cv,rfl,hBv,hgv⟩:=row_some ho2.out.r2 (fun e=>by rw [e] at hv9;simp at hv9)
       have hcapk:n2.keys.length≤ck:=by rcases row_capN ho2.out.r1 with h9|h9;exact h9.1;rw [h9.1] at hk9;simp at hk9
       have hcapv:n2.vals.length≤cv:=by rcases row_capN ho2.out.r2 with h9|h9;exact h9.1;rw [h9.1] at hv9;simp at hv9
       obtain⟨lr,hlr⟩: ∃l,l=n2.keys.length-(t+1):=⟨_,rfl⟩
       have hlrv:lr=n2.vals.length-(t+1):=by rw [hl23.out.1];exact hlr
       have hlr31:lr≤31:=by omega
       have hCk:CellsF A (FB F bl) (some ⟨gk,0,none⟩) (hsV n2.keys):=by obtain⟨A',c',e9,h9⟩:=row_cellsF (F:=FB F bl) ho2.out.r1 hMs.out.2.2.2;cases e9;exact h9
       have hCv:CellsF A (FB F bl) (some ⟨gv,0,none⟩) (hsV n2.vals):=by obtain⟨A',c',e9,h9⟩:=row_cellsF (F:=FB F bl) ho2.out.r2 hMs.out.2.2.2;cases e9;exact h9
       have tk9:(n2.keys.take t).length=t:=by rw [List.length_take];omega
       have tv9:(n2.vals.take t).length=t:=by rw [List.length_take];omega
       have dk9:(n2.keys.drop (t+1)).length=lr:=by rw [List.length_drop];omega
       have dv9:(n2.vals.drop (t+1)).length=lr:=by rw [List.length_drop];omega
       have hvl15:Hid (BNV A (FB F bl) (.agg #[.slice (some ⟨gk,0,none⟩) t ck, .slice (some ⟨gv,0,none⟩) t cv, .slice none 0 0, .int .u64 (0:Nat)]) ⟨n2.keys.take t,n2.vals.take t,([]:List Nat).take (t+1),0⟩):=Lib.hid ⟨⟨_,ck,_,cv,none,0,by rw [tk9,tv9];rfl,hCk.takeN t,hCv.takeN t, .inl rfl⟩,by rw [tk9];omega,by rw [tv9];omega,by simp⟩
       have hvr15:Hid (BNV A (FB F bl) (.agg #[.slice (some ⟨gk,t+1,none⟩) lr (ck-(t+1)), .slice (some ⟨gv,t+1,none⟩) lr (cv-(t+1)), .slice none 0 0, .int .u64 (0:Nat)]) ⟨n2.keys.drop (t+1),n2.vals.drop (t+1),([]:List Nat).drop (t+1),0⟩):=Lib.hid ⟨⟨_,ck-(t+1),_,cv-(t+1),none,0,by rw [dk9,dv9];rfl,by have h9:=hCk.drop (t+1);rwa [Nat.zero_add] at h9,by have h9:=hCv.drop (t+1);rwa [Nat.zero_add] at h9, .inl (by simp [hsV])⟩,by rw [dk9];omega,by rw [dv9];omega,by simp⟩
       have sk1:=fun w=>sl_h w gk ck n2.keys.length t (by omega)
       have sv1:=fun w=>sl_h w gv cv n2.vals.length t (by omega)
       have sk2:=fun w=>sl_l w gk ck n2.keys.length t lr (by omega) hcapk hk9 hlr
       have sv2:=fun w=>sl_l w gv cv n2.vals.length t lr (by omega) hcapv hv9 hlrv
       have wt1:IntKind.i64.wrap ((t:Int)+1)=(t:Int)+1:=by rw [IntKind.wrap_i64];omega
       have hlrH:=Lib.hid hlr
       have hcaps:=Lib.hid (And.intro hcapk hcapv)
       have hCkv:=Lib.hid (And.intro hCk hCv)
       have hgkv:=Lib.hid (And.intro hgk hgv)
       clear hlrv hCk hCv tk9 tv9 dk9 dv9 hBk hBv hgk hgv hlr
       have q0:=x13A.out.at' (i:=0) rfl
       have q1:=x13A.out.at' (i:=1) rfl
       have q6:=x6A.out.at' (i:=1) rfl
       have x1:=fun X:Exw (fun _=>False) A=>X.cell q0 (fun h=>h)
       have x2:=fun X:Exw (fun _=>False) A=>X.cell q1 (fun h=>h)
       have x3:=fun X:Exw (fun _=>False) A=>X.cell q6 (fun h=>h)
       clear q1
       go_upto_region 12 with (fail)
       rw [←hAH.out]
       clear p0 p3 d3 e60 e61
       go_upto_region 15 with (fail)
       go_cut [18,19] from 114 (fun s18 s19 w16=> ∃b18 b19,s18= .pointer (some ⟨b18,0,none⟩)∧s19= .pointer (some ⟨b19,0,none⟩)∧Hid (Halves A w16 (FB F bl) b18 b19 t ⟨n2.keys,n2.vals,[],sz1⟩ (.slice (some ⟨gk,0,none⟩) t ck) (.slice (some ⟨gv,0,none⟩) t cv) (.slice none 0 0) (.slice (some ⟨gk,t+1,none⟩) lr (ck-(t+1))) (.slice (some ⟨gv,t+1,none⟩) lr (cv-(t+1))) (.slice none 0 0)))
       case first=>
        as_aux_lemma=>
        refine wp_region_tree (fun w' => ∃X:Exw (fun _=>False) A,w' =X.W) [27] (.r 0<| .r 1<| .r 2<| .r 3<| .r 4<| .r 5<| .r 6<| .r 7<| .r 8<| .r 9<| .r 10<| .r 11<| .r 12<| .r 13<| .r 14<| .r 15<| .r 16<| .r 17<| .r 18<| .r 19<| .r 20<| .r 21<| .r 22<| .r 23<| .two 24 (.a 25<| .a 26<| .a 27<| .nil) 25 (.a 24<| .a 26<| .a 27<| .nil)) hmo (by kernel_rfl) (by kernel_rfl) (by kernel_rfl) (exw_start _ _) (fun _ _ d _ _ h=>by cases d<;>exact h) ?_
        iterate 24 (refine wpTree_r _ _ rfl rfl (by rintro _ ⟨X,rfl⟩;go_simp;exact rfl) ?_;go_simp)
        clear x1 x2 x3 sk1 sv1 sk2 sv2
        refine wpTree_two _ _ rfl rfl (fun K hK=> ?_) (fun K hK=> ?_)
        · go_wp2
          obtain⟨b18,hb18⟩: ∃b,b=A.heap.size:=⟨_,rfl⟩
          obtain⟨W4,hW4⟩: ∃W,W=(A.alloc (Obj.cells #[.slice none 0 0, .slice none 0 0, .slice none 0 0, .int .u64 0] 48)).drew:=⟨_,rfl⟩
          rw [←hW4,←hb18]
          have hb4:Below A.heap.size A W4:=by rw [hW4];exact((Below.refl _ A).alloc (Nat.le_refl _) _).drew
          have yb18:Box W4 b18 48 [.slice none 0 0, .slice none 0 0, .slice none 0 0, .int .u64 0]:=by rw [hW4,hb18];exact box_drew (Box.new A _ _)
          have hs4:W4.heap.size=A.heap.size+1:=by rw [hW4];simp [World.drew]
          have hs4H:=Lib.hid hs4
          have hb18H:=Lib.hid hb18
          refine hK _ _ (exw_below hb4) ?_
          clear hK K hW4 hs4 hb18
          refine wpTree_a _ rfl (fun K hK=> ?_)
          go_wp2
          obtain⟨b19,hb19⟩: ∃b,b=W4.heap.size:=⟨_,rfl⟩
          obtain⟨W5,hW5⟩: ∃W,W=W4.alloc (Obj.cells #[.slice none 0 0, .slice none 0 0, .slice none 0 0, .int .u64 0] 48):=⟨_,rfl⟩
          rw [←hW5,←hb19]
          have hb5:Below A.heap.size A W5:=by rw [hW5];exact hb4.alloc hb4.size _
          have yb18:Box W5 b18 48 [.slice none 0 0, .slice none 0 0, .slice none 0 0, .int .u64 0]:=by rw [hW5];exact yb18.alloc _
          have yb19:Box W5 b19 48 [.slice none 0 0, .slice none 0 0, .slice none 0 0, .int .u64 0]:=by rw [hW5,hb19];exact Box.new W4 _ _
          have hs4:=hs4H.out
          have hb18:=hb18H.out
          have hne:b18≠b19:=by omega
          have g18:A.heap.size≤b18:=by omega
          have g19:A.heap.size≤b19:=by omega
          have c0:=yb18.at' (i:=0) rfl
          have c1:=yb18.at' (i:=1) rfl
          have c2:=yb18.at' (i:=2) rfl
          have c3:=yb18.at' (i:=3) rfl
          have f0:=yb18.free 0
          have f1:=yb18.free 1
          have f2:=yb18.free 2
          have f3:=yb18.free 3
          have gH:=Lib.hid (And.intro g18 (And.intro g19 hne))
          have hbH:=Lib.hid hb5
          have z18:=Lib.hid (((((yb18.set 0 (.slice (some ⟨gk,0,none⟩) t ck)).set 1 (.slice (some ⟨gv,0,none⟩) t cv)).set 2 (.slice none 0 0)).set 3 (.int .u64 0)))
          have z19:=Lib.hid (((((yb19.other (p:=⟨b18,0,none⟩) (Ne.symm hne) (.slice (some ⟨gk,0,none⟩) t ck)).other (p:=⟨b18,1,none⟩) (Ne.symm hne) (.slice (some ⟨gv,0,none⟩) t cv)).other (p:=⟨b18,2,none⟩) (Ne.symm hne) (.slice none 0 0)).other (p:=⟨b18,3,none⟩) (Ne.symm hne) (.int .u64 0)))
          have hlow6:=Lib.hid (below_four hb5 g18 (.slice (some ⟨gk,0,none⟩) t ck) (.slice (some ⟨gv,0,none⟩) t cv) (.slice none 0 0) (.int .u64 0))
          refine hK _ _ (exw_below hb5) ?_
          clear hK K hW5 hb18 hb19 yb18 yb19 hb5 hne g18 g19 hs4 hb4
          refine wpTree_a _ rfl (fun K hK=> ?_)
          go_wp2
          refine hK _ _ (exw_below hlow6.out) ?_
          clear hK K c0 c1 c2 c3 f0 f1 f2 f3
          obtain⟨W6,hW6⟩: ∃W,W=(((W5.setCell ⟨b18,0,none⟩ (.slice (some ⟨gk,0,none⟩) t ck)).setCell ⟨b18,1,none⟩ (.slice (some ⟨gv,0,none⟩) t cv)).setCell ⟨b18,2,none⟩ (.slice none 0 0)).setCell ⟨b18,3,none⟩ (.int .u64 0):=⟨_,rfl⟩
          rw [←hW6]
          have hlow6:=hlow6.out
          have z18:=z18.out
          have z19:=z19.out
          rw [←hW6] at hlow6 z18 z19
          have c0:=z19.at' (i:=0) rfl
          have c1:=z19.at' (i:=1) rfl
          have c2:=z19.at' (i:=2) rfl
          have c3:=z19.at' (i:=3) rfl
          have f0:=z19.free 0
          have f1:=z19.free 1
          have f2:=z19.free 2
          have f3:=z19.free 3
          have hfin:=Lib.hid (Halves.mk (FF:=FB F bl) (t:=t) (n:=⟨n2.keys,n2.vals,[],sz1⟩) (below_four hlow6 gH.out.2.1 (.slice (some ⟨gk,t+1,none⟩) lr (ck-(t+1))) (.slice (some ⟨gv,t+1,none⟩) lr (cv-(t+1))) (.slice none 0 0) (.int .u64 0)) ((((z18.other (p:=⟨b19,0,none⟩) gH.out.2.2 _).other (p:=⟨b19,1,none⟩) gH.out.2.2 _).other (p:=⟨b19,2,none⟩) gH.out.2.2 _).other (p:=⟨b19,3,none⟩) gH.out.2.2 _) ((((z19.set 0 (.slice (some ⟨gk,t+1,none⟩) lr (ck-(t+1)))).set 1 (.slice (some ⟨gv,t+1,none⟩) lr (cv-(t+1)))).set 2 (.slice none 0 0)).set 3 (.int .u64 0)) gH.out.1 gH.out.2.1 gH.out.2.2 hvl15.out hvr15.out)
          clear hlow6 z18 z19 hW6 hbH
          refine wpTree_z _ rfl (by decide) (fun K hK=> ?_)
          go_wp2
          refine hK _ _ (wpTree_nil ?_)
          clear hK K
          go_wp2_with fail
          go_meet
          case rel=>exact⟨b18,b19,rfl,rfl,hfin⟩
        · go_wp2
          obtain⟨b19,hb19⟩: ∃b,b=A.heap.size:=⟨_,rfl⟩
          obtain⟨W4,hW4⟩: ∃W,W=(A.alloc (Obj.cells #[.slice none 0 0, .slice none 0 0, .slice none 0 0, .int .u64 0] 48)).drew:=⟨_,rfl⟩
          rw [←hW4,←hb19]
          have hb4:Below A.heap.size A W4:=by rw [hW4];exact((Below.refl _ A).alloc (Nat.le_refl _) _).drew
          have yb19:Box W4 b19 48 [.slice none 0 0, .slice none 0 0, .slice none 0 0, .int .u64 0]:=by rw [hW4,hb19];exact box_drew (Box.new A _ _)
          have hs4:W4.heap.size=A.heap.size+1:=by rw [hW4];simp [World.drew]
          have hs4H:=Lib.hid hs4
          have hb19H:=Lib.hid hb19
          refine hK _ _ (exw_below hb4) ?_
          clear hK K hW4 hs4 hb19
          refine wpTree_a _ rfl (fun K hK=> ?_)
          go_wp2
          obtain⟨b18,hb18⟩: ∃b,b=W4.heap.size:=⟨_,rfl⟩
          obtain⟨W5,hW5⟩: ∃W,W=W4.alloc (Obj.cells #[.slice none 0 0, .slice none 0 0, .slice none 0 0, .int .u64 0] 48):=⟨_,rfl⟩
          rw [←hW5,←hb18]
          have hb5:Below A.heap.size A W5:=by rw [hW5];exact hb4.alloc hb4.size _
          have yb19:Box W5 b19 48 [.slice none 0 0, .slice none 0 0, .slice none 0 0, .int .u64 0]:=by rw [hW5];exact yb19.alloc _
          have yb18:Box W5 b18 48 [.slice none 0 0, .slice none 0 0, .slice none 0 0, .int .u64 0]:=by rw [hW5,hb18];exact Box.new W4 _ _
          have hs4:=hs4H.out
          have hb19:=hb19H.out
          have hne:b18≠b19:=by omega
          have g18:A.heap.size≤b18:=by omega
          have g19:A.heap.size≤b19:=by omega
          have c0:=yb18.at' (i:=0) rfl
          have c1:=yb18.at' (i:=1) rfl
          have c2:=yb18.at' (i:=2) rfl
          have c3:=yb18.at' (i:=3) rfl
          have f0:=yb18.free 0
          have f1:=yb18.free 1
          have f2:=yb18.free 2
          have f3:=yb18.free 3
          have gH:=Lib.hid (And.intro g18 (And.intro g19 hne))
          have hbH:=Lib.hid hb5
          have z18:=Lib.hid (((((yb18.set 0 (.slice (some ⟨gk,0,none⟩) t ck)).set 1 (.slice (some ⟨gv,0,none⟩) t cv)).set 2 (.slice none 0 0)).set 3 (.int .u64 0)))
          have z19:=Lib.hid (((((yb19.other (p:=⟨b18,0,none⟩) (Ne.symm hne) (.slice (some ⟨gk,0,none⟩) t ck)).other (p:=⟨b18,1,none⟩) (Ne.symm hne) (.slice (some ⟨gv,0,none⟩) t cv)).other (p:=⟨b18,2,none⟩) (Ne.symm hne) (.slice none 0 0)).other (p:=⟨b18,3,none⟩) (Ne.symm hne) (.int .u64 0)))
          have hlow6:=Lib.hid (below_four hb5 g18 (.slice (some ⟨gk,0,none⟩) t ck) (.slice (some ⟨gv,0,none⟩) t cv) (.slice none 0 0) (.int .u64 0))
          refine hK _ _ (exw_below hb5) ?_
          clear hK K hW5 hb19 hb18 yb18 yb19 hb5 hne g18 g19 hs4 hb4
          refine wpTree_a _ rfl (fun K hK=> ?_)
          go_wp2
          refine hK _ _ (exw_below hlow6.out) ?_
          clear hK K c0 c1 c2 c3 f0 f1 f2 f3
          obtain⟨W6,hW6⟩: ∃W,W=(((W5.setCell ⟨b18,0,none⟩ (.slice (some ⟨gk,0,none⟩) t ck)).setCell ⟨b18,1,none⟩ (.slice (some ⟨gv,0,none⟩) t cv)).setCell ⟨b18,2,none⟩ (.slice none 0 0)).setCell ⟨b18,3,none⟩ (.int .u64 0):=⟨_,rfl⟩
          rw [←hW6]
          have hlow6:=hlow6.out
          have z18:=z18.out
          have z19:=z19.out
          rw [←hW6] at hlow6 z18 z19
          have c0:=z19.at' (i:=0) rfl
          have c1:=z19.at' (i:=1) rfl
          have c2:=z19.at' (i:=2) rfl
          have c3:=z19.at' (i:=3) rfl
          have f0:=z19.free 0
          have f1:=z19.free 1
          have f2:=z19.free 2
          have f3:=z19.free 3
          have hfin:=Lib.hid (Halves.mk (FF:=FB F bl) (t:=t) (n:=⟨n2.keys,n2.vals,[],sz1⟩) (below_four hlow6 gH.out.2.1 (.slice (some ⟨gk,t+1,none⟩) lr (ck-(t+1))) (.slice (some ⟨gv,t+1,none⟩) lr (cv-(t+1))) (.slice none 0 0) (.int .u64 0)) ((((z18.other (p:=⟨b19,0,none⟩) gH.out.2.2 _).other (p:=⟨b19,1,none⟩) gH.out.2.2 _).other (p:=⟨b19,2,none⟩) gH.out.2.2 _).other (p:=⟨b19,3,none⟩) gH.out.2.2 _) ((((z19.set 0 (.slice (some ⟨gk,t+1,none⟩) lr (ck-(t+1)))).set 1 (.slice (some ⟨gv,t+1,none⟩) lr (cv-(t+1)))).set 2 (.slice none 0 0)).set 3 (.int .u64 0)) gH.out.1 gH.out.2.1 gH.out.2.2 hvl15.out hvr15.out)
          clear hlow6 z18 z19 hW6 hbH
          refine wpTree_z _ rfl (by decide) (fun K hK=> ?_)
          go_wp2
          refine hK _ _ (wpTree_nil ?_)
          clear hK K
          go_wp2_with fail
          go_meet
          case rel=>exact⟨b18,b19,rfl,rfl,hfin⟩
       case rest=>
        obtain⟨b18,b19,rfl,rfl,hHa⟩:=hcut
        have x13b:=Lib.hid (x13A.out.below hHa.out.low)
        have x6b:=Lib.hid (x6A.out.below hHa.out.low)
        obtain⟨W15,hW15⟩: ∃W,W=wc:=⟨_,rfl⟩
        have q2:=x13b.out.at' (i:=2) rfl
        have q6:=x6b.out.at' (i:=1) rfl
        have hl3:=hl23.out.2.1
        clear x1 x2 x3 sk1 sv1 sk2 sv2 q0 hAH hW15
        obtain⟨Ai,ci,rfl⟩:=ownN_form ho2.out.r3
        go_upto_if 149 with (fail)
        go_cut [] from 146 (fun w18=> ∃l3 r3,Hid (Halves A w18 (FB F bl) b18 b19 t n2 (.slice (some ⟨gk,0,none⟩) t ck) (.slice (some ⟨gv,0,none⟩) t cv) l3 (.slice (some ⟨gk,t+1,none⟩) lr (ck-(t+1))) (.slice (some ⟨gv,t+1,none⟩) lr (cv-(t+1))) r3))
        case first=>
         as_aux_lemma=>
         by_cases hk0:n2.kids= []
         · have hkz:n2.kids.length=0:=by rw [hk0];rfl
           have hfin:Hid (∃l3 r3,Hid (Halves A wc (FB F bl) b18 b19 t n2 (.slice (some ⟨gk,0,none⟩) t ck) (.slice (some ⟨gv,0,none⟩) t cv) l3 (.slice (some ⟨gk,t+1,none⟩) lr (ck-(t+1))) (.slice (some ⟨gv,t+1,none⟩) lr (cv-(t+1))) r3)):=Lib.hid ⟨_,_,Lib.hid { hHa.out with
            vl:=by rw [hk0];exact hHa.out.vl
            vr:=by rw [hk0];exact hHa.out.vr }⟩
           clear hk0 hl3
           go_wp2_with fail
           go_meet
           case rel=>exact hfin.out
         · have hkz:0<n2.kids.length:=List.length_pos_iff.2 hk0
           have dz:decide ((n2.kids.length:Int)>0)=true:=decide_eq_true (by omega)
           have dz2:decide ((0:Int)<(n2.kids.length:Int))=true:=decide_eq_true (by omega)
           have hli:t+1+1<n2.kids.length:=by rcases hl3 with h9|h9;exact absurd h9 hk0;omega
           obtain⟨gi,ci',e1,hBi,hgi⟩:=row_some ho2.out.r3 hk0
           cases e1
           have hcapi:n2.kids.length≤ci:=by rcases row_capN ho2.out.r3 with h9|h9;exact h9.1;exact absurd h9.1 hk0
           have hCi:CellsF A (FB F bl) (some ⟨gi,0,none⟩) (hsV n2.kids):=by obtain⟨A',c',e9,h9⟩:=row_cellsF (F:=FB F bl) ho2.out.r3 hMs.out.2.2.2;cases e9;exact h9
           obtain⟨li,hli2⟩: ∃l,l=n2.kids.length-(t+1):=⟨_,rfl⟩
           have tk9:(n2.kids.take (t+1)).length=t+1:=by rw [List.length_take];omega
           have dk9:(n2.kids.drop (t+1)).length=li:=by rw [List.length_drop];omega
           have hli33:n2.kids.length≤33:=hl23.out.2.2
           obtain⟨t1k,ht1k⟩: ∃z,z=t+1:=⟨_,rfl⟩
           have sl1: ∀w,(Instr.slice 43 (.slice (some ⟨gi,0,none⟩) n2.kids.length ci) none (some (.int .i64 ((t:Int)+1))) none).run Tryz.prog w= .ok (.slice (some ⟨gi,0,none⟩) t1k ci) w:=fun w=>by
            have h9:=sl_h w gi ci n2.kids.length (t+1) (by omega)
            push_cast at h9
            rw [ht1k]
            exact h9
           have sl2:=fun w=>sl_l w gi ci n2.kids.length t li (by omega) hcapi (by omega) hli2
           have hfin:Hid (∀W,W=((wc.setCell ⟨b18,2,none⟩ (.slice (some ⟨gi,0,none⟩) t1k ci)).setCell ⟨b19,2,none⟩ (.slice (some ⟨gi,t+1,none⟩) li (ci-(t+1)))).drew→ ∃l3 r3,Hid (Halves A W (FB F bl) b18 b19 t n2 (.slice (some ⟨gk,0,none⟩) t ck) (.slice (some ⟨gv,0,none⟩) t cv) l3 (.slice (some ⟨gk,t+1,none⟩) lr (ck-(t+1))) (.slice (some ⟨gv,t+1,none⟩) lr (cv-(t+1))) r3)):=Lib.hid fun W hW=>by
            subst hW
            have h9:=hHa.out
            refine⟨.slice (some ⟨gi,0,none⟩) t1k ci, .slice (some ⟨gi,t+1,none⟩) li (ci-(t+1)),Lib.hid ⟨((h9.low.setCell (p:=⟨b18,2,none⟩) h9.g18 _).setCell (p:=⟨b19,2,none⟩) h9.g19 _).drew,box_drew ((h9.x18.set 2 _).other (p:=⟨b19,2,none⟩) h9.ne _),box_drew ((h9.x19.other (p:=⟨b18,2,none⟩) (Ne.symm h9.ne) _).set 2 _),h9.g18,h9.g19,h9.ne, ?_, ?_⟩⟩
            · obtain⟨⟨u1,c1,u2,c2,u3,c3,e,k1,k2,k3⟩,m1,m2,m3⟩:=h9.vl
              refine⟨⟨u1,c1,u2,c2,some ⟨gi,0,none⟩,ci, ?_,k1,k2,hCi.takeN (t+1)⟩,m1,m2,by show(n2.kids.take (t+1)).length≤_;omega⟩
              have e9:(n2.kids.take (t+1)).length=t1k:=by rw [tk9,ht1k]
              simp only [Value.agg.injEq] at e ⊢
              simp only [e9]
              simp at e ⊢
              exact⟨e.1,e.2.1⟩
            · obtain⟨⟨u1,c1,u2,c2,u3,c3,e,k1,k2,k3⟩,m1,m2,m3⟩:=h9.vr
              refine⟨⟨u1,c1,u2,c2,some ⟨gi,t+1,none⟩,ci-(t+1), ?_,k1,k2,by have h8:=hCi.drop (t+1);rwa [Nat.zero_add] at h8⟩,m1,m2,by show(n2.kids.drop (t+1)).length≤_;omega⟩
              simp only [Value.agg.injEq] at e ⊢
              simp only [dk9]
              simp at e ⊢
              exact⟨e.1,e.2.1⟩
           have c18:=hHa.out.x18.at' (i:=2) rfl
           have c19:=hHa.out.x19.at' (i:=2) rfl
           have f18:=hHa.out.x18.free 2
           have f19:=hHa.out.x19.free 2
           have hne:=hHa.out.ne
           have x1:=fun X:Exw (fun z=>z=b18) wc=>X.cell q2 (show¬b13=b18 by have:=hHa.out.g18;have:=x13A.out.lt;omega)
           have x2:=fun X:Exw (fun z=>z=b18) wc=>X.cell q6 (show¬b6=b18 by have:=hHa.out.g18;have:=x6A.out.lt;omega)
           clear hk0 hl3 hBi hgi hcapi hCi hli2 tk9 dk9 hli hli33 ht1k
           go_upto_region 17 with (fail)
           refine wp_region_tree (fun w' => ∃X:Exw (fun z=>z=b18) wc,w' =X.W) [14,15] (.r 0<| .r 1<| .r 2<| .r 3<| .r 4<| .r 5<| .r 6<| .r 7<| .r 8<| .r 9<| .r 10<| .r 11<| .r 12<| .a 13<| .a 14<| .a 15<| .nil) hmo (by kernel_rfl) (by kernel_rfl) (by kernel_rfl) (exw_start _ _) (fun _ _ d _ _ h=>by cases d<;>exact h) ?_
           iterate 13 (refine wpTree_r _ _ rfl rfl (by rintro _ ⟨X,rfl⟩;go_simp;exact rfl) ?_;go_simp)
           clear x1 x2 sl1 sl2
           refine wpTree_a _ rfl (fun K hK=> ?_)
           go_wp2
           refine hK _ _ (exw_then (exw_set (B:=fun z=>z=b18) (p:=⟨b18,2,none⟩) (exw_below (Below.refl _ _)) rfl _) (below_drawn _)) ?_
           clear hK K
           refine wpTree_z _ rfl (by decide) (fun K hK=> ?_)
           go_wp2
           refine hK _ _ ?_
           clear hK K
           refine wpTree_z _ rfl (by decide) (fun K hK=> ?_)
           go_wp2
           refine hK _ _ (wpTree_nil ?_)
           clear hK K
           go_wp2_with fail
           go_meet
           case rel=>exact hfin.out _ rfl
        case rest=>
         obtain⟨l3,r3,hHv⟩:=hcut
         obtain⟨⟨a1,c1,a2,c2,Ar,cr,er,kr1,kr2,kr3⟩,llr⟩:=hHv.out.vr
         obtain⟨kd,hkd⟩: ∃l,l=n2.kids.drop (t+1):=⟨_,rfl⟩
         dsimp only at er kr3 llr
         rw [←hkd] at er kr3
         have er3:r3= .slice Ar kd.length cr:=by
          simp only [Value.agg.injEq] at er
          simp at er
          exact er.2.2
         subst er3
         have hkd33:kd.length≤33:=by rw [hkd,List.length_drop];have:=hl23.out.2.2;omega
         have hkd64:Hid (∀j (hj:j<kd.length),kd[j]<18446744073709551616):=Lib.hid fun j hj=>by
          have h9:kd[j]∈n2.kids.drop (t+1):=by rw [←hkd];exact List.getElem_mem hj
          exact hok2.out.kids _ (List.mem_of_mem_drop h9)
         have hSz:Hid (∀W,Below A.heap.size A W→ ∀y,y<18446744073709551616→Calls Tryz.prog 27 #[.agg #[.pointer (some ⟨s,0,none⟩), .int .i64 (t:Nat)], .int .u64 (y:Nat)] W fun e w' =>e= .returned (.int .i64 (bszR R2 t y))∧Below W.heap.size W w'):=Lib.hid fun W hb y hy=>by
          obtain⟨N9,hr9,_⟩:=hE2.out.str.rd
          exact btSize_at (hr9.below hb) t htH.out y hy
         have hsz9:Hid (∀y,(bnG R2 t y).size<18446744073709551616):=Lib.hid fun y=>by
          by_cases he9:bnE R2 t y=0
          · obtain⟨N9,hr9,_⟩:=hE2.out.str.rd
            exact(bnG_words hr9 htH.out he9).2.2.2.2
          · rw [bnG_off he9];show 0<_;decide
         obtain⟨S,hS⟩: ∃S:Nat→Nat,S=fun j=>rsum R2 t (kd.take j) lr:=⟨_,rfl⟩
         have hS0:Hid (S 0=lr):=Lib.hid (by rw [hS];rfl)
         have hSs:Hid (∀j (hj:j<kd.length),IntKind.u64.wrap ((S j:Int)+IntKind.u64.wrap (bszR R2 t kd[j]))=(S (j+1):Int)):=Lib.hid fun j hj=>by
          rw [bsz_step R2 t _ _ (hsz9.out _),hS]
          show _=((rsum R2 t (kd.take (j+1)) lr:Nat):Int)
          rw [rsum_step R2 t kd lr j hj]
         have hSl:Hid (∀j,S j<18446744073709551616):=Lib.hid fun j=>by rw [hS];exact rsum_lt R2 t _ _ (by omega)
         have hSe:Hid (S kd.length=(rightOf R2 t n2.more).size):=Lib.hid (by
          rw [hS]
          show rsum R2 t (kd.take kd.length) lr=rsum R2 t (n2.kids.drop (t+1)) (n2.keys.length-(t+1))
          rw [List.take_length,hlrH.out,hkd])
         have wlr:IntKind.u64.wrap (lr:Int)=(lr:Int):=by rw [wrapU];unfold toU;omega
         have c0:=hHv.out.x19.at' (i:=0) rfl
         have c2:=hHv.out.x19.at' (i:=2) rfl
         have c3:=hHv.out.x19.at' (i:=3) rfl
         have f3:=hHv.out.x19.free 3
         have hst0:Hid (Lp A (wc.setCell ⟨b19,3,none⟩ (.int .u64 (lr:Nat))) b18 b19 (.slice (some ⟨gk,0,none⟩) t ck) (.slice (some ⟨gv,0,none⟩) t cv) l3 (.slice (some ⟨gk,t+1,none⟩) lr (ck-(t+1))) (.slice (some ⟨gv,t+1,none⟩) lr (cv-(t+1))) (.slice Ar kd.length cr) (S 0)):=Lib.hid ⟨hHv.out.low.setCell (p:=⟨b19,3,none⟩) hHv.out.g19 _,hHv.out.x18.other (p:=⟨b19,3,none⟩) hHv.out.ne _,by rw [hS0.out];exact hHv.out.x19.set 3 _⟩
         have hkr3:=Lib.hid kr3
         have hvlH:=Lib.hid hHv.out.vl
         have hvrH:=Lib.hid hHv.out.vr
         have hg:=Lib.hid (And.intro hHv.out.g18 (And.intro hHv.out.g19 hHv.out.ne))
         have hkdH:=Lib.hid hkd
         clear er kr1 kr2 kr3 llr hS hHv hHa hkd q2 q6 hl3
         go_wp2
         go_loopw [172] (fun kv wr=> ∃j:Nat,j≤kd.length∧kv= .int .i64 j∧Hid (Lp A wr b18 b19 (.slice (some ⟨gk,0,none⟩) t ck) (.slice (some ⟨gv,0,none⟩) t cv) l3 (.slice (some ⟨gk,t+1,none⟩) lr (ck-(t+1))) (.slice (some ⟨gv,t+1,none⟩) lr (cv-(t+1))) (.slice Ar kd.length cr) (S j))) (fun kv _=>kd.length-(intOf kv).toNat)
         case atStart=>exact⟨0,Nat.zero_le _,rfl,hst0.out |> Lib.hid⟩
         case round=>
          clear c0 c2 c3 f3 hst0
          obtain⟨j,hj,rfl,hr⟩:=hrel
          by_cases hlt2:j<kd.length
          ·
           as_aux_lemma=>
           obtain⟨b5,o5,hA5,hbl5,hf5,hcell⟩:=hkr3.out.num2 hlt2
           have hck:=hcell wr hr.out.low
           have hy64:=hkd64.out j hlt2
           have hSj:=hSs.out j hlt2
           obtain⟨y,hy⟩: ∃y,kd[j]=y:=⟨_,rfl⟩
           rw [hy] at hck hy64 hSj
           obtain⟨bz,hbz⟩: ∃z,z=bszR R2 t y:=⟨_,rfl⟩
           rw [←hbz] at hSj
           have hSzj:=Lib.hid (hSz.out wr.drew (hr.out.low.trans ((below_drawn wr).mono hr.out.low.size)) y hy64)
           rw [←hbz] at hSzj
           subst hA5
           have x1:=fun X:Exw (fun _=>False) wr=>X.cell (hr.out.x19.at' (i:=3) rfl) (fun h=>h)
           have x2:=fun X:Exw (fun _=>False) wr=>X.cell ((x6A.out.below hr.out.low).at' (i:=0) rfl) (fun h=>h)
           have x3:=fun X:Exw (fun _=>False) wr=>X.cell ((x6A.out.below hr.out.low).at' (i:=1) rfl) (fun h=>h)
           have hj33:(j:Int)<40:=by omega
           have hnext:Hid (∀w5,Below wr.drew.heap.size wr.drew w5→Lp A (w5.setCell ⟨b19,3,none⟩ (.int .u64 (S (j+1):Nat))) b18 b19 (.slice (some ⟨gk,0,none⟩) t ck) (.slice (some ⟨gv,0,none⟩) t cv) l3 (.slice (some ⟨gk,t+1,none⟩) lr (ck-(t+1))) (.slice (some ⟨gv,t+1,none⟩) lr (cv-(t+1))) (.slice (some ⟨b5,o5,none⟩) kd.length cr) (S (j+1))):=Lib.hid fun w5 hb5=>by
            have h9:Below wr.heap.size wr w5:=(below_drawn wr).trans (hb5.mono (Nat.le_refl _))
            exact⟨(hr.out.low.trans (h9.mono hr.out.low.size)).setCell (p:=⟨b19,3,none⟩) hg.out.2.1 _,(hr.out.x18.below h9).other (p:=⟨b19,3,none⟩) hg.out.2.2 _,(hr.out.x19.below h9).set 3 _⟩
           have x19r:=Lib.hid hr.out.x19
           clear hcell hy hbz hr
           go_upto_region 22 with (fail)
           refine wp_region_tree (fun w' => ∃X:Exw (fun _=>False) wr,w' =X.W) [6,7,8] (.r 0<| .r 1<| .r 2<| .r 3<| .a 4<| .r 5<| .a 6<| .a 7<| .a 8<| .nil) hmo (by kernel_rfl) (by kernel_rfl) (by kernel_rfl) (exw_start _ _) (fun _ _ d _ _ h=>by cases d<;>exact h) ?_
           iterate 4 (refine wpTree_r _ _ rfl rfl (by rintro _ ⟨X,rfl⟩;go_simp;exact rfl) ?_;go_simp)
           clear x2 x3 x1
           refine wpTree_a _ rfl (fun K hK=> ?_)
           go_wp2_with fail
           refine hSzj.out.mono ?_
           rintro e w5 ⟨rfl,hb5⟩
           have h95:Below wr.heap.size wr w5:=(below_drawn wr).trans (hb5.mono (Nat.le_refl _))
           have hn5:=Lib.hid (hnext.out w5 hb5)
           have z19:=x19r.out.below h95
           have c3:=z19.at' (i:=3) rfl
           have f3:=z19.free 3
           have hex:=exw_below (B:=fun _=>False) h95
           clear hb5 hnext h95 z19 hSzj
           go_wp2
           refine hK _ _ hex ?_
           clear hK K hex
           refine wpTree_r _ _ rfl rfl (by rintro _ ⟨X,rfl⟩;go_simp;exact rfl) ?_
           go_simp
           refine wpTree_z _ rfl (by decide) (fun K hK=> ?_)
           go_wp2
           refine hK _ _ ?_
           clear hK K
           refine wpTree_z _ rfl (by decide) (fun K hK=> ?_)
           go_wp2
           refine hK _ _ ?_
           clear hK K
           refine wpTree_z _ rfl (by decide) (fun K hK=> ?_)
           go_wp2
           refine hK _ _ (wpTree_nil ?_)
           clear hK K
           go_wp2
           go_roundw
           case rel=>exact⟨j+1,by omega,by go_num,hn5⟩
           case measure=>simp [intOf];omega
          ·
           as_aux_lemma=>
           obtain rfl:j=kd.length:=by omega
           clear hj hlt2
           obtain⟨rs,hrs⟩: ∃z,z=S kd.length:=⟨_,rfl⟩
           have hrs64:rs<18446744073709551616:=by rw [hrs];exact hSl.out _
           rw [←hrs] at hr
           obtain⟨z1,hz1,hz1l,hz2⟩:=left_wrap sz1 rs hsz64 hrs64
           obtain⟨ls,hls⟩: ∃z,z=(sz1+36893488147419103232-rs-1)%18446744073709551616:=⟨_,rfl⟩
           rw [←hls] at hz2
           have hRO:rightOf R2 t n2.more=⟨n2.keys.drop (t+1),n2.vals.drop (t+1),n2.kids.drop (t+1),rs⟩:=by
            rw [show rightOf R2 t n2.more=⟨n2.keys.drop (t+1),n2.vals.drop (t+1),n2.kids.drop (t+1),(rightOf R2 t n2.more).size⟩ from rfl,←hSe.out,←hrs]
           have hLO:leftOf t n2.more rs=⟨n2.keys.take t,n2.vals.take t,n2.kids.take (t+1),ls⟩:=by rw [hls,hszH2.out];rfl
           have hls64:ls<18446744073709551616:=by rw [hls];exact Nat.mod_lt _ (by decide)
           have hD3:Hid (D=(bsplit.proj R2 t x st2 n2 ls rs)):=Lib.hid (by
            rw [hDH2.out]
            unfold bsplit
            rw [if_neg (by exact hlt)]
            dsimp only
            rw [hRO,show(BN.mk (n2.keys.drop (t+1)) (n2.vals.drop (t+1)) (n2.kids.drop (t+1)) rs).size=rs from rfl,hLO]
            rfl)
           have hw24:Hid (Lp A wr b18 b19 (.slice (some ⟨gk,0,none⟩) t ck) (.slice (some ⟨gv,0,none⟩) t cv) l3 (.slice (some ⟨gk,t+1,none⟩) lr (ck-(t+1))) (.slice (some ⟨gv,t+1,none⟩) lr (cv-(t+1))) (.slice Ar kd.length cr) rs):=hr
           obtain⟨W24,hW24⟩: ∃W,W=wr.setCell ⟨b18,3,none⟩ (.int .u64 (ls:Nat)):=⟨_,rfl⟩
           have low24:Below A.heap.size A W24:=by rw [hW24];exact hr.out.low.setCell (p:=⟨b18,3,none⟩) hg.out.1 _
           have x18c:Box W24 b18 48 [.slice (some ⟨gk,0,none⟩) t ck, .slice (some ⟨gv,0,none⟩) t cv,l3, .int .u64 (ls:Nat)]:=by rw [hW24];exact hr.out.x18.set 3 _
           have x19c:Box W24 b19 48 [.slice (some ⟨gk,t+1,none⟩) lr (ck-(t+1)), .slice (some ⟨gv,t+1,none⟩) lr (cv-(t+1)), .slice Ar kd.length cr, .int .u64 (rs:Nat)]:=by rw [hW24];exact hr.out.x19.other (p:=⟨b18,3,none⟩) (Ne.symm hg.out.2.2) _
           have hE24:=hE2.out.low (low24.mono hMs.out.2.2.1)
           have hV24:BNV W24 F (.agg #[.slice (some ⟨gk,0,none⟩) t ck, .slice (some ⟨gv,0,none⟩) t cv,l3, .int .u64 (ls:Nat)]) ⟨n2.keys.take t,n2.vals.take t,n2.kids.take (t+1),ls⟩:=((hvlH.out.turn (Turn.below (F:=FB F bl) low24)).less fun z hz=> .inl hz).sized
           have hokL:(BN.mk (n2.keys.take t) (n2.vals.take t) (n2.kids.take (t+1)) ls).Ok:=⟨fun z hz=>hok2.out.keys z (List.mem_of_mem_take hz),fun z hz=>hok2.out.vals z (List.mem_of_mem_take hz),fun z hz=>hok2.out.kids z (List.mem_of_mem_take hz),hls64⟩
           have hPut:=Lib.hid (bnPut_at hE24.str t htH.out x hx hV24 hokL)
           have hE24H:=Lib.hid hE24
           have hls64H:=Lib.hid (And.intro hls64 hrs64)
           have c18:=hr.out.x18.free 3
           have c183:=hr.out.x18.at' (i:=3) rfl
           have c19:=hr.out.x19.at' (i:=3) rfl
           have c13:=(x13A.out.below hr.out.low).at' (i:=3) rfl
           have x18H:=Lib.hid x18c
           have x19H:=Lib.hid x19c
           have lowH:=Lib.hid low24
           have hWH:=Lib.hid hW24
           have hls9:=Lib.hid hls
           clear hRO hLO hrs hr hw24 hV24 hokL hE24 x18c x19c low24 hW24 hls
           go_upto_region 25 with (fail)
           rw [←hWH.out]
           clear c18 c183 c19 c13 hz1 hz2
           have q0:=x18H.out.at' (i:=0) rfl
           have q1:=x18H.out.at' (i:=1) rfl
           have q2:=x18H.out.at' (i:=2) rfl
           have q3:=x18H.out.at' (i:=3) rfl
           have e60:=(x6A.out.below lowH.out).at' (i:=0) rfl
           have e61:=(x6A.out.below lowH.out).at' (i:=1) rfl
           go_wp2_with fail
           refine hPut.out.mono ?_
           unfold BPut
           rintro e w25 ⟨rfl,hS25,hT25⟩
           have hE25:=hE24H.out.turn hS25 hT25 (fits_short htH.out hE24H.out.sh)
           have hT25w:=(hT2.out.low (lowH.out.mono hT2.out.size)).trans hT25.fb
           have hM25:M≤w25.heap.size:=Nat.le_trans hMH.out hT25w.size
           have nfF: ∀{z},¬FB F bl z→ ¬F z:=fun h h2=>h (.inl h2)
           have nF19: ¬FB F bl b19:=fun h9=>by have:=hEH.out.fb b19 h9;have:=hg.out.2.1;have:=hMs.out.2.2.1;omega
           have x19d:=x19H.out.turn hT25 (nfF nF19)
           have x13d:=(x13A.out.below lowH.out).turn hT25 (nfF nFH.out.1)
           have x6d:=(x6A.out.below lowH.out).turn hT25 (nfF nFH.out.2.1)
           have x12d:=(x12A.out.below lowH.out).turn hT25 (nfF nFH.out.2.2)
           have ht9:t<n2.keys.length:=by omega
           have ht9v:t<n2.vals.length:=by omega
           obtain⟨bk,ok,ek,hblk,hfk,hcellk⟩:=((hCkv.out.1.turn (Turn.below (F:=FB F bl) lowH.out)).turn hT25.fb).num2 ht9
           cases ek
           obtain⟨bv,ov,ev,hblv,hfv,hcellv⟩:=((hCkv.out.2.turn (Turn.below (F:=FB F bl) lowH.out)).turn hT25.fb).num2 ht9v
           cases ev
           have ck26:=hcellk w25 (Below.refl _ _)
           have cv26:=hcellv w25 (Below.refl _ _)
           rw [Nat.zero_add] at ck26 cv26
           have hka64:=hok2.out.keys _ (List.getElem_mem ht9)
           have hva64:=hok2.out.vals _ (List.getElem_mem ht9v)
           have hka2:n2.keys.getD t 0=n2.keys[t]:=by simp [ht9]
           have hva2:n2.vals.getD t 0=n2.vals[t]:=by simp [ht9v]
           obtain⟨ka,hka⟩: ∃z,n2.keys[t]=z:=⟨_,rfl⟩
           obtain⟨va,hva⟩: ∃z,n2.vals[t]=z:=⟨_,rfl⟩
           have hka64:ka<18446744073709551616:=by rw [←hka];exact hka64
           have hva64:va<18446744073709551616:=by rw [←hva];exact hva64
           rw [hka] at ck26 hka2
           rw [hva] at cv26 hva2
           obtain⟨p,hp⟩: ∃p,p=btake (bputR R2 t x ⟨n2.keys.take t,n2.vals.take t,n2.kids.take (t+1),ls⟩) t st2.reverse ⟨n2.keys.drop (t+1),n2.vals.drop (t+1),n2.kids.drop (t+1),rs⟩:=⟨_,rfl⟩
           have hD4:Hid (D=(p.1,p.2.1,some (ka,va,p.2.2))):=Lib.hid (by rw [hD3.out,hp,←hka2,←hva2];rfl)
           have hE25d:=hE25.low ((below_drawn w25).mono hM25)
           obtain⟨vt,hvt,hTk⟩:=hE25d.tk
           have hVr:BNV w25.drew (FB F bl) (.agg #[.slice (some ⟨gk,t+1,none⟩) lr (ck-(t+1)), .slice (some ⟨gv,t+1,none⟩) lr (cv-(t+1)), .slice Ar kd.length cr, .int .u64 (rs:Nat)]) ⟨n2.keys.drop (t+1),n2.vals.drop (t+1),n2.kids.drop (t+1),rs⟩:=(((hvrH.out.turn (Turn.below (F:=FB F bl) lowH.out)).turn hT25.fb).turn (Turn.below (F:=FB F bl) (below_drawn w25))).sized
           have hokR:(BN.mk (n2.keys.drop (t+1)) (n2.vals.drop (t+1)) (n2.kids.drop (t+1)) rs).Ok:=⟨fun z hz=>hok2.out.keys z (List.mem_of_mem_drop hz),fun z hz=>hok2.out.vals z (List.mem_of_mem_drop hz),fun z hz=>hok2.out.kids z (List.mem_of_mem_drop hz),hls64H.out.2⟩
           have hTake:=btTake_at hE25d.str htH.out hTk hE25d.hN hE25d.hbN hE25d.w64 hE25d.len hVr hokR
           rw [←hp,hvt] at hTake
           have hTakeH:=Lib.hid hTake
           have hE25H:=Lib.hid hE25d
           have hpH:=Lib.hid hp
           have hkv64:=Lib.hid (And.intro hka64 hva64)
           have x1:=fun X:Exw (FB F bl) w25=>X.cell (x13d.at' (i:=0) rfl) nFH.out.1
           have x2:=fun X:Exw (FB F bl) w25=>X.cell (x13d.at' (i:=1) rfl) nFH.out.1
           have x3:=fun X:Exw (FB F bl) w25=>X.cell (x6d.at' (i:=1) rfl) nFH.out.2.1
           have x4:=fun X:Exw (FB F bl) w25=>X.cell ck26 hfk
           have x5:=fun X:Exw (FB F bl) w25=>X.cell cv26 hfv
           have x6:=fun X:Exw (FB F bl) w25=>X.cell (x19d.at' (i:=0) rfl) nF19
           have x7:=fun X:Exw (FB F bl) w25=>X.cell (x19d.at' (i:=1) rfl) nF19
           have x8:=fun X:Exw (FB F bl) w25=>X.cell (x19d.at' (i:=2) rfl) nF19
           have x9:=fun X:Exw (FB F bl) w25=>X.cell (x19d.at' (i:=3) rfl) nF19
           have x12H:=Lib.hid (box_drew x12d)
           have hT25H:=Lib.hid (hT25w.trans (Turn.below (below_drawn w25)))
           clear hE25 hT25w hM25 nfF nF19 x19d x13d x6d x12d hcellk hcellv ck26 cv26 hka hva hka2 hva2 hp hVr hokR hTake hE25d hTk hS25 hT25 hka64 hva64 q0 q1 q2 q3 e60 e61 hPut hblk hblv hfk hfv
           go_upto_region 26 with (fail)
           refine wp_region_tree (fun w' => ∃X:Exw (FB F bl) w25,w' =X.W) [16,17] (.r 0<| .r 1<| .r 2<| .r 3<| .r 4<| .r 5<| .r 6<| .r 7<| .r 8<| .r 9<| .r 10<| .r 11<| .r 12<| .r 13<| .r 14<| .a 15<| .a 16<| .a 17<| .nil) hmo (by kernel_rfl) (by kernel_rfl) (by kernel_rfl) (exw_start _ _) (fun _ _ d _ _ h=>by cases d<;>exact h) ?_
           iterate 15 (refine wpTree_r _ _ rfl rfl (by rintro _ ⟨X,rfl⟩;go_simp;exact rfl) ?_;go_simp)
           clear x1 x2 x3 x4 x5 x6 x7 x8 x9
           refine wpTree_a _ rfl (fun K hK=> ?_)
           go_wp2_with fail
           refine hTakeH.out.mono ?_
           rintro e w26 ⟨v',st',hv',rfl,hst',hS26,hT26,hTk26⟩
           have hE26:=hE25H.out.take htH.out hpH.out hv' hst' hS26 hT26 hTk26
           have hT26H:=Lib.hid (hT25H.out.trans hT26)
           have hex:=exw_turn ((Turn.below (F:=FB F bl) (below_drawn w25)).trans hT26)
           have r12:=x12H.out.turn hT26 nFH.out.2.2
           have hE26H:=Lib.hid hE26
           obtain⟨p1,p2,p3⟩:=p
           dsimp only
           have k0:=r12.free 0
           have k1:=r12.free 1
           have k2:=r12.free 2
           have k3:=r12.free 3
           have j0:=r12.at' (i:=0) rfl
           have j1:=r12.at' (i:=1) rfl
           have j2:=r12.at' (i:=2) rfl
           have j3:=r12.at' (i:=3) rfl
           have hq:=Lib.hid ((((r12.set 0 (.bool true)).set 1 (.int .u64 (ka:Nat))).set 2 (.int .u64 (va:Nat))).set 3 (.int .u64 (p3:Nat)))
           clear hE26 hT26 hS26 hTk26 r12 hTakeH hst' hv'
           go_wp2
           refine hK _ _ hex ?_
           clear hK K hex
           refine wpTree_z _ rfl (by decide) (fun K hK=> ?_)
           go_wp2
           refine hK _ _ ?_
           clear hK K
           refine wpTree_z _ rfl (by decide) (fun K hK=> ?_)
           go_wp2
           refine hK _ _ (wpTree_nil ?_)
           clear hK K
           go_wp2
           have r0:=hq.out.at' (i:=0) rfl
           have r1:=hq.out.at' (i:=1) rfl
           have r2:=hq.out.at' (i:=2) rfl
           have r3:=hq.out.at' (i:=3) rfl
           refine bodyPost_ret (v:= .agg #[.bool true, .int .u64 (ka:Nat), .int .u64 (va:Nat), .int .u64 (p3:Nat)]) (by simp [results,Tryz.f33,go_sem,r0,r1,r2,r3]) rfl ?_
           rw [hD4.out]
           have hgg:=grown_trans (grown_trans (grown_trans (grown_set w26 b12 0 (.bool true)) (grown_set _ b12 1 (.int .u64 (ka:Nat)))) (grown_set _ b12 2 (.int .u64 (va:Nat)))) (grown_set _ b12 3 (.int .u64 (p3:Nat)))
           exact⟨rfl,hE26H.out.1.grow hMs.out.1 (Nat.le_trans hMH.out hT26H.out.size) hgg,hT26H.out.grown hMs.out.2.1 hgg,fun a b r h=>by cases h;exact⟨hkv64.out.1,hkv64.out.2,hE26H.out.2⟩⟩
  · rw [decide_eq_false he]
    have hdd:D=(R,st.reverse,none):=by rw [hDH.out];exact bins_off he
    clear he
    have v12:=z12.out
    have k0:=v12.free 0
    have k1:=v12.free 1
    have k2:=v12.free 2
    have k3:=v12.free 3
    have j0:=v12.at' (i:=0) rfl
    have j1:=v12.at' (i:=1) rfl
    have j2:=v12.at' (i:=2) rfl
    have j3:=v12.at' (i:=3) rfl
    have hf:=Lib.hid (bin_none hEH.out hMH.out hdd (below_four hbw3.out (show w.heap.size≤b12 by have:=hW0H.out.2.2.2;omega) (.bool false) (.int .u64 0) (.int .u64 0) (.int .u64 0)))
    have hq:=Lib.hid ((((v12.set 0 (.bool false)).set 1 (.int .u64 0)).set 2 (.int .u64 0)).set 3 (.int .u64 0))
    clear v12 hdd
    rw [hW3H.out.1] at k0 k1 k2 k3 j0 j1 j2 j3
    go_wp2
    rw [←hW3H.out.1]
    have r0:=hq.out.at' (i:=0) rfl
    have r1:=hq.out.at' (i:=1) rfl
    have r2:=hq.out.at' (i:=2) rfl
    have r3:=hq.out.at' (i:=3) rfl
    refine bodyPost_ret (v:= .agg #[.bool false, .int .u64 0, .int .u64 0, .int .u64 0]) (by simp [results,Tryz.f33,go_sem,r0,r1,r2,r3]) rfl hf.out
end
end Go.Proofs.YthcmecokejemcaaGreatDoor
