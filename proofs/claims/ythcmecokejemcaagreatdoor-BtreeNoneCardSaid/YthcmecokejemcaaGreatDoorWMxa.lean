/-
  The seat's own texts, part xa: Bk3, Bk4, SoP.
-/
import Derived.Test.YthcmecokejemcaaGreatDoorWMz
import Derived.Deep.CutRange
set_option linter.unusedSimpArgs false
set_option linter.unusedVariables false
set_option maxHeartbeats 4000000
namespace Go.Proofs.YthcmecokejemcaaGreatDoor
open Go.RowKit Go.Shelf
def itC(p:Nat × Nat):List Value:= [.int .u64 (p.1:Nat), .int .u64 (p.2:Nat)]
theorem app_it{ops:Array Oper}{rest:List Oper}{o:Oper}{a:Act}{Q:Exit→Act→World→Prop}(hgd:o.guard=none)(s x:Operand)
 (ho:o.op= .call { callee:= .builtin .append,args:= #[s,x],argTypes:= #[41,41] }) (w:World) (base:Nat) (v:Value) (xs:List (Nat × Nat)) (hs:a.eval s=v)
 (hown:w.ownsRow base 31 2 v xs.length (itmV xs)) (b:Nat) (y:Nat × Nat) (hx:a.eval x= .slice (some ⟨b,0,none⟩) 1 1) (hr: ∀j u,(itC y)[j]? =some u→w.cell? ⟨b,j,none⟩=some u) (hlen:xs.length≤9000000) (hbase:base≤w.heap.size)
 (h: ∀v' w',w'.ownsRow base 31 2 v' (xs++ [y]).length (itmV (xs++ [y]))→w.grownBy w' v.ownBlock→(v'.ownBlock=v.ownBlock∨v'.ownBlock=some w.heap.size)→wpList Tryz.prog ops Q rest (a.put o.dst v') w'):
 wpList Tryz.prog ops Q (o::rest) a w:=by
 obtain⟨i0,hi,hz0,hz1,hz2⟩:=info_parts Tryz.info_item
 have hcells: ∀j u,(itC y)[j]? =some u→w.cell? ((⟨b,0,none⟩:Addr).add j)=some u:=by
  intro j u hu
  rw [show(⟨b,0,none⟩:Addr).add j=⟨b,j,none⟩ by unfold Addr.add;split<;>simp_all]
  exact hr j u hu
 refine wpList_append_own_at w hgd s x 41 ho base 31 i0 _ 2 16 Tryz.under_items hi hz0 hz1 hz2 rfl (by decide) v xs.length (itmV xs) hs hown ⟨b,0,none⟩ 1 1 (itC y) hx rfl hcells (by simp [itC,Value.oneCell']) (by unfold maxLen;omega) (by omega) hbase ?_
 intro v' w' h1 h2 _ h4
 exact h v' w' (by rw [List.length_append,itmV_snoc];exact h1) h2 h4
theorem it_new(W:World)(y:Nat × Nat)(b:Nat)(hb:b=W.heap.size)(T:TypeId)(j:Nat)(u:Value)(h:(itC y)[j]? =some u):(W.alloc (.cells #[.int .u64 (y.1:Nat), .int .u64 (y.2:Nat)] T)).cell? ⟨b,j,none⟩=some u:=by
 subst hb
 exact(Box.new W T (itC y)).at' h
theorem exw_lw{w W W' :World}{r r' :Option Nat}{bl:Nat}(hb:Below w.heap.size w W)(h:Lw W W' r r' bl): ∃X:Exw (fun b=>some b=r∨b=bl) w,W' =X.W:=
 ⟨⟨W',Nat.le_trans hb.size h.size,fun k hk hn=>(h.keep k (Nat.lt_of_lt_of_le hk hb.size) (fun e=>hn (.inl e)) (fun e=>hn (.inr e))).trans (hb.block k hk)⟩,rfl⟩
theorem exw_grown{w W W' :World}{r:Option Nat}{bl:Nat}(hb:Below w.heap.size w W)(h:W.grownBy W' r): ∃X:Exw (fun b=>some b=r∨b=bl) w,W' =X.W:=
 ⟨⟨W',Nat.le_trans hb.size h.size,fun k hk hn=>(h.block k (Nat.lt_of_lt_of_le hk hb.size) (fun e=>hn (.inl e))).trans (hb.block k hk)⟩,rfl⟩
def ListR(N:Nat)(w:World)(r:Option Nat)(bl:Nat)(o:List (Nat × Nat) × Nat)(e:Ending)(w' :World):Prop:=
 ∃v',e= .returned v' ∧w'.ownsRow N 31 2 v' o.1.length (itmV o.1)∧Box w' bl 3 [.int .i64 (o.2:Nat)]∧Lw w w' r v'.ownBlock bl
section
variable {s N:Nat} {R:Nat→Option (List Nat)} {nn:Nat}
set_option maxRecDepth 100000 in
theorem btList_at(t:Nat)(ht:BN.Deg t): ∀(f:Nat),f≤40→ ∀(w:World) (h:Rd N w s R nn) (hN:N≤w.heap.size) (x:Nat) (hx:x<18446744073709551616) (out:List (Nat × Nat)) (left bl:Nat) (v:Value) (hrow:w.ownsRow N 31 2 v out.length (itmV out)) (hbl:Box w bl 3 [.int .i64 (left:Nat)]) (hblN:N≤bl) (hne:v.ownBlock≠some bl) (hol:out.length+33*left≤8650785),
 Calls Tryz.prog 39 #[.agg #[.pointer (some ⟨s,0,none⟩), .int .i64 (t:Nat)],v, .int .u64 (x:Nat), .pointer (some ⟨bl,0,none⟩), .int .i64 ((40-f:Nat):Int)] w (ListR N w v.ownBlock bl (blist R t f (out,left) x)):=by
 intro f
 induction f with
 |zero=>
  intro _ w h hN x hx out left bl v hrow hbl hblN hne hol
  obtain⟨A,c,hv⟩: ∃A c,v= .slice A out.length c:=by
   rcases hrow.2 with ⟨h1,h2⟩|⟨g,cap,cur,h1,_⟩
   · exact⟨none,0,by rw [h1,h2]⟩
   · exact⟨_,_,h1⟩
  subst hv
  have hb1:Below w.heap.size w (w.alloc (Obj.cells #[.pointer (some ⟨s,0,none⟩), .int .i64 (t:Nat)] 74)):=(Below.refl _ w).alloc (Nat.le_refl _) _
  have hGtH:=Lib.hid (btGet_at (h.below hb1) t ht x hx)
  have hb1H:=Lib.hid hb1
  have hrowH:=Lib.hid hrow
  have hblH:=Lib.hid hbl
  have d40:((40-0:Nat):Int)=40:=rfl
  rw [d40]
  clear d40 h hb1 hrow hbl
  go_enter Tryz.func39,Tryz.ntmps39
  go_wp2_with fail
  refine hGtH.out.mono ?_
  rintro e w2 ⟨v1,v2,v3,rfl,hown,hb2⟩
  obtain⟨A1,q1,rfl⟩:=ownN_form hown.r1
  obtain⟨A2,q2,rfl⟩:=ownN_form hown.r2
  obtain⟨A3,q3,rfl⟩:=ownN_form hown.r3
  have hb3:=hb1H.out.trans (hb2.mono hb1H.out.size)
  have hb4:=hb3.alloc hb3.size (Obj.cells #[Value.slice A1 (bnG R t x).keys.length q1,Value.slice A2 (bnG R t x).vals.length q2,Value.slice A3 (bnG R t x).kids.length q3,Value.int IntKind.u64 ((bnG R t x).size:Nat)] 48)
  have hfin:Hid (ListR N w (Value.slice A out.length c).ownBlock bl (out,left) (.returned (.slice A out.length c)) (w2.alloc (Obj.cells #[Value.slice A1 (bnG R t x).keys.length q1,Value.slice A2 (bnG R t x).vals.length q2,Value.slice A3 (bnG R t x).kids.length q3,Value.int IntKind.u64 ((bnG R t x).size:Nat)] 48))):=Lib.hid ⟨_,rfl,row_below hrowH.out hb4,hblH.out.below hb4,Lw.below hb4 _ _⟩
  have hE:Hid (blist R t 0 (out,left) x=(out,left)):=Lib.hid (by unfold blist;rfl)
  generalize (bnG R t x).keys.length=n1 at*
  generalize (bnG R t x).vals.length=n2 at*
  generalize (bnG R t x).kids.length=n3 at*
  generalize (bnG R t x).size=n4 at*
  clear hb3 hb4 hb2 hown
  cases decide (bnE R t x=0) with
  |true=>
   go_wp2
   go_ret
   rw [hE.out]
   exact hfin.out
  |false=>
   go_wp2
   go_ret
   rw [hE.out]
   exact hfin.out
 |succ f ih=>
  intro hf w h hN x hx out left bl v hrow hbl hblN hne hol
  have hmo:Tryz.prog.follows .mixedOrders=true:=by kernel_rfl
  obtain⟨A,c,hv⟩: ∃A c,v= .slice A out.length c:=by
   rcases hrow.2 with ⟨h1,h2⟩|⟨g,cap,cur,h1,_⟩
   · exact⟨none,0,by rw [h1,h2]⟩
   · exact⟨_,_,h1⟩
  subst hv
  have hrmH:Hid (∀(o:List (Nat × Nat) × Nat) (y:Nat),(blist R t f o y).1.length+33*(blist R t f o y).2≤o.1.length+33*o.2):=Lib.hid (blist_room (fun y hy=>by
   have:=(bnG_words h ht hy).1.1
   have:=ht.2
   omega) f)
  obtain⟨i0,hi,hz0,hz1',hz2⟩:=info_parts Tryz.info_item
  obtain⟨W1,hW1⟩: ∃W,W=w.alloc (Obj.cells #[.pointer (some ⟨s,0,none⟩), .int .i64 (t:Nat)] 74):=⟨_,rfl⟩
  have hb1:Below w.heap.size w W1:=by rw [hW1];exact(Below.refl _ w).alloc (Nat.le_refl _) _
  obtain⟨b5,hb5⟩: ∃b,b=w.heap.size:=⟨_,rfl⟩
  have x5:Box W1 b5 74 [.pointer (some ⟨s,0,none⟩), .int .i64 (t:Nat)]:=by rw [hW1,hb5];exact Box.new w _ _
  have hGt:=btGet_at (h.below hb1) t ht x hx
  obtain⟨d,hd⟩: ∃d,d=40-(f+1):=⟨_,rfl⟩
  have hd40:d<40:=by omega
  rw [←hd]
  have hb1H:=Lib.hid hb1
  have hW1H:=Lib.hid (And.intro hW1 hb5)
  have x5H:=Lib.hid x5
  have hGtH:=Lib.hid hGt
  have hH:=Lib.hid h
  have hrowH:=Lib.hid hrow
  have hblH:=Lib.hid hbl
  have hneH:=Lib.hid hne
  have hdH:=Lib.hid hd
  have ihH:=Lib.hid ih
  have g5:w.heap.size≤b5:=by omega
  have hunf:Hid (blist R t (f+1) (out,left) x=if bnE R t x≠0∨left=0 then (out,left) else blist.lsFrom (bnG R t x) (blist R t f) (bnG R t x).keys.length 0 (out,left-1)):=Lib.hid (by conv=>lhs;unfold blist)
  clear hW1 hb5 x5 hGt h hrow hb1 hd ih hbl hne
  go_enter Tryz.func39,Tryz.ntmps39
  have d40:((d:Int)==40)=false:=by simp;omega
  have e50:=x5H.out.at' (i:=0) rfl
  have e51:=x5H.out.at' (i:=1) rfl
  rw [hW1H.out.1,hW1H.out.2] at e50 e51
  go_wp2_with fail
  rw [←hW1H.out.1,←hW1H.out.2]
  refine hGtH.out.mono ?_
  rintro e w2 ⟨v1,v2,v3,rfl,hown,hb2⟩
  obtain⟨A1,q1,rfl⟩:=ownN_form hown.r1
  obtain⟨A2,q2,rfl⟩:=ownN_form hown.r2
  obtain⟨A3,q3,rfl⟩:=ownN_form hown.r3
  obtain⟨n,hn⟩: ∃n,n=bnG R t x:=⟨_,rfl⟩
  rw [←hn] at hown
  rw [←hn]
  obtain⟨W3,hW3⟩: ∃W,W=w2.alloc (Obj.cells #[.slice A1 n.keys.length q1, .slice A2 n.vals.length q2, .slice A3 n.kids.length q3, .int .u64 (n.size:Nat)] 48):=⟨_,rfl⟩
  obtain⟨b11,hb11⟩: ∃b,b=w2.heap.size:=⟨_,rfl⟩
  have hb23:Below w2.heap.size w2 W3:=by rw [hW3];exact(Below.refl _ _).alloc (Nat.le_refl _) _
  have x11:Box W3 b11 48 [.slice A1 n.keys.length q1, .slice A2 n.vals.length q2, .slice A3 n.kids.length q3, .int .u64 (n.size:Nat)]:=by rw [hW3,hb11];exact Box.new w2 _ _
  have hb03:=Lib.hid (hb1H.out.trans ((hb2.trans (hb23.mono hb2.size)).mono hb1H.out.size))
  have x5w:=Lib.hid ((x5H.out.below hb2).below hb23)
  have x11H:=Lib.hid x11
  have hownH:=Lib.hid (hown.below hb23)
  have hW3H:=Lib.hid (And.intro hW3 hb11)
  have hnH:=Lib.hid hn
  have hrow3:=Lib.hid (row_below hrowH.out hb03.out)
  have hbl3:=Lib.hid (hblH.out.below hb03.out)
  have fbl:=hbl3.out.at' (i:=0) rfl
  have fzl:=hbl3.out.free 0
  have hb11w:w.heap.size≤b11:=by have:=hb1H.out.size;have:=hb2.size;omega
  have hfin0:Hid (bnE R t x≠0∨left=0→ListR N w (Value.slice A out.length c).ownBlock bl (blist R t (f+1) (out,left) x) (.returned (.slice A out.length c)) W3):=Lib.hid (fun h=>by
   rw [hunf.out,if_pos h]
   exact⟨_,rfl,hrow3.out,hbl3.out,Lw.below hb03.out _ _⟩)
  clear hn hb2 hb23 hown hW3 hb11 x11
  go_upto_region 2 with fail
  rw [←hW3H.out.1,←hW3H.out.2]
  by_cases he:bnE R t x=0
  · rw [decide_eq_true he]
    by_cases hl0:left=0
    · subst hl0
      go_wp2
      go_ret
      exact hfin0.out (.inr (by simp))
    · have dl:((left:Int)==0)=false:=by simp;omega
      have hw:=bnG_words (hH.out.below hb03.out) ht he
      rw [←hnH.out] at hw
      obtain⟨hfit,wk,wv,wc,hsz⟩:=hw
      have hkl:n.kids.length=0∨n.kids.length=n.keys.length+1:=by
       rcases hfit.2.2 with h9|h9
       · exact .inl (by rw [h9];rfl)
       · exact .inr h9.1
      have hyl:n.keys.length≤33:=by have:=hfit.1;have:=ht.2;omega
      have hvl:Hid (n.vals.length=n.keys.length):=Lib.hid hfit.2.1
      have wcH:=Lib.hid wc
      have hgoH:Hid (blist R t (f+1) (out,left) x=blist.lsFrom n (blist R t f) n.keys.length 0 (out,left-1)):=Lib.hid (by rw [hunf.out,if_neg (by rintro(h9|h9);exact h9 he;exact hl0 h9),hnH.out])
      clear hfit wk wv wc he
      go_upto_region 5 with fail
      obtain⟨W4,hW4⟩: ∃V,V=W3.setCell ⟨bl,0,none⟩ (.int .i64 ((left:Int)-1)):=⟨_,rfl⟩
      rw [←hW4]
      have hbl4:Box W4 bl 3 [.int .i64 ((left-1:Nat):Int)]:=by
       rw [hW4,show((left:Int)-1)=((left-1:Nat):Int) by omega]
       exact hbl3.out.set 0 _
      have hLw4:Lw W3 W4 (Value.slice A out.length c).ownBlock (Value.slice A out.length c).ownBlock bl:=by rw [hW4];exact Lw.set bl 0 _ _
      have hblw:bl<w.heap.size:=hblH.out.lt
      have hrow4:W4.ownsRow N 31 2 (.slice A out.length c) out.length (itmV out):=rows_keep hrow3.out (fun k hk=>by
       rw [hW4];exact Below.heap_setCell _ ⟨bl,0,none⟩ _ k (fun e=>hneH.out (by rw [hk];exact congrArg some e)))
      have hst4:=Lib.hid (And.intro hrow4 (And.intro hbl4 hLw4))
      have x114:=x11H.out.other (p:=⟨bl,0,none⟩) (by show b11≠bl;omega) (.int .i64 ((left:Int)-1))
      rw [←hW4] at x114
      have e110:=x114.at' (i:=0) rfl
      have hl11:=x114.lt
      clear hW4 hbl4 hLw4 hrow4 x114 fbl fzl
      obtain⟨rO,hrO⟩: ∃r,r=(Value.slice A out.length c).ownBlock:=⟨_,rfl⟩
      rw [←hrO] at hst4
      have hrOH:=Lib.hid hrO
      clear hrO
      rw [←hrOH.out]
      go_wp2
      go_loopw [1,41] (fun v0 kv wr=> ∃(vv:Value) (j:Nat) (o:List (Nat × Nat) × Nat),vv=v0∧j≤n.keys.length∧kv= .int .i64 j∧o.1.length+33*o.2+(n.keys.length-j)≤8650785∧Hid (blist.lsFrom n (blist R t f) (n.keys.length-j) j o=blist R t (f+1) (out,left) x)∧Hid (wr.ownsRow N 31 2 vv o.1.length (itmV o.1)∧Box wr bl 3 [.int .i64 (o.2:Nat)]∧Lw W3 wr rO vv.ownBlock bl)) (fun _ kv _=>n.keys.length-(intOf kv).toNat)
      case atStart=>exact⟨_,0,(out,left-1),rfl,Nat.zero_le _,rfl,by simp only;omega,Lib.hid hgoH.out.symm,Lib.hid ⟨hst4.out.1,hst4.out.2.1,by rw [←hrOH.out];exact hst4.out.2.2⟩⟩
      case round=>
       obtain⟨vv,j,o,rfl,hj,rfl,hroom,hls,hr⟩:=hrel
       have hr11:some b11≠rO:=fun e=>by
        rw [hrOH.out] at e
        have:=rows_lt hrowH.out b11 e.symm
        omega
       have e110:=hr.out.2.2.cell (x11H.out.at' (i:=0) rfl) hr11 (by show b11≠bl;omega)
       have e111:=hr.out.2.2.cell (x11H.out.at' (i:=1) rfl) hr11 (by show b11≠bl;omega)
       have e112:=hr.out.2.2.cell (x11H.out.at' (i:=2) rfl) hr11 (by show b11≠bl;omega)
       have hw11:b11<W3.heap.size:=x11H.out.lt
       have hoff:Hid (∀k,w.heap.size≤k→k<W3.heap.size→ ¬(some k=vv.ownBlock∨k=bl)):=Lib.hid (fun k h1 h2 h3=>by
        rcases h3 with h3|h3
        · rcases hr.out.2.2.row with h4|h4
          · rw [h4,hrOH.out] at h3
            have:=rows_lt hrowH.out k h3.symm
            omega
          · have:=h4 k h3.symm;omega
        · omega)
       have hb5r:some b5≠rO:=fun e=>by
        rw [hrOH.out] at e
        have:=rows_lt hrowH.out b5 e.symm
        omega
       have e50:=hr.out.2.2.cell (x5w.out.at' (i:=0) rfl) hb5r (by show b5≠bl;omega)
       have e51:=hr.out.2.2.cell (x5w.out.at' (i:=1) rfl) hb5r (by show b5≠bl;omega)
       have hl5:b5<W3.heap.size:=x5w.out.lt
       have hRr:=Lib.hid ((hH.out.below hb03.out).kb (KB.from_below (hr.out.2.2.low (Nat.le_trans hN hb03.out.size) (fun k hk=>by rw [hrOH.out] at hk;exact(row_ge hrowH.out hk).1) hblN) (Nat.le_refl _)) fun _ hk=>hk)
       have hNr:Hid (N≤wr.heap.size):=Lib.hid (Nat.le_trans (Nat.le_trans hN hb03.out.size) hr.out.2.2.size)
       have hneR:Hid (vv.ownBlock≠some bl):=Lib.hid (fun e=>by
        rcases hr.out.2.2.row with h4|h4
        · rw [h4,hrOH.out] at e;exact hneH.out e
        · have:=h4 bl e;have:=hbl3.out.lt;omega)
       have hrec:Hid (∀(y:Nat),y<18446744073709551616→ ∀W,Below wr.heap.size wr W→Calls Tryz.prog 39 #[.agg #[.pointer (some ⟨s,0,none⟩), .int .i64 (t:Nat)],vv, .int .u64 (y:Nat), .pointer (some ⟨bl,0,none⟩), .int .i64 ((d:Int)+1)] W (ListR N W vv.ownBlock bl (blist R t f o y))):=Lib.hid (fun y hy W hb=>by
        have h9:=ihH.out (by omega) W (hRr.out.below hb) (Nat.le_trans hNr.out hb.size) y hy o.1 o.2 bl vv (row_below hr.out.1 hb) (hr.out.2.1.below hb) hblN hneR.out (by omega)
        rw [show((40-f:Nat):Int)=(d:Int)+1 by rw [hdH.out];omega] at h9
        exact h9)
       by_cases hlt:j<n.keys.length
       · have hltv:j<n.vals.length:=by rw [hvl.out];exact hlt
         obtain⟨bk,ok,hA1,hbk,hck⟩:=CellsF.num (F:=fun _=>False) (by obtain⟨A',c',e1,h1⟩:=row_cellsF (F:=fun _=>False) hownH.out.r1 (fun _ h=>h.elim);cases e1;exact h1) hlt
         obtain⟨bv,ov,hA2,hbv,hcv⟩:=CellsF.num (F:=fun _=>False) (by obtain⟨A',c',e1,h1⟩:=row_cellsF (F:=fun _=>False) hownH.out.r2 (fun _ h=>h.elim);cases e1;exact h1) hltv
         have gk:w.heap.size≤bk:=Nat.le_trans hb1H.out.size (row_ge hownH.out.r1 (by rw [hA1];rfl)).1
         have gv:w.heap.size≤bv:=Nat.le_trans hb1H.out.size (row_ge hownH.out.r2 (by rw [hA2];rfl)).1
         have hkr:=fun b (hb:w.heap.size≤b)=>(show some b≠rO from fun e=>by
          rw [hrOH.out] at e
          have:=rows_lt hrowH.out b e.symm
          omega)
         have ek:=hr.out.2.2.cell (hck W3 (Below.refl _ _)) (hkr bk gk) (by show bk≠bl;omega)
         have ev:=hr.out.2.2.cell (hcv W3 (Below.refl _ _)) (hkr bv gv) (by show bv≠bl;omega)
         obtain⟨kj,hkj⟩: ∃y,n.keys[j]=y:=⟨_,rfl⟩
         obtain⟨vj,hvj⟩: ∃y,n.vals[j]=y:=⟨_,rfl⟩
         rw [hkj] at ek
         rw [hvj] at ev
         subst hA1
         subst hA2
         have hnext:Hid (∀o' :List (Nat × Nat) × Nat,o' =(if n.kids= [] then o else blist R t f o (n.kids.getD j 0))→blist.lsFrom n (blist R t f) (n.keys.length-(j+1)) (j+1) (o'.1++ [(kj,vj)],o'.2)=blist R t (f+1) (out,left) x):=Lib.hid (fun o' ho' =>by
          rw [←hls.out,show n.keys.length-j=(n.keys.length-(j+1))+1 by omega]
          conv=>rhs;unfold blist.lsFrom;unfold blist.lsStep
          rw [←ho',show n.keys.getD j 0=kj by rw [←hkj];simp [hlt],show n.vals.getD j 0=vj by rw [←hvj];simp [hltv]])
         have ekH:=Lib.hid ek
         have evH:=Lib.hid ev
         have hrH:=Lib.hid hr.out
         clear hck hcv hkj hvj ek ev hls hr hkr
         go_upto_if 47 with fail
         go_cut [1] from 44 to 73 (fun v0 wc=> ∃(v1:Value) (o' :List (Nat × Nat) × Nat),v1=v0∧Hid (o' =if n.kids= [] then o else blist R t f o (n.kids.getD j 0))∧o'.1.length+33*o'.2+(n.keys.length-j)≤8650785∧Hid (wc.ownsRow N 31 2 v1 o'.1.length (itmV o'.1)∧Box wc bl 3 [.int .i64 (o'.2:Nat)]∧Lw wr wc vv.ownBlock v1.ownBlock bl))
         case first=>
          by_cases hk0:n.kids= []
          · have hl0:n.kids.length=0:=by rw [hk0];rfl
            have hend:=Lib.hid (show o=if n.kids= [] then o else blist R t f o (n.kids.getD j 0) from(if_pos hk0).symm)
            clear hk0
            go_wp2
            go_meet
            case rel=>exact⟨_,o,rfl,hend,hroom,Lib.hid ⟨hrH.out.1,hrH.out.2.1,Lw.below (Below.refl _ _) _ _⟩⟩
          · have hltc:j<n.kids.length:=by
             rcases hkl with h9|h9
             · exact absurd (List.length_eq_zero_iff.1 h9) hk0
             · omega
            have hkb:decide ((n.kids.length:Int)>0)=true:=decide_eq_true (by omega)
            obtain⟨bc,oc,hA3,hbc,hcc⟩:=CellsF.num (F:=fun _=>False) (by obtain⟨A',c',e1,h1⟩:=row_cellsF (F:=fun _=>False) hownH.out.r3 (fun _ h=>h.elim);cases e1;exact h1) hltc
            have gc:w.heap.size≤bc:=Nat.le_trans hb1H.out.size (row_ge hownH.out.r3 (by rw [hA3];rfl)).1
            have ec:=hrH.out.2.2.cell (hcc W3 (Below.refl _ _)) (fun e=>by rw [hrOH.out] at e;have:=rows_lt hrowH.out bc e.symm;omega) (by show bc≠bl;omega)
            obtain⟨y,hy⟩: ∃y,n.kids[j]=y:=⟨_,rfl⟩
            rw [hy] at ec
            have hcx:=wcH.out (j) hltc
            rw [hy] at hcx
            subst hA3
            have hcall:=Lib.hid (fun W hb=>hrec.out y hcx W hb)
            have x1:=fun X:Exw (fun b=>some b=vv.ownBlock∨b=bl) wr=>X.cell e50 (hoff.out b5 g5 hl5)
            have x2:=fun X:Exw (fun b=>some b=vv.ownBlock∨b=bl) wr=>X.cell e51 (hoff.out b5 g5 hl5)
            have x3:=fun X:Exw (fun b=>some b=vv.ownBlock∨b=bl) wr=>X.cell e112 (hoff.out b11 hb11w hw11)
            have x4:=fun X:Exw (fun b=>some b=vv.ownBlock∨b=bl) wr=>X.cell ec (hoff.out bc gc hbc)
            have hyH:=Lib.hid hy
            clear hcc hy hcx ec
            have hend:=Lib.hid (show blist R t f o y=if n.kids= [] then o else blist R t f o (n.kids.getD j 0) from by rw [if_neg hk0,show n.kids.getD j 0=y by rw [←hyH.out];simp [hltc]])
            have hrm:=hrmH.out o y
            generalize blist R t f o y=oy at*
            clear hk0 e50 e51 e110 e111 e112
            go_wp2
            refine wp_region_steps (fun w' => ∃X:Exw (fun b=>some b=vv.ownBlock∨b=bl) wr,w' =X.W) [.r 0, .r 1, .r 2, .r 3, .r 4, .r 5, .r 6, .r 7, .r 8, .r 9, .a 10, .r 11] hmo (by kernel_rfl) rfl (by kernel_rfl) (exw_start _ _) (fun _ _ d _ _ h=>by cases d<;>exact h) ?_
            iterate 10 (refine wpSteps_r _ _ rfl rfl (by rintro _ ⟨X,rfl⟩;go_simp;exact rfl) ?_;go_simp)
            clear x1 x2 x3 x4
            refine wpSteps_a _ rfl (fun K1 hK1=> ?_)
            go_wp2_with fail
            refine(hcall.out _ (below_drawn wr)).mono ?_
            rintro e w5 ⟨v5,rfl,ho5,hx5,hw5⟩
            have hall:=Lib.hid (And.intro ho5 (And.intro hx5 ((Lw.below (below_drawn wr) vv.ownBlock bl).trans hw5)))
            have hcls:=exw_lw (below_drawn wr) hw5
            clear ho5 hx5 hw5
            go_wp2
            refine hK1 _ _ hcls ?_
            clear hK1 K1 hcls
            refine wpSteps_r _ _ rfl rfl (by rintro _ ⟨X,rfl⟩;go_simp;exact rfl) ?_
            go_simp
            refine wpSteps_nil ?_
            go_wp2
            go_meet
            case rel=>exact⟨_,_,rfl,hend,by omega,hall⟩
         case rest=>
          obtain⟨v1,o',rfl,ho',hroom',hr'⟩:=hcut
          have hoff2:Hid (∀k,w.heap.size≤k→k<W3.heap.size→ ¬(some k=v1.ownBlock∨k=bl)):=Lib.hid (fun k h1 h2 h3=>by
           rcases h3 with h3|h3
           · rcases hr'.out.2.2.row with h4|h4
             · rw [h4] at h3;exact hoff.out k h1 h2 (.inl h3)
             · have:=h4 k h3.symm;have:=hrH.out.2.2.size;omega
           · exact hoff.out k h1 h2 (.inr h3))
          have q1:=fun X:Exw (fun b=>some b=v1.ownBlock∨b=bl) wc=>X.cell (hr'.out.2.2.cell e110 (fun e=>hoff.out b11 hb11w hw11 (.inl e)) (fun e=>hoff.out b11 hb11w hw11 (.inr e))) (hoff2.out b11 hb11w hw11)
          have q2:=fun X:Exw (fun b=>some b=v1.ownBlock∨b=bl) wc=>X.cell (hr'.out.2.2.cell e111 (fun e=>hoff.out b11 hb11w hw11 (.inl e)) (fun e=>hoff.out b11 hb11w hw11 (.inr e))) (hoff2.out b11 hb11w hw11)
          have q3:=fun X:Exw (fun b=>some b=v1.ownBlock∨b=bl) wc=>X.cell (hr'.out.2.2.cell ekH.out (fun e=>hoff.out bk gk hbk (.inl e)) (fun e=>hoff.out bk gk hbk (.inr e))) (hoff2.out bk gk hbk)
          have q4:=fun X:Exw (fun b=>some b=v1.ownBlock∨b=bl) wc=>X.cell (hr'.out.2.2.cell evH.out (fun e=>hoff.out bv gv hbv (.inl e)) (fun e=>hoff.out bv gv hbv (.inr e))) (hoff2.out bv gv hbv)
          clear e50 e51 e110 e111 e112
          obtain⟨lo,hlo⟩: ∃l,l=o'.1.length:=⟨_,rfl⟩
          have hlo9:lo≤9000000:=by omega
          have hNc:N≤wc.heap.size:=Nat.le_trans hNr.out hr'.out.2.2.size
          have hroom2:Hid ((o'.1++ [(kj,vj)]).length+33*o'.2+(n.keys.length-(j+1))≤8650785):=Lib.hid (by rw [List.length_append,List.length_singleton];omega)
          have hloH:=Lib.hid hlo
          have hbd:Hid (Below wc.heap.size wc (wc.alloc (Obj.cells #[.int .u64 (kj:Nat), .int .u64 (vj:Nat)] 31)).drew):=Lib.hid (((Below.refl _ wc).alloc (Nat.le_refl _) _).trans ((below_drawn _).mono (by simp)))
          have hrb:=Lib.hid (row_below hr'.out.1 hbd.out)
          clear hroom' hroom hlo
          go_wp2
          refine wp_region_steps (fun w' => ∃X:Exw (fun b=>some b=v1.ownBlock∨b=bl) wc,w' =X.W) [.r 0, .r 1, .r 2, .r 3, .r 4, .r 5, .r 6, .r 7, .r 8, .r 9, .r 10, .r 11, .a 12, .a 13, .r 14] hmo (by kernel_rfl) rfl (by kernel_rfl) (exw_start _ _) (fun _ _ d _ _ h=>by cases d<;>exact h) ?_
          iterate 12 (refine wpSteps_r _ _ rfl rfl (by rintro _ ⟨X,rfl⟩;go_simp;exact rfl) ?_;go_simp)
          clear q1 q2 q3 q4
          refine wpSteps_a _ rfl (fun K1 hK1=> ?_)
          go_wp2
          refine hK1 _ _ (exw_below hbd.out) ?_
          clear hK1 K1
          refine wpSteps_a _ rfl (fun K2 hK2=> ?_)
          refine app_it rfl _ _ rfl _ N v1 o'.1 rfl hrb.out wc.heap.size (kj,vj) rfl (fun j u h=>it_new wc (kj,vj) _ rfl 31 j u h) (by rw [←hloH.out];exact hlo9) (Nat.le_trans hNc hbd.out.size) ?_
          intro v' w4 hown' hgrow hblk
          have hne2:Hid (v1.ownBlock≠some bl):=Lib.hid (fun e=>by
           rcases hr'.out.2.2.row with h4|h4
           · rw [h4] at e;exact hneR.out e
           · have:=h4 bl e;have:=hrH.out.2.1.lt;omega)
          have hcls:=exw_grown (bl:=bl) hbd.out hgrow
          have hfin:=Lib.hid (show w4.ownsRow N 31 2 v' (o'.1++ [(kj,vj)]).length (itmV (o'.1++ [(kj,vj)]))∧Box w4 bl 3 [.int .i64 (o'.2:Nat)]∧Lw W3 w4 rO v'.ownBlock bl from
           have h1:=Lw.below hbd.out v1.ownBlock bl
           have h2:=h1.trans (Lw.rw (show Rw _ w4 v1.ownBlock v'.ownBlock from⟨hgrow,hblk.imp id (fun h k hk=>by rw [h] at hk;cases hk;exact Nat.le_refl _)⟩) bl)
           ⟨hown',((hr'.out.2.1.below hbd.out).block (hgrow.block bl (Nat.lt_of_lt_of_le hr'.out.2.1.lt hbd.out.size) (fun e=>hne2.out e.symm))),(hrH.out.2.2.trans hr'.out.2.2).trans h2⟩)
          clear hown' hgrow hblk
          go_wp2
          refine hK2 _ _ hcls ?_
          clear hK2 K2 hcls
          refine wpSteps_r _ _ rfl rfl (by rintro _ ⟨X,rfl⟩;go_simp;exact rfl) ?_
          go_simp
          refine wpSteps_nil ?_
          go_wp2
          go_roundw
          case rel=>exact⟨_,j+1,(o'.1++ [(kj,vj)],o'.2),rfl,by omega,by go_num,hroom2.out,Lib.hid (hnext.out o' ho'.out),hfin⟩
          case measure=>simp [intOf];omega
       · obtain rfl:j=n.keys.length:=by omega
         rw [Nat.sub_self] at hls
         by_cases hk0:n.kids= []
         · have hE:blist R t (f+1) (out,left) x=o:=by
            have h9:=hls.out
            unfold blist.lsFrom at h9
            rw [if_pos hk0] at h9
            exact h9.symm
           have hfin:=Lib.hid (show ListR N w rO bl o (.returned _) wr from⟨_,rfl,hr.out.1,hr.out.2.1,(Lw.below hb03.out rO bl).trans hr.out.2.2⟩)
           rw [←hE] at hfin
           clear hE
           have hl0:n.kids.length=0:=by rw [hk0];rfl
           rw [hrOH.out] at hfin
           go_wp2
           go_ret
           exact hfin.out
         · have hkl1:n.kids.length=n.keys.length+1:=by
            rcases hkl with h9|h9
            · exact absurd (List.length_eq_zero_iff.1 h9) hk0
            · exact h9
           have hltc:n.keys.length<n.kids.length:=by omega
           have hrH:=Lib.hid hr.out
           obtain⟨bc,oc,hA3,hbc,hcc⟩:=CellsF.num (F:=fun _=>False) (by obtain⟨A',c',e1,h1⟩:=row_cellsF (F:=fun _=>False) hownH.out.r3 (fun _ h=>h.elim);cases e1;exact h1) hltc
           have gc:w.heap.size≤bc:=Nat.le_trans hb1H.out.size (row_ge hownH.out.r3 (by rw [hA3];rfl)).1
           have ec:=hrH.out.2.2.cell (hcc W3 (Below.refl _ _)) (fun e=>by rw [hrOH.out] at e;have:=rows_lt hrowH.out bc e.symm;omega) (by show bc≠bl;omega)
           obtain⟨y,hy⟩: ∃y,n.kids[n.keys.length]=y:=⟨_,rfl⟩
           rw [hy] at ec
           have hcx:=wcH.out (n.keys.length) hltc
           rw [hy] at hcx
           subst hA3
           have hcall:=Lib.hid (fun W hb=>hrec.out y hcx W hb)
           have x1:=fun X:Exw (fun b=>some b=vv.ownBlock∨b=bl) wr=>X.cell e50 (hoff.out b5 g5 hl5)
           have x2:=fun X:Exw (fun b=>some b=vv.ownBlock∨b=bl) wr=>X.cell e51 (hoff.out b5 g5 hl5)
           have x3:=fun X:Exw (fun b=>some b=vv.ownBlock∨b=bl) wr=>X.cell e112 (hoff.out b11 hb11w hw11)
           have x4:=fun X:Exw (fun b=>some b=vv.ownBlock∨b=bl) wr=>X.cell ec (hoff.out bc gc hbc)
           have hyH:=Lib.hid hy
           clear hcc hy hcx ec
           have hE:Hid (blist R t (f+1) (out,left) x=blist R t f o y):=Lib.hid (by
            rw [←hls.out]
            unfold blist.lsFrom
            rw [if_neg hk0,show n.kids.getD (n.kids.length-1) 0=y by rw [show n.kids.length-1=n.keys.length by omega,←hyH.out];simp [hltc]])
           have hkb:decide ((n.kids.length:Int)>0)=true:=decide_eq_true (by omega)
           have hki:(n.kids.length:Int)-1=(n.keys.length:Nat):=by omega
           have hkw:IntKind.i64.wrap (n.keys.length:Nat)=(n.keys.length:Nat):=by rw [IntKind.wrap_i64];omega
           generalize blist R t f o y=oy at*
           have hfinH:Hid (∀v' w',ListR N wr vv.ownBlock bl oy (.returned v') w' →ListR N w rO bl (blist R t (f+1) (out,left) x) (.returned v') w'):=Lib.hid (fun v' w' ⟨v2,h1,h2,h3,h4⟩=>by
            cases h1
            rw [hE.out]
            exact⟨_,rfl,h2,h3,((Lw.below hb03.out rO bl).trans hrH.out.2.2).trans h4⟩)
           clear hk0 e50 e51 e110 e111 hls hr hkl1
           go_wp2
           refine wp_region_steps (fun w' => ∃X:Exw (fun b=>some b=vv.ownBlock∨b=bl) wr,w' =X.W) [.r 0, .r 1, .r 2, .r 3, .r 4, .r 5, .r 6, .r 7, .r 8, .r 9, .r 10, .r 11, .r 12, .a 13, .r 14] hmo (by kernel_rfl) rfl (by kernel_rfl) (exw_start _ _) (fun _ _ d _ _ h=>by cases d<;>exact h) ?_
           iterate 13 (refine wpSteps_r _ _ rfl rfl (by rintro _ ⟨X,rfl⟩;go_simp;exact rfl) ?_;go_simp)
           clear x1 x2 x3 x4
           refine wpSteps_a _ rfl (fun K1 hK1=> ?_)
           go_wp2_with fail
           refine(hcall.out _ (below_drawn wr)).mono ?_
           rintro e w5 ⟨v5,rfl,ho5,hx5,hw5⟩
           have hall:=Lib.hid (hfinH.out v5 w5 ⟨v5,rfl,ho5,hx5,(Lw.below (below_drawn wr) vv.ownBlock bl).trans hw5⟩)
           have hcls:=exw_lw (below_drawn wr) hw5
           clear ho5 hx5 hw5
           go_wp2
           refine hK1 _ _ hcls ?_
           clear hK1 K1 hcls
           refine wpSteps_r _ _ rfl rfl (by rintro _ ⟨X,rfl⟩;go_simp;exact rfl) ?_
           go_simp
           refine wpSteps_nil ?_
           rw [hrOH.out] at hall
           go_wp2
           go_ret
           exact hall.out
  · rw [decide_eq_false he]
    go_wp2
    go_ret
    exact hfin0.out (.inl he)
end
section
variable {s N:Nat} {R:Nat→Option (List Nat)} {nn:Nat}
set_option maxRecDepth 100000 in
theorem btLst_at{w:World}(h:Rd N w s R nn)(t:Nat)(ht:BN.Deg t)(x:Nat)(hx:x<18446744073709551616):
 Calls Tryz.prog 14 #[.pointer (some ⟨s,0,none⟩), .int .i64 (t:Nat), .int .u64 (x:Nat)] w fun e w' => ∃v',e= .returned v' ∧w'.ownsRow w.heap.size 31 2 v' (blist R t 40 ([],mostN nn t) x).1.length (itmV (blist R t 40 ([],mostN nn t) x).1)∧Below w.heap.size w w' :=by
 have h:=h.here
 have hle:=h.le
 have hA:=Lib.hid (btAsked_at h ht)
 obtain⟨W0,hW0⟩: ∃W,W=w.alloc (Obj.cells #[.pointer (some ⟨s,0,none⟩), .int .i64 (t:Nat)] 74):=⟨_,rfl⟩
 have hb1:Below w.heap.size w W0:=by rw [hW0];exact(Below.refl _ w).alloc (Nat.le_refl _) _
 obtain⟨b7,hb7⟩: ∃b,b=w.heap.size:=⟨_,rfl⟩
 have x1:Box W0 b7 74 [.pointer (some ⟨s,0,none⟩), .int .i64 (t:Nat)]:=by rw [hW0,hb7];exact Box.new w _ _
 have hM:=Lib.hid (fun W (hb:Below w.heap.size w W)=>btMost_at (h.below hb) t ht)
 have hrm:=mostN_le (t:=t) hle
 have hL:=Lib.hid (fun W (hb:Below w.heap.size w W) (bl:Nat) (hbl:Box W bl 3 [.int .i64 (mostN nn t:Nat)]) (hB:w.heap.size≤bl)=>btList_at t ht 40 (Nat.le_refl _) W (h.below hb) hb.size x hx [] (mostN nn t) bl (.slice none 0 0) (World.ownsRow_nil _ _ _ _) hbl hB (by simp [Value.ownBlock]) (by simp only [List.length_nil];omega))
 rw [show((40-40:Nat):Int)=0 from rfl] at hL
 generalize blist R t 40 ([],mostN nn t) x=l at*
 generalize mostN nn t=m at*
 have hb1H:=Lib.hid hb1
 have hWH:=Lib.hid (And.intro hW0 hb7)
 have x1H:=Lib.hid x1
 have c0:=x1.at' (i:=0) rfl
 have c1:=x1.at' (i:=1) rfl
 rw [hW0,hb7] at c0 c1
 clear hW0 hb7 hb1 x1 h hle
 go_enter Tryz.func14,Tryz.ntmps14
 go_wp2_with fail
 refine hA.out.mono ?_
 rintro e w1 ⟨rfl,rfl⟩
 go_wp2_with fail
 rw [←hWH.out.1,←hWH.out.2]
 refine(hM.out _ hb1H.out).mono ?_
 rintro e w2 ⟨rfl,hb2⟩
 clear c0 c1
 have hb12:=hb1H.out.trans (hb2.mono hb1H.out.size)
 obtain⟨W3,hW3⟩: ∃W,W=w2.alloc (Obj.cells #[.int .i64 (m:Nat)] 3):=⟨_,rfl⟩
 obtain⟨bl,hbl⟩: ∃b,b=w2.heap.size:=⟨_,rfl⟩
 have hb3:Below w.heap.size w W3:=by rw [hW3];exact hb12.alloc hb12.size _
 have x3:Box W3 bl 3 [.int .i64 (m:Nat)]:=by rw [hW3,hbl];exact Box.new w2 _ _
 have x17:Box W3 b7 74 [.pointer (some ⟨s,0,none⟩), .int .i64 (t:Nat)]:=by rw [hW3];exact(x1H.out.below hb2).alloc _
 have c0:=x17.at' (i:=0) rfl
 have c1:=x17.at' (i:=1) rfl
 have hB:w.heap.size≤bl:=by rw [hbl];exact hb12.size
 have hcall:=Lib.hid (hL.out W3 hb3 bl x3 hB)
 have hb3H:=Lib.hid hb3
 have hBH:=Lib.hid hB
 have hW3H:=Lib.hid (And.intro hW3 hbl)
 rw [hW3] at c0 c1
 clear hW3 hbl hb3 x3 x17 hB hb12 hb2 hL hM
 go_wp2_with fail
 rw [←hW3H.out.1,←hW3H.out.2]
 refine hcall.out.mono ?_
 rintro e w4 ⟨v',rfl,ho,_,hlw⟩
 have hfin:=Lib.hid (And.intro ho (hb3H.out.trans (hlw.low hb3H.out.size (fun k hk=>by cases hk) hBH.out)))
 clear ho hlw
 go_wp2
 go_ret
 exact⟨_,rfl,hfin.out⟩
end
def SRow(A W:World)(blk:Nat)(zs0:List Nat):Prop:= ∃zs:List Nat,zs.Perm zs0∧(∃sp,Box W blk 23 (hsV zs++sp))∧A.grownBy W (some blk)
section
variable {A W W' :World} {blk:Nat} {zs0:List Nat}
theorem SRow.start{sp:List Value}(h:Box A blk 23 (hsV zs0++sp)):SRow A A blk zs0:=⟨zs0,List.Perm.refl _,⟨sp,h⟩,⟨rfl,rfl,rfl,Nat.le_refl _,fun _ _ _=>rfl⟩⟩
theorem SRow.below(h:SRow A W blk zs0)(hb:Below W.heap.size W W'):SRow A W' blk zs0:=by
 obtain⟨zs,h1,⟨sp,h2⟩,h3⟩:=h
 exact⟨zs,h1,⟨sp,h2.below hb⟩,grown_trans h3 (grownBy_below hb _)⟩
theorem SRow.drewN(h:SRow A W blk zs0)(q:Nat):SRow A (W.drewN q) blk zs0:=h.below (Tx.drewN_below W q)
theorem SRow.open(h:SRow A W blk zs0)(off:Nat)(ho:off=0): ∃G:Nat→Nat,(∀t,t<zs0.length→W.cell? ⟨blk,off+t,none⟩=some (.int .u64 (G t:Nat)))∧(∀t,t<zs0.length→W.frozen? ⟨blk,off+t,none⟩=false)∧
 Hid (∀q i j,i<zs0.length→j<zs0.length→SRow A (((W.drewN q).setCell ⟨blk,off+i,none⟩ (.int .u64 (G j:Nat))).setCell ⟨blk,off+j,none⟩ (.int .u64 (G i:Nat))) blk zs0):=by
 subst ho
 obtain⟨zs,h1,⟨sp,h2⟩,h3⟩:=h
 have hl:=h1.length_eq
 refine⟨fun t=>zs.getD t 0,fun t ht=> ?_,fun t _=>h2.free _,Lib.hid fun q i j hi hj=> ?_⟩
 · have ht2:t<zs.length:=by omega
   rw [Nat.zero_add,h2.at' (v:= .int .u64 (zs[t]:Nat)) (by rw [List.getElem?_append_left (by rw [hsV_len];exact ht2)];exact hsV_get ht2)]
   simp [ht2]
 · have hi2:i<zs.length:=by omega
   have hj2:j<zs.length:=by omega
   simp only [Nat.zero_add]
   have e1:zs.getD i 0=zs[i]:=by simp [hi2]
   have e2:zs.getD j 0=zs[j]:=by simp [hj2]
   rw [e1,e2]
   refine⟨(zs.set i zs[j]).set j zs[i],(List.set_set_perm hi2 hj2).trans h1,⟨sp, ?_⟩,grown_trans h3 (grown_trans (grownBy_below (Tx.drewN_below W q) _) (grown_trans (grown_set _ blk i _) (grown_set _ blk j _)))⟩
   have h4:=((h2.below (Tx.drewN_below W q)).set i (.int .u64 (zs[j]:Nat))).set j (.int .u64 (zs[i]:Nat))
   rwa [List.set_append_left _ _ (by rw [hsV_len];exact hi2),hsV_set,List.set_append_left _ _ (by rw [hsV_len,List.length_set];exact hj2),hsV_set] at h4
theorem SRow.drew(h:SRow A W blk zs0):SRow A W.drew blk zs0:=h.below (below_drawn W)
theorem SRow.lt(h:SRow A W blk zs0):blk<W.heap.size:=by
 obtain⟨zs,_,⟨_,h2⟩,_⟩:=h
 exact h2.lt
theorem SRow.trans{B:World}(h:SRow A B blk zs0)(g:SRow B W blk zs0):SRow A W blk zs0:=by
 obtain⟨zs,h1,h2,h3⟩:=g
 obtain⟨_,_,_,h4⟩:=h
 exact⟨zs,h1,h2,grown_trans h4 h3⟩
end
set_option maxRecDepth 100000 in
theorem soNaN_at(x:Nat)(w:World):Calls Tryz.prog 159 #[.int .u64 (x:Nat)] w fun e w' =>e= .returned (.bool false)∧w=w' :=by
 go_enter Tryz.func159,Tryz.ntmps159
 go_wp2
 go_ret
 exact⟨by simp,rfl⟩
set_option maxRecDepth 100000 in
theorem soLess_at(x y:Nat)(w:World):Calls Tryz.prog 143 #[.int .u64 (x:Nat), .int .u64 (y:Nat)] w fun e w' =>e= .returned (.bool (decide (x<y)))∧w=w' :=by
 have hN:=Lib.hid (fun z=>soNaN_at z w)
 go_enter Tryz.func143,Tryz.ntmps143
 go_wp2_with fail
 refine(hN.out _).mono ?_
 rintro e w1 ⟨rfl,rfl⟩
 go_wp2
 go_ret
 exact⟨by simp,rfl⟩
end Go.Proofs.YthcmecokejemcaaGreatDoor
