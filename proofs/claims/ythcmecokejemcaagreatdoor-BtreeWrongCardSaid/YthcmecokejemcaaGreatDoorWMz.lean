/-
  The seat's own texts, part z: Bk1, Bk2.
-/
import Derived.Test.YthcmecokejemcaaGreatDoorWMy
import Derived.Deep.Cut
set_option linter.unusedSimpArgs false
set_option linter.unusedVariables false
set_option maxHeartbeats 8000000
namespace Go.Proofs.YthcmecokejemcaaGreatDoor
open Go.RowKit Go.Shelf
theorem fits_sum{z:Int}{S m:Nat}(h:IntKind.u64.wrap z=(S:Nat))(hm:m<18446744073709551616):IntKind.u64.wrap (wrap64 (z+wrap64 (m:Nat)))=((S+m)%18446744073709551616:Nat):=by
 rw [IntKind.wrap_u64] at*
 unfold wrap64
 omega
section
variable {s N:Nat} {R:Nat→Option (List Nat)} {nn:Nat}
theorem bfits_bad{t a x:Nat}{top:Bool}(h:bnE R t x≠0):bfits R t a top x=false:=by
 cases a<;>(unfold bfits;rw [if_pos h])
theorem bfits_few{t a x:Nat}{top:Bool}(h:(bnG R t x).keys.length<cond top 1 (t-1)):bfits R t a top x=false:=by
 cases a<;>(unfold bfits;split<;>first|rfl|exact if_pos h)
theorem bfits_par{t a x:Nat}{top:Bool}(h: ¬((bnG R t x).kids= []↔a=0)):bfits R t a top x=false:=by
 cases a with
 |zero=>
  unfold bfits
  split
  · rfl
  · split
    · rfl
    · exact if_neg (fun h9=>h ⟨fun _=>rfl,fun _=>h9⟩)
 |succ a=>
  unfold bfits
  split
  · rfl
  · split
    · rfl
    · exact if_pos (Classical.byContradiction fun h9=>h ⟨fun h8=>absurd h8 h9,fun h8=>by cases h8⟩)
theorem bfits_go{t a x:Nat}{top:Bool}(h0:bnE R t x=0)(h1: ¬(bnG R t x).keys.length<cond top 1 (t-1))(h2:(bnG R t x).kids= []↔a=0):
 bfits R t a top x=((bnG R t x).kids.all (fun y=>bfits R t (a-1) false y)&&decide ((bnG R t x).size=rsum R t (bnG R t x).kids (bnG R t x).keys.length)):=by
 cases a with
 |zero=>
  have h3:=h2.2 rfl
  unfold bfits
  rw [if_neg (fun h=>h h0),if_neg h1]
  simp only [h3,if_true,List.all_nil,Bool.true_and]
 |succ a=>
  have h3:(bnG R t x).kids≠ []:=fun h=>by have:=h2.1 h;cases this
  conv=>lhs;unfold bfits
  rw [if_neg (fun h=>h h0),if_neg h1]
  simp only [if_neg h3,Nat.add_sub_cancel]
set_option maxRecDepth 100000 in
theorem btFits_at(t:Nat)(ht:BN.Deg t): ∀(a:Nat),a<4611686018427387904→ ∀(w:World) (h:Rd N w s R nn) (top:Bool) (x:Nat) (hx:x<18446744073709551616),
 Calls Tryz.prog 35 #[.agg #[.pointer (some ⟨s,0,none⟩), .int .i64 (t:Nat)], .int .u64 (x:Nat), .bool top, .int .i64 (a:Nat)] w fun e w' =>e= .returned (.bool (bfits R t a top x))∧Below w.heap.size w w' :=by
 intro a
 induction a using Nat.strongRecOn with
 |_ a ih=>
  intro ha w h top x hx
  obtain⟨W1,hW1⟩: ∃W,W=w.alloc (Obj.cells #[.pointer (some ⟨s,0,none⟩), .int .i64 (t:Nat)] 74):=⟨_,rfl⟩
  have hb1:Below w.heap.size w W1:=by rw [hW1];exact(Below.refl _ w).alloc (Nat.le_refl _) _
  obtain⟨b4,hb4⟩: ∃b,b=w.heap.size:=⟨_,rfl⟩
  have x4:Box W1 b4 74 [.pointer (some ⟨s,0,none⟩), .int .i64 (t:Nat)]:=by rw [hW1,hb4];exact Box.new w _ _
  have hGt:=btGet_at (h.below hb1) t ht x hx
  have hb1H:=Lib.hid hb1
  have hW1H:=Lib.hid (And.intro hW1 hb4)
  have x4H:=Lib.hid x4
  have hGtH:=Lib.hid hGt
  have hH:=Lib.hid h
  have ihH:=Lib.hid ih
  have htH:=Lib.hid ht
  have ht2:2≤t∧t≤16:=⟨ht.1,ht.2⟩
  obtain⟨ht2a,ht2b⟩:=ht2
  have g4:w.heap.size≤b4:=by omega
  have g4' :b4<W1.heap.size:=x4.lt
  clear hW1 hb4 x4 hGt h hb1 ih ht
  go_enter Tryz.func35,Tryz.ntmps35
  have e40:=x4H.out.at' (i:=0) rfl
  have e41:=x4H.out.at' (i:=1) rfl
  rw [hW1H.out.1,hW1H.out.2] at e40 e41
  go_wp2_with fail
  rw [←hW1H.out.1,←hW1H.out.2]
  refine hGtH.out.mono ?_
  rintro e w2 ⟨v1,v2,v3,rfl,hown,hb2⟩
  obtain⟨A1,q1,rfl⟩:=ownN_form hown.r1
  obtain⟨A2,q2,rfl⟩:=ownN_form hown.r2
  obtain⟨A3,q3,rfl⟩:=ownN_form hown.r3
  obtain⟨n,hn⟩: ∃n,n=bnG R t x:=⟨_,rfl⟩
  rw [←hn] at hown
  rw [←hn]
  obtain⟨W3,hW3⟩: ∃W,W=w2.alloc (Obj.cells #[.slice A1 n.keys.length q1, .slice A2 n.vals.length q2, .slice A3 n.kids.length q3, .int .u64 (n.size:Nat)] 48):=⟨_,rfl⟩
  obtain⟨b9,hb9⟩: ∃b,b=w2.heap.size:=⟨_,rfl⟩
  have hb23:Below w2.heap.size w2 W3:=by rw [hW3];exact(Below.refl _ _).alloc (Nat.le_refl _) _
  have x9:Box W3 b9 48 [.slice A1 n.keys.length q1, .slice A2 n.vals.length q2, .slice A3 n.kids.length q3, .int .u64 (n.size:Nat)]:=by rw [hW3,hb9];exact Box.new w2 _ _
  have hb03:=Lib.hid (hb1H.out.trans ((hb2.trans (hb23.mono hb2.size)).mono hb1H.out.size))
  have x4w:=Lib.hid ((x4H.out.below hb2).below hb23)
  have x9H:=Lib.hid x9
  have hownH:=Lib.hid (hown.below hb23)
  have hW3H:=Lib.hid (And.intro hW3 hb9)
  have hnH:=Lib.hid hn
  have f40:=x4w.out.at' (i:=0) rfl
  have f41:=x4w.out.at' (i:=1) rfl
  have f90:=x9.at' (i:=0) rfl
  have f92:=x9.at' (i:=2) rfl
  clear hn hb2 hb23 hown hW3 hb9 x9 e40 e41 hGtH
  by_cases he:bnE R t x=0
  · rw [decide_eq_true he]
    have hw:=bnG_words (hH.out.below hb03.out) htH.out he
    rw [←hnH.out] at hw
    obtain⟨hfit,wk,wv,wc,hsz⟩:=hw
    have hkl:n.kids.length≤33:=by
     rcases hfit.2.2 with h9|h9
     · rw [h9];simp
     · have:=hfit.1;omega
    have hyl:n.keys.length≤33:=by have:=hfit.1;omega
    have wcH:=Lib.hid wc
    have heH:=Lib.hid he
    clear hfit wk wv wc he
    obtain⟨L,hL⟩: ∃L:Nat,L=cond top 1 (t-1):=⟨_,rfl⟩
    have hLH:=Lib.hid hL
    go_upto_region 2 with fail
    rw [←hW3H.out.1,←hW3H.out.2]
    go_upto_if 24 with fail
    go_cut [11] from 16 (fun s11 wc=>s11= .int .i64 L∧wc=W3)
    case first=>
     cases top
     · go_wp2_with fail
       go_meet
       case rel=>exact⟨by rw [hL];congr 1;show(t:Int)-1=((t-1:Nat):Int);omega,rfl⟩
     · go_wp2_with fail
       go_meet
       case rel=>exact⟨by rw [hL];rfl,rfl⟩
    case rest=>
     obtain⟨rfl,rfl⟩:=hcut
     clear hL
     by_cases hlt:n.keys.length<L
     · have hfin:Hid (bfits R t a top x=false):=Lib.hid (bfits_few (by rw [←hnH.out,←hLH.out];exact hlt))
       have dl:decide ((n.keys.length:Int)<(L:Int))=true:=decide_eq_true (by omega)
       go_wp2
       go_ret
       exact⟨by rw [hfin.out];rfl,hb03.out⟩
     · have dl:decide ((n.keys.length:Int)<(L:Int))=false:=decide_eq_false (by omega)
       by_cases hpar:n.kids= []↔a=0
       · have dp:(((n.kids.length:Int)==0)==((a:Int)==0))=true:=by
          have h1:(n.kids.length:Int)=0↔(a:Int)=0:=by
           rw [←List.length_eq_zero_iff] at hpar
           omega
          have h2:((n.kids.length:Int)==0)=((a:Int)==0):=by rw [Bool.eq_iff_iff,beq_iff_eq,beq_iff_eq];exact h1
          rw [h2,beq_self_eq_true]
         have hgo:=bfits_go (top:=top) heH.out (by rw [←hnH.out,←hLH.out];exact hlt) (by rw [←hnH.out];exact hpar)
         have hgoH:=Lib.hid hgo
         have hsz9:Hid (∀y,(bnG R t y).size<18446744073709551616):=Lib.hid fun y=>by
          by_cases he9:bnE R t y=0
          · exact(bnG_words (hH.out.below hb03.out) htH.out he9).2.2.2.2
          · rw [bnG_off he9];show 0<_;decide
         have hparH:=Lib.hid hpar
         clear hgo hpar
         go_wp2
         go_loopw [12,49] (fun sv kv wr=> ∃(j:Nat) (z:Int),j≤n.kids.length∧kv= .int .i64 j∧sv= .int .i64 z∧Hid (IntKind.u64.wrap z=(rsum R t (n.kids.take j) n.keys.length:Nat))∧Hid ((n.kids.take j).all (fun y=>bfits R t (a-1) false y)=true)∧Hid (Below wc.heap.size wc wr)) (fun _ kv _=>n.kids.length-(intOf kv).toNat)
         case atStart=>exact⟨0,(n.keys.length:Nat),Nat.zero_le _,rfl,rfl,Lib.hid (by rw [IntKind.wrap_u64];show((n.keys.length:Nat):Int)%18446744073709551616=((n.keys.length:Nat):Int);omega),Lib.hid rfl,Lib.hid (Below.refl _ _)⟩
         case round=>
          obtain⟨j,z,hj,rfl,rfl,hz,hall,hbr⟩:=hrel
          have x4r:=x4w.out.below hbr.out
          have q40:=x4r.at' (i:=0) rfl
          have q41:=x4r.at' (i:=1) rfl
          have x9r:=x9H.out.below hbr.out
          have q93:=x9r.at' (i:=3) rfl
          have hbwr:=Lib.hid (hb03.out.trans (hbr.out.mono hb03.out.size))
          clear x4r x9r
          by_cases hlt2:j<n.kids.length
          · obtain⟨b,o,hA3,hbl,hcell⟩:=CellsF.num (F:=fun _=>False) (by obtain⟨A',c',e1,h1⟩:=row_cellsF (F:=fun _=>False) hownH.out.r3 (fun _ h=>h.elim);cases e1;exact h1) hlt2
            have hck:=hcell wr hbr.out
            have hcx:=wcH.out j hlt2
            have ha1:1≤a:=by
             rcases Nat.eq_zero_or_pos a with h9|h9
             · have:=hparH.out.2 h9
               rw [this] at hlt2
               exact absurd hlt2 (Nat.not_lt_zero _)
             · exact h9
            have ea:(a:Int)-1=((a-1:Nat):Int):=by omega
            obtain⟨y,hy⟩: ∃y,n.kids[j]=y:=⟨_,rfl⟩
            rw [hy] at hck hcx
            have hym:Hid (y∈n.kids):=Lib.hid (by rw [←hy];exact List.getElem_mem hlt2)
            have hrc:=Lib.hid (ihH.out (a-1) (by omega) (by omega) wr (hH.out.below hbwr.out) false y hcx)
            have hsz:=Lib.hid (fun W (hb:Below wr.heap.size wr W)=>btSize_at ((hH.out.below hbwr.out).below hb) t htH.out y hcx)
            have hz2:Hid (IntKind.u64.wrap (wrap64 (z+bszR R t y))=(rsum R t (n.kids.take (j+1)) n.keys.length:Nat)):=Lib.hid (by
             rw [rsum_step R t n.kids n.keys.length j hlt2,hy]
             exact fits_sum hz.out (hsz9.out y))
            have hall2:Hid (bfits R t (a-1) false y=true→(n.kids.take (j+1)).all (fun y=>bfits R t (a-1) false y)=true):=Lib.hid (fun h9=>by
             rw [List.take_succ_eq_append_getElem hlt2,List.all_append,hall.out,hy]
             simp [h9])
            have hbad:Hid (bfits R t (a-1) false y=false→bfits R t a top x=false):=Lib.hid (fun h9=>by
             rw [hgoH.out,←hnH.out]
             have:n.kids.all (fun y=>bfits R t (a-1) false y)=false:=by
              rw [List.all_eq_false]
              exact⟨y,hym.out,by rw [h9];decide⟩
             rw [this,Bool.false_and])
            subst hA3
            clear hy hcell hcx
            generalize bfits R t (a-1) false y=bb at*
            go_wp2_with fail
            (try rw [ea])
            refine hrc.out.mono ?_
            rintro e w5 ⟨rfl,hb5⟩
            have hb5r:=Lib.hid (hbr.out.trans (hb5.mono hbr.out.size))
            have hb5w:=Lib.hid (hbwr.out.trans (hb5.mono hbwr.out.size))
            have x4r:=x4w.out.below hb5r.out
            have q40:=x4r.at' (i:=0) rfl
            have q41:=x4r.at' (i:=1) rfl
            have hs5:=Lib.hid (hsz.out w5 hb5)
            clear x4r hb5
            cases bb
            · go_wp2
              go_ret
              exact⟨by rw [hbad.out (by simp)];rfl,hb5w.out⟩
            · go_wp2_with fail
              refine hs5.out.mono ?_
              rintro e w6 ⟨rfl,hb6⟩
              have hb6r:=Lib.hid (hb5r.out.trans (hb6.mono hb5r.out.size))
              clear hb6
              generalize bszR R t y=zy at*
              go_wp2
              go_roundw
              case rel=>exact⟨j+1,_,by omega,by go_num,rfl,hz2,Lib.hid (hall2.out (by simp)),hb6r⟩
              case measure=>simp [intOf];omega
          · obtain rfl:j=n.kids.length:=by omega
            have hfin:Hid (((n.size:Int)==IntKind.u64.wrap z)=bfits R t a top x):=Lib.hid (by
             have h1:=hz.out
             have h2:=hall.out
             rw [List.take_length] at h1 h2
             rw [hgoH.out,←hnH.out,h2,Bool.true_and,h1,Bool.eq_iff_iff,beq_iff_eq,decide_eq_true_eq]
             exact⟨fun h=>by exact_mod_cast h,fun h=>by exact_mod_cast h⟩)
            go_wp2
            go_ret
            exact⟨by rw [←hfin.out];rfl,hbwr.out⟩
       · have hfin:Hid (bfits R t a top x=false):=Lib.hid (bfits_par (by rw [←hnH.out];exact hpar))
         have dp:(((n.kids.length:Int)==0)==((a:Int)==0))=false:=by
          have h1: ¬((n.kids.length:Int)=0↔(a:Int)=0):=by
           rw [←List.length_eq_zero_iff] at hpar
           omega
          rw [Bool.eq_false_iff]
          intro h2
          rw [beq_iff_eq,Bool.eq_iff_iff,beq_iff_eq,beq_iff_eq] at h2
          exact h1 h2
         clear hpar
         go_wp2
         go_ret
         exact⟨by rw [hfin.out];rfl,hb03.out⟩
  · have hfin:Hid (bfits R t a top x=false):=Lib.hid (bfits_bad he)
    rw [decide_eq_false he]
    go_upto_region 2 with fail
    rw [←hW3H.out.1,←hW3H.out.2]
    cases top
    · go_wp2
      go_ret
      exact⟨by rw [hfin.out];rfl,hb03.out⟩
    · go_wp2
      go_ret
      exact⟨by rw [hfin.out];rfl,hb03.out⟩
end
theorem Tryz.under_items:Tryz.prog.underlying 41=some (.slice 31):=by kernel_rfl
theorem Tryz.info_item:(Tryz.prog.info? 31).map (fun i=>(i.zero,i.size,i.bytes))=some (some (.agg #[.int .u64 0, .int .u64 0]),2,16):=by kernel_rfl
def itmV(l:List (Nat × Nat)):List Value:=l.flatMap fun p=> [.int .u64 (p.1:Nat), .int .u64 (p.2:Nat)]
theorem itmV_snoc(l:List (Nat × Nat))(p:Nat × Nat):itmV (l++ [p])=itmV l++ [.int .u64 (p.1:Nat), .int .u64 (p.2:Nat)]:=by simp [itmV]
theorem itmV_get: ∀(l:List (Nat × Nat)) (j:Nat) (h:j<l.length),(itmV l)[j*2]? =some (.int .u64 (l[j].1:Nat))∧(itmV l)[j*2+1]? =some (.int .u64 (l[j].2:Nat))
 |p::l,0,_=>⟨rfl,rfl⟩
 |p::l,j+1,h=>by
  have ih:=itmV_get l j (by simpa using h)
  have e:itmV (p::l)= [.int .u64 (p.1:Nat), .int .u64 (p.2:Nat)]++itmV l:=rfl
  rw [e]
  refine⟨?_, ?_⟩
  · rw [List.getElem?_append_right (by simp;omega),show(j+1)*2- [Value.int .u64 (p.1:Nat),Value.int .u64 (p.2:Nat)].length=j*2 by simp;omega]
    exact ih.1
  · rw [List.getElem?_append_right (by simp;omega),show(j+1)*2+1- [Value.int .u64 (p.1:Nat),Value.int .u64 (p.2:Nat)].length=j*2+1 by simp;omega]
    exact ih.2
structure Lw(w w' :World)(r r' :Option Nat)(bl:Nat):Prop where
 os:w'.os=w.os
 tape:w'.tape=w.tape
 output:w'.output=w.output
 size:w.heap.size≤w'.heap.size
 keep: ∀k,k<w.heap.size→some k≠r→k≠bl→w'.heap[k]? =w.heap[k]?
 row:r' =r∨ ∀k,r' =some k→w.heap.size≤k
section
variable {w w1 w2:World} {r r1 r2:Option Nat} {bl:Nat}
theorem Lw.trans(h:Lw w w1 r r1 bl)(g:Lw w1 w2 r1 r2 bl):Lw w w2 r r2 bl where
 os:=g.os.trans h.os
 tape:=g.tape.trans h.tape
 output:=g.output.trans h.output
 size:=Nat.le_trans h.size g.size
 keep:=fun k hk hn hb=>(g.keep k (Nat.lt_of_lt_of_le hk h.size) (fun e=>by
  rcases h.row with h2|h2
  · exact hn (e.trans h2)
  · have:=h2 k e.symm;omega) hb).trans (h.keep k hk hn hb)
 row:=by
  rcases g.row with g2|g2
  · rw [g2];exact h.row
  · exact .inr fun k hk=>Nat.le_trans h.size (g2 k hk)
theorem Lw.below(h:Below w.heap.size w w1)(r:Option Nat)(bl:Nat):Lw w w1 r r bl:=⟨h.os,h.tape,h.output,h.size,fun k hk _ _=>h.block k hk, .inl rfl⟩
theorem Lw.rw(h:Rw w w1 r r1)(bl:Nat):Lw w w1 r r1 bl:=⟨h.1.os,h.1.tape,h.1.output,h.1.size,fun k hk hn _=>h.1.block k hk hn,h.2⟩
theorem Lw.low(h:Lw w w1 r r1 bl){B:Nat}(hB:B≤w.heap.size)(hr: ∀k,r=some k→B≤k)(hb:B≤bl):Below B w w1:=⟨h.os,h.tape,h.output,h.size,fun k hk=>h.keep k (by omega) (fun e=>by have:=hr k e.symm;omega) (by omega)⟩
theorem Lw.cell(h:Lw w w1 r r1 bl){p:Addr}{v:Value}(hc:w.cell? p=some v)(hr:some p.block≠r)(hb:p.block≠bl):w1.cell? p=some v:=(World.cell?_of_block (h.keep p.block (cell_lt hc) hr hb)).trans hc
theorem Lw.set(b i:Nat)(v:Value)(r:Option Nat):Lw w (w.setCell ⟨b,i,none⟩ v) r r b:=⟨rfl,rfl,rfl,by simp [World.setCell],fun k hk _ hb=>Below.heap_setCell _ ⟨b,i,none⟩ _ k hb, .inl rfl⟩
end
section
variable {R:Nat→Option (List Nat)} {t:Nat}
theorem blist_room(hk: ∀y,bnE R t y=0→(bnG R t y).keys.length≤33): ∀(f:Nat) (o:List (Nat × Nat) × Nat) (h:Nat),(blist R t f o h).1.length+33*(blist R t f o h).2≤o.1.length+33*o.2
 |0,o,h=>by unfold blist;exact Nat.le_refl _
 |f+1,o,h=>by
  unfold blist
  split
  · exact Nat.le_refl _
  · next hc=>
    have h0:bnE R t h=0:=Classical.byContradiction fun h9=>hc (.inl h9)
    have ho:o.2≠0:=fun h9=>hc (.inr h9)
    have ih:=blist_room hk f
    have hfrom: ∀(m i:Nat) (o:List (Nat × Nat) × Nat),(blist.lsFrom (bnG R t h) (blist R t f) m i o).1.length+33*(blist.lsFrom (bnG R t h) (blist R t f) m i o).2≤o.1.length+m+33*o.2:=by
     intro m
     induction m with
     |zero=>
      intro i o
      unfold blist.lsFrom
      split
      · exact Nat.le_refl _
      · exact ih o _
     |succ m ihm=>
      intro i o
      unfold blist.lsFrom
      refine Nat.le_trans (ihm (i+1) _) ?_
      unfold blist.lsStep
      simp only [List.length_append,List.length_cons,List.length_nil]
      split
      · omega
      · have:=ih o ((bnG R t h).kids.getD i 0);omega
    have h1:=hfrom (bnG R t h).keys.length 0 (o.1,o.2-1)
    have h2:=hk h h0
    simp only at h1
    omega
end
end Go.Proofs.YthcmecokejemcaaGreatDoor
