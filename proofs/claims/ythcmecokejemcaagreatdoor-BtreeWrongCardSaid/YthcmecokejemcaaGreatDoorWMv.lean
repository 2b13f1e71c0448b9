/-
  The seat's own texts, part v: AllS, BtW8, BtW9, BaP, BtWA, BiP3, BiP4.
-/
import Derived.Test.YthcmecokejemcaaGreatDoorWMu
import Derived.Deep.Onto
import Derived.Maps.AppendAt
set_option linter.unusedSimpArgs false
set_option linter.unusedVariables false
set_option maxHeartbeats 16000000
namespace Go.Proofs.YthcmecokejemcaaGreatDoor
open Go.RowKit Go.Shelf
theorem Tryz.under_handles:Tryz.prog.underlying 43=some (.slice 23):=by kernel_rfl
theorem Tryz.info_handle:(Tryz.prog.info? 23).map (fun i=>(i.zero,i.size,i.bytes))=some (some (.int .u64 0),1,8):=by kernel_rfl
theorem below_append{N:Nat}{w1 wr w' :World}{tmp:Obj}{v:Value}(hb:Below N w1 wr)(hN:N≤wr.heap.size)(hg:(wr.alloc tmp).grownBy w' v.ownBlock)(hv: ∀r,v.ownBlock=some r→N≤r):Below N w1 w' :=
 ⟨hg.os.trans hb.os,hg.tape.trans hb.tape,hg.output.trans hb.output,Nat.le_trans hb.size (Nat.le_trans (by simp) hg.size),fun k hk=>by
  have h1:k<wr.heap.size:=by omega
  refine(hg.block k (by simp;omega) (fun e=> ?_)).trans ((Below.heap_alloc wr tmp k h1).trans (hb.block k hk))
  have:=hv k e.symm
  omega⟩
theorem ownBlock_low{W:World}{N:Nat}{e:TypeId}{v:Value}{n:Nat}{xs:List Value}(h:W.ownsRow N e 1 v n xs)(r:Nat)(hr:v.ownBlock=some r):N≤r:=by
 rcases h.2 with ⟨rfl,_⟩|⟨g,cap,cur,rfl,hb,_⟩
 · simp [Value.ownBlock] at hr
 · have:g=r:=by simpa [Value.ownBlock] using hr
   omega
section
variable {w w' :World} {s:Nat} {F:Nat→Prop} {R:Nat→Option (List Nat)} {H:List Nat} {P q most last G:Nat}
set_option maxRecDepth 100000 in
theorem sall_at(h:StoreIs w s F R H P q most last G):
 Calls Tryz.prog 20 #[.pointer (some ⟨s,0,none⟩)] w fun e w' => ∃(v:Value) (Hs:List Nat),e= .returned v∧Hs.Perm H∧w'.ownsRow w.heap.size 23 1 v Hs.length (Hs.map fun x:Nat=>Value.int .u64 (x:Int))∧Below w.heap.size w w' :=by
 obtain⟨a,ha,t,v,L,mem,sl,Fh,h⟩:=h
 obtain⟨i0,hi,hz0,hz1,hz2⟩:=info_parts Tryz.info_handle
 have hN:=Lib.hid (snone_at h)
 have hch:=h.ch
 have hS:=Lib.hid h
 have hLv:=Lib.hid (live_is h.heap)
 have hperm:=Lib.hid h.perm
 have hlenL:Hid ((blocks L).length≤31*4096):=Lib.hid (by
  obtain⟨⟨mb,D,k1,rfl⟩,k3,k4⟩:=h.heap
  have h1:=k1.sl.room;have h2:=k1.sl.quota;rw [k1.sl.count] at h1
  have h3:=heads_len (L:=L);have h4:=blocks_len L;omega)
 clear h
 go_enter Tryz.func20,Tryz.ntmps20
 go_wp2_with fail
 refine hN.out.mono ?_
 rintro e w' ⟨rfl,rfl⟩
 go_wp2_with fail
 refine hLv.out.mono ?_
 rintro e w1 ⟨lv,rfl,hrow,hb⟩
 obtain⟨A,c,rfl⟩:=ownsRow_form hrow
 have hrowH:=Lib.hid hrow
 have hbH:=Lib.hid hb
 have hS1:=Lib.hid (hS.out.below hb)
 have hca:=hS1.out.ca
 have hn:=hlenL.out
 clear hrow hb
 generalize hbl:blocks L=bl at*
 have hblH:=Lib.hid hbl
 clear hbl
 go_wp2
 go_loopw [16,3] (fun kv vv wr=> ∃k:Nat,k≤bl.length∧kv= .int .i64 k∧Hid (wr.ownsRow w1.heap.size 23 1 vv k ((bl.take k).map fun b=>Value.int .u64 (mem b.1:Int)))∧Hid (Below w1.heap.size w1 wr)) (fun kv _ _=>bl.length-(intOf kv).toNat)
 case atStart=>exact⟨0,by omega,rfl,Lib.hid (by simpa using World.ownsRow_nil _ _ _ _),Lib.hid (Below.refl _ _)⟩
 case round=>
  obtain⟨k,hkk,rfl,hrowk,hbk⟩:=hrel
  by_cases hlt:k<bl.length
  · obtain⟨g,c',hsl,hg1,hg2,hcell⟩:=ownsRow_cell hrowH.out (i:=k) (u:= .int .i64 ((bl[k].1:Nat):Int)) (by simp [rowsOf,hlt])
    obtain⟨rfl,rfl⟩:A=some ⟨g,0,none⟩∧c=c' :=by simpa using hsl
    have hcr:wr.cell? ⟨g,k,none⟩=some (.int .i64 ((bl[k].1:Nat):Int)):=(hbk.out.cell (p:=⟨g,k,none⟩) hg2).trans hcell
    have hSr:=Lib.hid (hS1.out.below hbk.out)
    have hcar:=hSr.out.ca
    have hmem:bl[k]∈blocks L:=by rw [hblH.out];exact List.getElem_mem hlt
    have hRd:=Lib.hid (read_is hSr.out.heap hmem bl[k].1 (Nat.le_refl _) (by have:=block_within_two hSr.out.heap.lay hmem;omega))
    have hsz:=hbk.out.size
    have hnext:Hid (((bl.take k).map fun b=>Value.int .u64 (mem b.1:Int))++ [Value.int .u64 (mem bl[k].1:Int)]=(bl.take (k+1)).map fun b=>Value.int .u64 (mem b.1:Int)):=Lib.hid (by rw [List.take_succ_eq_append_getElem hlt,List.map_append];rfl)
    clear hcell hsl hmem
    generalize hbk1:bl[k].1=x at*
    clear hbk1
    go_wp2_with fail
    refine hRd.out.mono ?_
    rintro e w2 ⟨rfl,rfl⟩
    have hlen:k≤31*4096:=by omega
    go_wp2_with (at_builtin;refine wpList_append_own_at _ rfl _ _ 43 rfl w1.heap.size 23 i0 (.int .u64 0) 1 8 Tryz.under_handles hi hz0 hz1 hz2 rfl (by decide) _ _ _ rfl (hrowk.out.alloc _) ⟨wr.heap.size,0,none⟩ 1 1 [.int .u64 (mem x:Int)] rfl rfl (cell_one_new _ _ _) (by simp [Value.oneCell']) (by unfold maxLen;omega) (by omega) (by simp;omega) ?_;intro v' w3 hown' hgrow _ hblk;rw [hnext.out] at hown';have hb3:=below_append hbk.out hsz hgrow (fun r hr=>ownBlock_low hrowk.out r hr))
    go_roundw
    case rel=>exact⟨k+1,by omega,by go_num,Lib.hid hown',Lib.hid hb3⟩
    case measure=>simp [intOf];omega
  · obtain rfl:k=bl.length:=by omega
    go_wp2
    go_ret
    rw [List.take_length] at hrowk
    refine⟨_,bl.map fun b=>mem b.1,rfl,hperm.out.symm, ?_,hbH.out.trans (hbk.out.mono hbH.out.size)⟩
    rw [List.length_map,List.map_map]
    exact hrowk.out.mono hbH.out.size
end
def Rw(w w' :World)(r r' :Option Nat):Prop:=w.grownBy w' r∧(r' =r∨ ∀k,r' =some k→w.heap.size≤k)
theorem Rw.below{w w' :World}(h:Below w.heap.size w w')(r:Option Nat):Rw w w' r r:=⟨⟨h.os,h.tape,h.output,h.size,fun k hk _=>h.block k hk⟩, .inl rfl⟩
theorem Rw.trans{w w1 w2:World}{r r1 r2:Option Nat}(h:Rw w w1 r r1)(g:Rw w1 w2 r1 r2):Rw w w2 r r2:=by
 refine⟨⟨g.1.os.trans h.1.os,g.1.tape.trans h.1.tape,g.1.output.trans h.1.output,Nat.le_trans h.1.size g.1.size,fun k hk hn=>(g.1.block k (Nat.lt_of_lt_of_le hk h.1.size) (fun e=> ?_)).trans (h.1.block k hk hn)⟩, ?_⟩
 · rcases h.2 with h2|h2
   · exact hn (e.trans h2)
   · have:=h2 k e.symm;omega
 · rcases g.2 with g2|g2
   · rw [g2];exact h.2
   · exact .inr fun k hk=>Nat.le_trans h.1.size (g2 k hk)
theorem Rw.cell{w w' :World}{r r' :Option Nat}(h:Rw w w' r r'){p:Addr}{v:Value}(hc:w.cell? p=some v)(hr:some p.block≠r):w'.cell? p=some v:=(World.cell?_of_block (h.1.block p.block (cell_lt hc) hr)).trans hc
theorem Rw.low{w w' :World}{r r' :Option Nat}(h:Rw w w' r r'){B:Nat}(hB:B≤w.heap.size)(hr: ∀k,r=some k→B≤k):Below B w w' :=⟨h.1.os,h.1.tape,h.1.output,h.1.size,fun k hk=>h.1.block k (by omega) (fun e=>by have:=hr k e.symm;omega)⟩
theorem Rd.rw{w w' :World}{s N nn:Nat}{R:Nat→Option (List Nat)}{r r' :Option Nat}(h:Rd N w s R nn)(g:Rw w w' r r')(hN:N≤w.heap.size)(hr: ∀k,r=some k→N≤k):Rd N w' s R nn:=h.kb (KB.from_below (g.low hN hr) (Nat.le_refl _)) fun _ hk=>hk
theorem rows_keep{w w' :World}{B:Nat}{e:TypeId}{sz n:Nat}{v:Value}{xs:List Value}(h:w.ownsRow B e sz v n xs)(hk: ∀k,v.ownBlock=some k→w'.heap[k]? =w.heap[k]?):w'.ownsRow B e sz v n xs:=by
 refine⟨h.1, ?_⟩
 rcases h.2 with h2|⟨g,cap,cur,h2,h3,h4,h5⟩
 · exact .inl h2
 · refine .inr ⟨g,cap,cur,h2,h3, ?_,h5⟩
   rw [hk g (by rw [h2];rfl)];exact h4
theorem rows_lt{w:World}{B:Nat}{e:TypeId}{sz n:Nat}{v:Value}{xs:List Value}(h:w.ownsRow B e sz v n xs): ∀k,v.ownBlock=some k→k<w.heap.size:=fun k hk=>by
 rcases h.2 with ⟨h2,_⟩|⟨g,cap,cur,h2,h3,h4,h5⟩
 · rw [h2] at hk;cases hk
 · rw [h2] at hk
   obtain rfl:g=k:=by simpa [Value.ownBlock] using hk
   exact(Array.getElem?_eq_some_iff.1 h4).1
theorem row_below{w w' :World}{B:Nat}{e:TypeId}{sz n:Nat}{v:Value}{xs:List Value}(h:w.ownsRow B e sz v n xs)(hb:Below w.heap.size w w'):w'.ownsRow B e sz v n xs:=rows_keep h fun k hk=>hb.block k (rows_lt h k hk)
theorem Own3.ge{w:World}{B:Nat}{v1 v2 v3:Value}{l1 l2 l3:List Nat}(h:Own3 w B v1 l1 v2 l2 v3 l3): ∀k,v3.ownBlock=some k→B≤k:=fun k hk=>(row_ge h.r3 hk).1
theorem bnodes_len{R:Nat→Option (List Nat)}{t most:Nat}: ∀(f:Nat) (out:List Nat) (h:Nat),out.length≤(bnodes R t most f out h).length∧(bnodes R t most f out h).length≤max out.length most
 |0,out,h=>by unfold bnodes;omega
 |f+1,out,h=>by
  unfold bnodes
  split
  · omega
  · next hc=>
    have hfold: ∀(l:List Nat) (o:List Nat),o.length≤(l.foldl (bnodes R t most f) o).length∧(l.foldl (bnodes R t most f) o).length≤max o.length most:=by
     intro l
     induction l with
     |nil=>intro o;simp only [List.foldl_nil];omega
     |cons x l ih=>
      intro o
      rw [List.foldl_cons]
      have h1:=bnodes_len (R:=R) (t:=t) (most:=most) f o x
      have h2:=ih (bnodes R t most f o x)
      omega
    have:=hfold (bnG R t h).kids (out++ [h])
    rw [List.length_append,List.length_singleton] at this
    omega
def NodesR(N:Nat)(w:World)(r:Option Nat)(l:List Nat)(e:Ending)(w' :World):Prop:=
 ∃v',e= .returned v' ∧w'.ownsRow N 23 1 v' l.length (hsV l)∧Rw w w' r v'.ownBlock
section
variable {s N:Nat} {R:Nat→Option (List Nat)} {nn:Nat}
set_option maxRecDepth 100000 in
theorem btNodes_at(t:Nat)(ht:BN.Deg t)(most:Nat)(hm:most≤262145): ∀(f:Nat),f≤40→ ∀(w:World) (h:Rd N w s R nn) (hN:N≤w.heap.size) (x:Nat) (hx:x<18446744073709551616) (out:List Nat) (v:Value) (hrow:w.ownsRow N 23 1 v out.length (hsV out)) (hol:out.length≤262145),
 Calls Tryz.prog 40 #[.agg #[.pointer (some ⟨s,0,none⟩), .int .i64 (t:Nat)],v, .int .u64 (x:Nat), .int .i64 (most:Nat), .int .i64 ((40-f:Nat):Int)] w (NodesR N w v.ownBlock (bnodes R t most f out x)):=by
 intro f
 induction f with
 |zero=>
  intro _ w h hN x hx out v hrow hol
  obtain⟨A,c,rfl⟩:=ownsRow_form hrow
  have hb1:Below w.heap.size w (w.alloc (Obj.cells #[.pointer (some ⟨s,0,none⟩), .int .i64 (t:Nat)] 74)):=(Below.refl _ w).alloc (Nat.le_refl _) _
  have hGtH:=Lib.hid (btGet_at (h.below hb1) t ht x hx)
  have hb1H:=Lib.hid hb1
  have hrowH:=Lib.hid hrow
  have d40:((40-0:Nat):Int)=40:=rfl
  rw [d40]
  clear d40 h hb1 hrow
  go_enter Tryz.func40,Tryz.ntmps40
  go_wp2_with fail
  refine hGtH.out.mono ?_
  rintro e w2 ⟨v1,v2,v3,rfl,hown,hb2⟩
  obtain⟨A1,q1,rfl⟩:=ownN_form hown.r1
  obtain⟨A2,q2,rfl⟩:=ownN_form hown.r2
  obtain⟨A3,q3,rfl⟩:=ownN_form hown.r3
  have hb3:=hb1H.out.trans (hb2.mono hb1H.out.size)
  have hb4:=hb3.alloc hb3.size (Obj.cells #[Value.slice A1 (bnG R t x).keys.length q1,Value.slice A2 (bnG R t x).vals.length q2,Value.slice A3 (bnG R t x).kids.length q3,Value.int IntKind.u64 ((bnG R t x).size:Nat)] 48)
  have hfin:Hid (NodesR N w (Value.slice A out.length c).ownBlock out (.returned (.slice A out.length c)) (w2.alloc (Obj.cells #[Value.slice A1 (bnG R t x).keys.length q1,Value.slice A2 (bnG R t x).vals.length q2,Value.slice A3 (bnG R t x).kids.length q3,Value.int IntKind.u64 ((bnG R t x).size:Nat)] 48))):=Lib.hid ⟨_,rfl,row_below hrowH.out hb4,Rw.below hb4 _⟩
  have hE:Hid (bnodes R t most 0 out x=out):=Lib.hid rfl
  generalize (bnG R t x).keys.length=n1 at*
  generalize (bnG R t x).vals.length=n2 at*
  generalize (bnG R t x).kids.length=n3 at*
  generalize (bnG R t x).size=n4 at*
  clear hb3 hb4 hb2 hown
  cases decide (bnE R t x=0) with
  |true=>
   go_wp2
   go_ret
   rw [hE.out]
   exact hfin.out
  |false=>
   go_wp2
   go_ret
   rw [hE.out]
   exact hfin.out
 |succ f ih=>
  intro hf w h hN x hx out v hrow hol
  obtain⟨A,c,rfl⟩:=ownsRow_form hrow
  obtain⟨i0,hi,hz0,hz1',hz2⟩:=info_parts Tryz.info_handle
  obtain⟨W1,hW1⟩: ∃W,W=w.alloc (Obj.cells #[.pointer (some ⟨s,0,none⟩), .int .i64 (t:Nat)] 74):=⟨_,rfl⟩
  have hb1:Below w.heap.size w W1:=by rw [hW1];exact(Below.refl _ w).alloc (Nat.le_refl _) _
  obtain⟨b5,hb5⟩: ∃b,b=w.heap.size:=⟨_,rfl⟩
  have x5:Box W1 b5 74 [.pointer (some ⟨s,0,none⟩), .int .i64 (t:Nat)]:=by rw [hW1,hb5];exact Box.new w _ _
  have hGt:=btGet_at (h.below hb1) t ht x hx
  obtain⟨d,hd⟩: ∃d,d=40-(f+1):=⟨_,rfl⟩
  have hd40:d<40:=by omega
  rw [←hd]
  have hb1H:=Lib.hid hb1
  have hW1H:=Lib.hid (And.intro hW1 hb5)
  have x5H:=Lib.hid x5
  have hGtH:=Lib.hid hGt
  have hH:=Lib.hid h
  have hrowH:=Lib.hid hrow
  have hdH:=Lib.hid hd
  have ihH:=Lib.hid ih
  have g5:w.heap.size≤b5:=by omega
  clear hW1 hb5 x5 hGt h hrow hb1 hd ih
  have hunf:Hid (bnodes R t most (f+1) out x=if bnE R t x≠0∨most≤out.length then out else (bnG R t x).kids.foldl (bnodes R t most f) (out++ [x])):=Lib.hid (by conv=>lhs;unfold bnodes)
  go_enter Tryz.func40,Tryz.ntmps40
  have d40:((d:Int)==40)=false:=by simp;omega
  have e50:=x5H.out.at' (i:=0) rfl
  have e51:=x5H.out.at' (i:=1) rfl
  rw [hW1H.out.1,hW1H.out.2] at e50 e51
  go_wp2_with fail
  rw [←hW1H.out.1,←hW1H.out.2]
  refine hGtH.out.mono ?_
  rintro e w2 ⟨v1,v2,v3,rfl,hown,hb2⟩
  obtain⟨A1,q1,rfl⟩:=ownN_form hown.r1
  obtain⟨A2,q2,rfl⟩:=ownN_form hown.r2
  obtain⟨A3,q3,rfl⟩:=ownN_form hown.r3
  obtain⟨n,hn⟩: ∃n,n=bnG R t x:=⟨_,rfl⟩
  rw [←hn] at hown
  rw [←hn]
  obtain⟨W3,hW3⟩: ∃W,W=w2.alloc (Obj.cells #[.slice A1 n.keys.length q1, .slice A2 n.vals.length q2, .slice A3 n.kids.length q3, .int .u64 (n.size:Nat)] 48):=⟨_,rfl⟩
  obtain⟨b11,hb11⟩: ∃b,b=w2.heap.size:=⟨_,rfl⟩
  have hb23:Below w2.heap.size w2 W3:=by rw [hW3];exact(Below.refl _ _).alloc (Nat.le_refl _) _
  have x11:Box W3 b11 48 [.slice A1 n.keys.length q1, .slice A2 n.vals.length q2, .slice A3 n.kids.length q3, .int .u64 (n.size:Nat)]:=by rw [hW3,hb11];exact Box.new w2 _ _
  have hb03:=Lib.hid (hb1H.out.trans ((hb2.trans (hb23.mono hb2.size)).mono hb1H.out.size))
  have x5w:=Lib.hid ((x5H.out.below hb2).below hb23)
  have x11H:=Lib.hid x11
  have hownH:=Lib.hid (hown.below hb23)
  have hW3H:=Lib.hid (And.intro hW3 hb11)
  have hnH:=Lib.hid hn
  have hrow3:=Lib.hid (row_below hrowH.out hb03.out)
  have hb11w:w.heap.size≤b11:=by have:=hb1H.out.size;have:=hb2.size;omega
  have hfin0:Hid (bnE R t x≠0∨most≤out.length→NodesR N w (Value.slice A out.length c).ownBlock (bnodes R t most (f+1) out x) (.returned (.slice A out.length c)) W3):=Lib.hid (fun h=>by
   rw [hunf.out,if_pos h]
   exact⟨_,rfl,hrow3.out,Rw.below hb03.out _⟩)
  clear hn hb2 hb23 hown hW3 hb11 x11
  by_cases he:bnE R t x=0
  · rw [decide_eq_true he]
    have hw:=bnG_words (hH.out.below hb03.out) ht he
    rw [←hnH.out] at hw
    obtain⟨hfit,wk,wv,wc,hsz⟩:=hw
    have hkl:n.kids.length≤33:=by
     have:=ht.2
     rcases hfit.2.2 with h9|h9
     · rw [h9];simp
     · have:=hfit.1;omega
    have wcH:=Lib.hid wc
    have heH:=Lib.hid he
    clear hfit wk wv wc he
    by_cases hlt:most≤out.length
    · have dl:decide ((out.length:Int)≥(most:Int))=true:=decide_eq_true (by omega)
      go_wp2
      rw [←hW3H.out.1]
      go_ret
      exact hfin0.out (.inr hlt)
    · have dl:decide ((out.length:Int)≥(most:Int))=false:=decide_eq_false (by omega)
      have hxk:Hid (bnodes R t most (f+1) out x=n.kids.foldl (bnodes R t most f) (out++ [x])):=Lib.hid (by rw [hunf.out,if_neg (by rintro(h9|h9);exact h9 heH.out;exact hlt h9),hnH.out])
      have hNW:N≤W3.heap.size:=Nat.le_trans hN hb03.out.size
      go_upto_region 4 with (fail)
      rw [←hW3H.out.1,←hW3H.out.2]
      go_upto_region 5 with (at_builtin;refine wpList_append_own_at _ rfl _ _ 43 rfl N 23 i0 (.int .u64 0) 1 8 Tryz.under_handles hi hz0 hz1' hz2 rfl (by decide) _ _ _ rfl (hrow3.out.alloc _) ⟨W3.heap.size,0,none⟩ 1 1 [.int .u64 (x:Int)] rfl rfl (cell_one_new _ _ _) (by simp [Value.oneCell']) (by unfold maxLen;omega) (by omega) (by simp;omega) ?_;intro v' w4 hown' hgrow _ hblk)
      have hown' :w4.ownsRow N 23 1 v' (out++ [x]).length (hsV (out++ [x])):=by rw [hsV_snoc,List.length_append];exact hown'
      obtain⟨o1,ho1⟩: ∃o,o=out++ [x]:=⟨_,rfl⟩
      rw [←ho1] at hown'
      have hrw4:Rw W3 w4 (Value.slice A out.length c).ownBlock v'.ownBlock:=by
       refine⟨⟨hgrow.os,hgrow.tape,hgrow.output,Nat.le_trans (by simp) hgrow.size,fun k hk hn=>(hgrow.block k (by simp;omega) hn).trans (Below.heap_alloc W3 _ k hk)⟩, ?_⟩
       rcases hblk with h9|h9
       · exact .inl h9
       · exact .inr fun k hk=>by rw [h9] at hk;simp at hk;omega
      have hownr:=Lib.hid hown'
      have hrw4H:=Lib.hid hrw4
      have hol1:o1.length≤262145:=by rw [ho1];simp;omega
      have hoH:=Lib.hid ho1
      clear hown' hrw4 hgrow hblk ho1
      obtain⟨rO,hrO⟩: ∃r,r=(Value.slice A out.length c).ownBlock:=⟨_,rfl⟩
      have hrOw:Hid (∀k,rO=some k→k<w.heap.size∧N≤k):=Lib.hid (by rw [hrO];exact fun k hk=>⟨rows_lt hrowH.out k hk,ownBlock_low hrowH.out k hk⟩)
      rw [←hrO] at hrw4H
      have hrOH:=Lib.hid hrO
      have hgo3:Hid (∀k,A3=some k→w.heap.size≤k.block):=Lib.hid (fun k hk=>Nat.le_trans hb1H.out.size (hownH.out.ge k.block (by rw [hk];rfl)))
      clear hrO
      rw [←hrOH.out]
      have l11:=x11H.out.lt
      have hQ:Hid (∀v2 w2 l,l=n.kids.length→w2.ownsRow N 23 1 v2 ((n.kids.take l).foldl (bnodes R t most f) o1).length (hsV ((n.kids.take l).foldl (bnodes R t most f) o1))→Rw W3 w2 rO v2.ownBlock→NodesR N w rO (bnodes R t most (f+1) out x) (.returned v2) w2):=Lib.hid (fun v2 w2 l hl h1 h2=>by
       subst hl
       rw [List.take_length] at h1
       rw [hxk.out,←hoH.out]
       exact⟨v2,rfl,h1,(Rw.below hb03.out rO).trans h2⟩)
      have e112:w4.cell? ⟨b11,2,none⟩=some (.slice A3 n.kids.length q3):=hrw4H.out.cell (x11H.out.at' (i:=2) rfl) (fun h9=>by have:=(hrOw.out b11 h9.symm).1;omega)
      go_wp2
      go_loopw [1,41] (fun vv kv wr=> ∃k:Nat,k≤n.kids.length∧kv= .int .i64 k∧Hid (wr.ownsRow N 23 1 vv ((n.kids.take k).foldl (bnodes R t most f) o1).length (hsV ((n.kids.take k).foldl (bnodes R t most f) o1))∧Rw W3 wr rO vv.ownBlock)) (fun _ kv _=>n.kids.length-(intOf kv).toNat)
      case atStart=>exact⟨0,Nat.zero_le _,rfl,Lib.hid ⟨hownr.out,hrw4H.out⟩⟩
      case round=>
       obtain⟨k,hk,rfl,hr⟩:=hrel
       by_cases hlt2:k<n.kids.length
       · obtain⟨b,o,hA3,hbl,hcell⟩:=CellsF.num (F:=fun _=>False) (by obtain⟨A',c',e1,h1⟩:=row_cellsF (F:=fun _=>False) hownH.out.r3 (fun _ h=>h.elim);cases e1;exact h1) hlt2
         have hbw:w.heap.size≤b:=hgo3.out _ hA3
         have hck:=hr.out.2.cell (hcell W3 (Below.refl _ _)) (fun h9=>by have:=(hrOw.out b h9.symm).1;omega)
         have hcx:=wcH.out k hlt2
         obtain⟨y,hy⟩: ∃y,n.kids[k]=y:=⟨_,rfl⟩
         rw [hy] at hck hcx
         have hnext:Hid ((n.kids.take (k+1)).foldl (bnodes R t most f) o1=bnodes R t most f ((n.kids.take k).foldl (bnodes R t most f) o1) y):=Lib.hid (by rw [List.take_succ_eq_append_getElem hlt2,List.foldl_append,hy];rfl)
         have e50:=hr.out.2.cell (x5w.out.at' (i:=0) rfl) (fun h9=>by have:=(hrOw.out b5 h9.symm).1;omega)
         have e51:=hr.out.2.cell (x5w.out.at' (i:=1) rfl) (fun h9=>by have:=(hrOw.out b5 h9.symm).1;omega)
         have hRr:=(hH.out.below hb03.out).rw hr.out.2 hNW (fun k hk=>(hrOw.out k hk).2)
         have hNr:N≤wr.heap.size:=Nat.le_trans hNW hr.out.2.1.size
         have hlen:=bnodes_len (R:=R) (t:=t) (most:=most)
         obtain⟨oo,hoo⟩: ∃oo,oo=(n.kids.take k).foldl (bnodes R t most f) o1:=⟨_,rfl⟩
         have hool:oo.length≤262145:=by
          have hfold: ∀(l o:List Nat),o.length≤262145→(l.foldl (bnodes R t most f) o).length≤262145:=by
           intro l
           induction l with
           |nil=>exact fun o h=>h
           |cons a l ih=>intro o h;rw [List.foldl_cons];exact ih _ (by have:=(hlen f o a).2;omega)
          rw [hoo];exact hfold _ _ (by omega)
         rw [←hoo] at hnext
         have hr1:=hr.out.1
         rw [←hoo] at hr1
         have hrc:=ihH.out (by omega) wr hRr hNr y hcx oo _ hr1 hool
         rw [show 40-f=d+1 by rw [hdH.out];omega] at hrc
         have hr2:=Lib.hid hr.out.2
         have hrcH:=Lib.hid hrc
         have hooH:=Lib.hid hoo
         subst hA3
         clear hr hr1 hrc hcell hlen hy hoo hRr
         go_wp2_with fail
         refine hrcH.out.mono ?_
         rintro e w5 ⟨v5,rfl,ho5,hrw5⟩
         have hr5:=Lib.hid (And.intro ho5 (hr2.out.trans hrw5))
         clear ho5 hrw5
         go_wp2
         go_roundw
         case rel=>exact⟨k+1,by omega,by go_num,by rw [hnext.out];exact hr5⟩
         case measure=>simp [intOf];omega
       · obtain rfl:k=n.kids.length:=by omega
         have hqe:=hQ.out _ _ _ rfl hr.out.1 hr.out.2
         rw [hrOH.out] at hqe
         have hqH:=Lib.hid hqe
         clear hqe
         go_wp2
         go_ret
         exact hqH.out
  · rw [decide_eq_false he]
    go_wp2
    rw [←hW3H.out.1]
    go_ret
    exact hfin0.out (.inl he)
theorem mostN_le{nn t:Nat}(h:nn≤262144):mostN nn t≤262145:=by
 unfold mostN
 have:=Nat.div_le_self nn (6*t)
 omega
set_option maxRecDepth 100000 in
theorem btNods_at{w:World}(h:Rd N w s R nn)(t:Nat)(ht:BN.Deg t)(x:Nat)(hx:x<18446744073709551616):
 Calls Tryz.prog 15 #[.pointer (some ⟨s,0,none⟩), .int .i64 (t:Nat), .int .u64 (x:Nat)] w fun e w' => ∃v',e= .returned v' ∧w'.ownsRow w.heap.size 23 1 v' (bnodes R t (mostN nn t) 40 [] x).length (hsV (bnodes R t (mostN nn t) 40 [] x))∧Below w.heap.size w w' :=by
 have hmo:Tryz.prog.follows .mixedOrders=true:=by kernel_rfl
 have h:=h.here
 have hle:=h.le
 have hA:=Lib.hid (btAsked_at h ht)
 obtain⟨W0,hW0⟩: ∃W,W=w.alloc (Obj.cells #[.pointer (some ⟨s,0,none⟩), .int .i64 (t:Nat)] 74):=⟨_,rfl⟩
 have hb1:Below w.heap.size w W0:=by rw [hW0];exact(Below.refl _ w).alloc (Nat.le_refl _) _
 obtain⟨b7,hb7⟩: ∃b,b=w.heap.size:=⟨_,rfl⟩
 have x1:Box W0 b7 74 [.pointer (some ⟨s,0,none⟩), .int .i64 (t:Nat)]:=by rw [hW0,hb7];exact Box.new w _ _
 have hM:=Lib.hid (fun W (hb:Below w.heap.size w W)=>btMost_at (h.below hb) t ht)
 have hNd:=Lib.hid (fun W (hb:Below w.heap.size w W)=>btNodes_at t ht (mostN nn t) (mostN_le hle) 40 (Nat.le_refl _) W (h.below hb) hb.size x hx [] (.slice none 0 0) (World.ownsRow_nil _ _ _ _) (by simp))
 rw [show((40-40:Nat):Int)=0 from rfl] at hNd
 generalize bnodes R t (mostN nn t) 40 [] x=l at*
 generalize mostN nn t=m at*
 have hb1H:=Lib.hid hb1
 have hWH:=Lib.hid (And.intro hW0 hb7)
 have c0:=fun X:Exw (fun _=>False) W0=>X.cell (x1.at' (i:=0) rfl) (fun h=>h)
 have c1:=fun X:Exw (fun _=>False) W0=>X.cell (x1.at' (i:=1) rfl) (fun h=>h)
 clear hW0 hb7 hb1 x1 h hle
 go_enter Tryz.func15,Tryz.ntmps15
 go_wp2_with fail
 refine hA.out.mono ?_
 rintro e w1 ⟨rfl,rfl⟩
 go_wp2
 rw [←hWH.out.1,←hWH.out.2]
 refine wp_region_steps (fun w' => ∃X:Exw (fun _=>False) W0,w' =X.W) [.r 0, .r 1, .r 2, .a 3, .a 4, .r 5] hmo (by kernel_rfl) rfl (by kernel_rfl) (exw_start _ _) (fun _ _ d _ _ h=>by cases d<;>exact h) ?_
 iterate 3 (refine wpSteps_r _ _ rfl rfl (by rintro _ ⟨X,rfl⟩;go_simp;exact rfl) ?_;go_simp)
 clear c0 c1
 have hbd:=Lib.hid (hb1H.out.trans ((below_drawn W0).mono hb1H.out.size))
 refine wpSteps_a _ rfl (fun K1 hK1=> ?_)
 go_wp2_with fail
 refine(hM.out _ hbd.out).mono ?_
 rintro e w2 ⟨rfl,hb2⟩
 have hb3:=Lib.hid (hbd.out.trans (hb2.mono hbd.out.size))
 have hb4:=Lib.hid ((below_drawn W0).trans hb2)
 clear hb2
 go_wp2
 refine hK1 _ _ (exw_below hb4.out) ?_
 clear hK1 K1
 refine wpSteps_a _ rfl (fun K2 hK2=> ?_)
 go_wp2_with fail
 refine(hNd.out _ hb3.out).mono ?_
 rintro e w3 ⟨v',rfl,ho,hrw⟩
 have hb5:=Lib.hid (hb4.out.trans ((hrw.low (Nat.le_refl _) (fun k hk=>by cases hk)).mono hb4.out.size))
 have hb6:=Lib.hid (hb3.out.trans ((hrw.low (Nat.le_refl _) (fun k hk=>by cases hk)).mono hb3.out.size))
 have hoH:=Lib.hid ho
 clear ho hrw
 go_wp2
 refine hK2 _ _ (exw_below hb5.out) ?_
 clear hK2 K2
 refine wpSteps_r _ _ rfl rfl (by rintro _ ⟨X,rfl⟩;go_simp;exact rfl) ?_
 go_simp
 refine wpSteps_nil ?_
 go_wp2
 go_ret
 exact⟨_,rfl,hoH.out,hb6.out⟩
end
section
variable {s N:Nat} {R:Nat→Option (List Nat)} {nn:Nat}
theorem bheight_le{R:Nat→Option (List Nat)}{t:Nat}: ∀(f x:Nat),bheight R t f x≤f
 |0,_=>Nat.le_refl _
 |f+1,x=>by
  unfold bheight
  split
  · omega
  · split
    · omega
    · have:=bheight_le (R:=R) (t:=t) f ((bnG R t x).kids.getD 0 0);omega
set_option maxRecDepth 100000 in
theorem btHeight_at{w:World}(h:Rd N w s R nn)(t:Nat)(ht:BN.Deg t)(x:Nat)(hx:x<18446744073709551616):
 Calls Tryz.prog 13 #[.pointer (some ⟨s,0,none⟩), .int .i64 (t:Nat), .int .u64 (x:Nat)] w fun e w' =>e= .returned (.int .i64 (bheight R t 40 x:Nat))∧Below w.heap.size w w' :=by
 have hA:=Lib.hid (btAsked_at h ht)
 have hH:=Lib.hid h
 have hfin:Hid (∀(m:Nat) W,bheight R t 40 x=m→Below w.heap.size w W→(Ending.returned (.int .i64 (m:Nat))=Ending.returned (.int .i64 (bheight R t 40 x:Nat))∧Below w.heap.size w W)):=Lib.hid (fun m W h1 h2=>⟨by rw [h1],h2⟩)
 obtain⟨D,hD⟩: ∃D,D=bheight R t 40 x:=⟨_,rfl⟩
 have hDH:=Lib.hid hD
 clear h hD
 go_enter Tryz.func13,Tryz.ntmps13
 go_wp2_with fail
 refine hA.out.mono ?_
 rintro e w1 ⟨rfl,rfl⟩
 go_wp2
 go_loopw [2,7] (fun xv hv wr=> ∃(i x' :Nat),i≤40∧x' <18446744073709551616∧xv= .int .u64 (x' :Nat)∧hv= .int .i64 (i:Nat)∧Hid (D=bheight R t (40-i) x' +i)∧Hid (Below w.heap.size w wr)) (fun _ hv _=>40-(intOf hv).toNat)
 case atStart=>exact⟨0,x,by omega,hx,rfl,rfl,hDH,Lib.hid (Below.refl _ _)⟩
 case round=>
  obtain⟨i,y,hi,hy,rfl,rfl,hd,hb⟩:=hrel
  have hGt:=Lib.hid (btGet_at (hH.out.below hb.out) t ht y hy)
  go_wp2_with fail
  refine hGt.out.mono ?_
  rintro e w2 ⟨v1,v2,v3,rfl,hown,hb2⟩
  obtain⟨A1,q1,rfl⟩:=ownN_form hown.r1
  obtain⟨A2,q2,rfl⟩:=ownN_form hown.r2
  obtain⟨A3,q3,rfl⟩:=ownN_form hown.r3
  obtain⟨n,hn⟩: ∃n,n=bnG R t y:=⟨_,rfl⟩
  rw [←hn] at hown
  rw [←hn]
  obtain⟨W3,hW3⟩: ∃W,W=w2.alloc (Obj.cells #[.slice A1 n.keys.length q1, .slice A2 n.vals.length q2, .slice A3 n.kids.length q3, .int .u64 (n.size:Nat)] 48):=⟨_,rfl⟩
  obtain⟨b8,hb8⟩: ∃b,b=w2.heap.size:=⟨_,rfl⟩
  have hb23:Below w2.heap.size w2 W3:=by rw [hW3];exact(Below.refl _ _).alloc (Nat.le_refl _) _
  have x8:Box W3 b8 48 [.slice A1 n.keys.length q1, .slice A2 n.vals.length q2, .slice A3 n.kids.length q3, .int .u64 (n.size:Nat)]:=by rw [hW3,hb8];exact Box.new w2 _ _
  have hb3:=Lib.hid (hb.out.trans ((hb2.trans (hb23.mono hb2.size)).mono hb.out.size))
  have x8H:=Lib.hid x8
  have hownH:=Lib.hid (hown.below hb23)
  have hW3H:=Lib.hid (And.intro hW3 hb8)
  have hnH:=Lib.hid hn
  clear hn hb2 hb23 hown hW3 hb8 x8 hb hGt
  by_cases he:bnE R t y=0
  · rw [decide_eq_true he]
    have hw:=bnG_words (hH.out.below hb3.out) ht he
    rw [←hnH.out] at hw
    obtain⟨hfit,wk,wv,wc,hsz⟩:=hw
    have hkl:n.kids.length≤33:=by
     have:=ht.2
     rcases hfit.2.2 with h9|h9
     · rw [h9];simp
     · have:=hfit.1;omega
    have wcH:=Lib.hid wc
    have heH:=Lib.hid he
    clear hfit wk wv wc he
    by_cases h40:i=40
    · have d40:((i:Int)==40)=true:=by rw [h40];rfl
      have hf:=Lib.hid (hfin.out i W3 (by rw [←hDH.out,hd.out,h40];simp [bheight]) hb3.out)
      clear h40
      go_wp2
      rw [←hW3H.out.1]
      go_ret
      exact hf.out
    · have d40:((i:Int)==40)=false:=by simp;omega
      obtain⟨m,hm⟩: ∃m,40-i=m+1:=⟨39-i,by omega⟩
      have hst:D=(if n.kids= [] then 1 else bheight R t m (n.kids.getD 0 0)+1)+i:=by
       rw [hd.out,hm]
       conv=>lhs;unfold bheight
       rw [if_neg (fun h=>h heH.out),←hnH.out]
      by_cases hk0:n.kids= []
      · rw [if_pos hk0] at hst
        have d0:((n.kids.length:Int)==0)=true:=by rw [hk0];rfl
        have c2:=x8H.out.at' (i:=2) rfl
        rw [hW3H.out.1,hW3H.out.2] at c2
        have hf:=Lib.hid (hfin.out (i+1) W3 (by rw [←hDH.out,hst];omega) hb3.out)
        clear hst hk0 hm
        go_wp2
        rw [←hW3H.out.1]
        go_ret
        exact hf.out
      · rw [if_neg hk0] at hst
        have hlp:0<n.kids.length:=List.length_pos_iff.2 hk0
        have d0:((n.kids.length:Int)==0)=false:=by simp;omega
        have c2:=x8H.out.at' (i:=2) rfl
        obtain⟨b,o,hA3,hbl,hcell⟩:=CellsF.num (F:=fun _=>False) (by obtain⟨A',c',e1,h1⟩:=row_cellsF (F:=fun _=>False) hownH.out.r3 (fun _ h=>h.elim);cases e1;exact h1) hlp
        have hck:=hcell W3 (Below.refl _ _)
        have hcx:=wcH.out 0 hlp
        rw [show n.kids.getD 0 0=n.kids[0] by simp [hlp]] at hst
        obtain⟨z,hz⟩: ∃z,n.kids[0]=z:=⟨_,rfl⟩
        rw [hz] at hck hcx hst
        have hrel:Hid (D=bheight R t (40-(i+1)) z+(i+1)):=Lib.hid (by rw [hst,show 40-(i+1)=m by omega];omega)
        have hck:W3.cell? ⟨b,o,none⟩=some (.int .u64 (z:Nat)):=hck
        subst hA3
        rw [hW3H.out.1,hW3H.out.2] at c2
        rw [hW3H.out.1] at hck
        clear hst hm hz hcell hk0
        go_wp2
        rw [←hW3H.out.1]
        go_roundw
        case rel=>exact⟨i+1,z,by omega,hcx,rfl,by go_num,hrel,hb3⟩
        case measure=>simp [intOf];omega
  · rw [decide_eq_false he]
    have hf:=Lib.hid (hfin.out i W3 (by
     rw [←hDH.out,hd.out]
     cases h9:40-i with
     |zero=>simp [bheight]
     |succ m=>unfold bheight;rw [if_pos he];omega) hb3.out)
    clear he
    go_wp2
    rw [←hW3H.out.1]
    go_ret
    exact hf.out
end
section
variable (R:Nat→Option (List Nat)) (t:Nat)
def atBelow(kids:List Nat)(i:Nat):Int:=if kids= [] then 0 else bszR R t (kids.getD i 0)
def atScan(kids:List Nat):Nat→Nat→Int→Nat × Int × Bool
 |0,i,k=>(i,k,false)
 |m+1,i,k=>if k≤atBelow R t kids i then (i,k,decide (k=atBelow R t kids i)) else atScan kids m (i+1) (wrap64 (k-wrap64 (atBelow R t kids i+1)))
def bat:Nat→Nat→Int→Option (Nat × Nat)
 |0,_,_=>none
 |f+1,x,k=>
  if bnE R t x≠0 then none else
  atGo (bnG R t x) (atScan R t (bnG R t x).kids (bnG R t x).keys.length 0 k) (bat f)
where
 atGo (n:BN) (p:Nat × Int × Bool) (rec:Nat→Int→Option (Nat × Nat)):Option (Nat × Nat):=
  cond p.2.2 (some (n.keys.getD p.1 0,n.vals.getD p.1 0)) (if n.kids= [] then none else rec (n.kids.getD p.1 0) p.2.1)
end
namespace Bt
section
variable {R:Nat→Option (List Nat)} {t:Nat}
end
end Bt
def batR(R:Nat→Option (List Nat))(t x:Nat)(k:Int):Option (Nat × Nat):=if k<0∨bszR R t x≤k then none else bat R t 40 x k
section
variable {s N:Nat} {R:Nat→Option (List Nat)} {nn:Nat}
set_option maxRecDepth 100000 in
theorem btAt_at{w:World}(h:Rd N w s R nn){t:Nat}(ht:BN.Deg t)(x:Nat)(hx:x<18446744073709551616)(k:Int):
 Calls Tryz.prog 8 #[.pointer (some ⟨s,0,none⟩), .int .i64 (t:Nat), .int .u64 (x:Nat), .int .i64 k] w fun e w' =>e= .returned (.tuple #[itV (batR R t x k), .int .i64 (cond (batR R t x k).isSome 0 2)])∧Below w.heap.size w w' :=by
 have hmo:Tryz.prog.follows .mixedOrders=true:=by kernel_rfl
 have hH:=Lib.hid h
 have htH:=Lib.hid ht
 obtain⟨Wi,hWi⟩: ∃W,W=w.alloc (Obj.cells #[.int .u64 0, .int .u64 0] 31):=⟨_,rfl⟩
 have hbi:Below w.heap.size w Wi:=by rw [hWi];exact(Below.refl _ w).alloc (Nat.le_refl _) _
 obtain⟨b8,hb8⟩: ∃b,b=w.heap.size:=⟨_,rfl⟩
 have xi:Box Wi b8 31 [.int .u64 0, .int .u64 0]:=by rw [hWi,hb8];exact Box.new w _ _
 obtain⟨W0,hW0⟩: ∃W,W=Wi.alloc (Obj.cells #[.pointer (some ⟨s,0,none⟩), .int .i64 (t:Nat)] 74):=⟨_,rfl⟩
 obtain⟨b11,hb11⟩: ∃b,b=Wi.heap.size:=⟨_,rfl⟩
 have hb0:Below w.heap.size w W0:=by rw [hW0];exact hbi.alloc hbi.size _
 have x8:Box W0 b8 31 [.int .u64 0, .int .u64 0]:=by rw [hW0];exact xi.alloc _
 have x11:Box W0 b11 74 [.pointer (some ⟨s,0,none⟩), .int .i64 (t:Nat)]:=by rw [hW0,hb11];exact Box.new Wi _ _
 have g8:w.heap.size≤b8:=by omega
 have h811:b11≠b8:=by have:=xi.lt;omega
 have hWiH:=Lib.hid (And.intro hWi hb8)
 have hW0H:=Lib.hid (And.intro hW0 hb11)
 have hb0H:=Lib.hid hb0
 have x8H:=Lib.hid x8
 have x11H:=Lib.hid x11
 have hbiH:=Lib.hid hbi
 have hA:=Lib.hid (btAsked_at (h.below hbi) ht)
 have hS0:=Lib.hid (btSize_at (h.below hb0) t ht x hx)
 have hfin:Hid (∀q W,batR R t x k=q→Below w.heap.size w W→(Ending.returned (.tuple #[itV q, .int .i64 (cond q.isSome 0 2)])=Ending.returned (.tuple #[itV (batR R t x k), .int .i64 (cond (batR R t x k).isSome 0 2)])∧Below w.heap.size w W)):=Lib.hid (fun q W h1 h2=>⟨by rw [h1],h2⟩)
 have hun:Hid (batR R t x k=if k<0∨bszR R t x≤k then none else bat R t 40 x k):=Lib.hid rfl
 obtain⟨D,hD⟩: ∃D,D=batR R t x k:=⟨_,rfl⟩
 have hDH:=Lib.hid hD
 have cx0:=xi.at' (i:=0) rfl
 have cx1:=xi.at' (i:=1) rfl
 rw [hWi,hb8] at cx0 cx1
 clear h ht hWi hb8 hW0 hb11 xi x8 x11 hb0 hbi hD cx0 cx1
 go_enter Tryz.func8,Tryz.ntmps8
 go_wp2_with fail
 rw [←hWiH.out.1,←hWiH.out.2]
 refine hA.out.mono ?_
 rintro e w1 ⟨rfl,rfl⟩
 by_cases hk0:k<0
 · have dk:decide (k<0)=true:=decide_eq_true hk0
   have z8:=x8H.out
   have e80:=z8.at' (i:=0) rfl
   have e81:=z8.at' (i:=1) rfl
   have k80:=z8.free 0
   have k81:=z8.free 1
   have hf:=Lib.hid (hfin.out none _ (by rw [hun.out,if_pos (.inl hk0)]) ((hb0H.out.setCell (p:=⟨b8,0,none⟩) g8 (.int .u64 0)).setCell (p:=⟨b8,1,none⟩) g8 (.int .u64 0)))
   have hq:=Lib.hid ((z8.set 0 (.int .u64 0)).set 1 (.int .u64 0))
   clear z8
   go_upto_region 6 with (fail)
   rw [←hW0H.out.1]
   go_wp2
   have r0:=hq.out.at' (i:=0) rfl
   have r1:=hq.out.at' (i:=1) rfl
   refine bodyPost_ret (v:= .tuple #[.agg #[.int .u64 0, .int .u64 0], .int .i64 2]) (by simp [results,Tryz.f8,go_sem,r0,r1]) rfl hf.out
 · have dk:decide (k<0)=false:=decide_eq_false hk0
   go_upto_region 5 with (fail)
   rw [←hW0H.out.1,←hW0H.out.2]
   have e110:=x11H.out.at' (i:=0) rfl
   have e111:=x11H.out.at' (i:=1) rfl
   obtain⟨zr,hzr⟩: ∃z,z=bszR R t x:=⟨_,rfl⟩
   have hS1:=hS0.out
   rw [←hzr] at hS1
   have hzrH:=Lib.hid hzr
   have hS1H:=Lib.hid hS1
   clear hzr hS1
   go_wp2_with fail
   refine hS1H.out.mono ?_
   rintro e w2 ⟨rfl,hb2⟩
   have hbw2:=Lib.hid (hb0H.out.trans (hb2.mono hb0H.out.size))
   have hb02:=Lib.hid hb2
   clear hb2
   by_cases hkz:zr≤k
   · have dz:decide (k≥zr)=true:=decide_eq_true hkz
     have z8:=(x8H.out.below hb02.out)
     have e80:=z8.at' (i:=0) rfl
     have e81:=z8.at' (i:=1) rfl
     have k80:=z8.free 0
     have k81:=z8.free 1
     have hf:=Lib.hid (hfin.out none _ (by rw [hun.out,if_pos (.inr (by rw [←hzrH.out];exact hkz))]) ((hbw2.out.setCell (p:=⟨b8,0,none⟩) g8 (.int .u64 0)).setCell (p:=⟨b8,1,none⟩) g8 (.int .u64 0)))
     have hq:=Lib.hid ((z8.set 0 (.int .u64 0)).set 1 (.int .u64 0))
     clear z8
     go_wp2
     have r0:=hq.out.at' (i:=0) rfl
     have r1:=hq.out.at' (i:=1) rfl
     refine bodyPost_ret (v:= .tuple #[.agg #[.int .u64 0, .int .u64 0], .int .i64 2]) (by simp [results,Tryz.f8,go_sem,r0,r1]) rfl hf.out
   · have dz:decide (k≥zr)=false:=decide_eq_false (by omega)
     have hDb:Hid (D=bat R t 40 x k):=Lib.hid (by rw [hDH.out,hun.out,if_neg (by rw [←hzrH.out];omega)])
     clear e110 e111
     go_wp2
     go_loopw [2,3,36] (fun xv kv iv wr=> ∃(i x' :Nat) (kk:Int),i≤40∧x' <18446744073709551616∧xv= .int .u64 (x' :Nat)∧kv= .int .i64 kk∧iv= .int .i64 (i:Nat)∧Hid (D=bat R t (40-i) x' kk)∧Hid (Below W0.heap.size W0 wr)) (fun _ _ iv _=>40-(intOf iv).toNat)
     case atStart=>exact⟨0,x,k,by omega,hx,rfl,rfl,rfl,hDb,hb02⟩
     case round=>
      obtain⟨i,y,kk,hi,hy,rfl,rfl,rfl,hd,hb⟩:=hrel
      have hbw:=Lib.hid (hb0H.out.trans (hb.out.mono hb0H.out.size))
      by_cases hlt:i<40
      · have hGt:=Lib.hid (btGet_at (hH.out.below hbw.out) t htH.out y hy)
        have y11:=Lib.hid (x11H.out.below hb.out)
        have y8:=Lib.hid (x8H.out.below hb.out)
        have e110:=y11.out.at' (i:=0) rfl
        have e111:=y11.out.at' (i:=1) rfl
        obtain⟨m,hm⟩: ∃m,40-i=m+1:=⟨39-i,by omega⟩
        go_wp2_with fail
        refine hGt.out.mono ?_
        rintro e w3 ⟨v1,v2,v3,rfl,hown,hb3⟩
        obtain⟨A1,q1,rfl⟩:=ownN_form hown.r1
        obtain⟨A2,q2,rfl⟩:=ownN_form hown.r2
        obtain⟨A3,q3,rfl⟩:=ownN_form hown.r3
        obtain⟨n,hn⟩: ∃n,n=bnG R t y:=⟨_,rfl⟩
        have hd2:D=bat R t (m+1) y kk:=by rw [←hm];exact hd.out
        rw [←hn] at hown
        rw [←hn]
        obtain⟨W3,hW3⟩: ∃W,W=w3.alloc (Obj.cells #[.slice A1 n.keys.length q1, .slice A2 n.vals.length q2, .slice A3 n.kids.length q3, .int .u64 (n.size:Nat)] 48):=⟨_,rfl⟩
        obtain⟨b12,hb12⟩: ∃b,b=w3.heap.size:=⟨_,rfl⟩
        have hb33:Below w3.heap.size w3 W3:=by rw [hW3];exact(Below.refl _ _).alloc (Nat.le_refl _) _
        have x12:Box W3 b12 48 [.slice A1 n.keys.length q1, .slice A2 n.vals.length q2, .slice A3 n.kids.length q3, .int .u64 (n.size:Nat)]:=by rw [hW3,hb12];exact Box.new w3 _ _
        have hbr3:Below wr.heap.size wr W3:=hb3.trans (hb33.mono hb3.size)
        have hn128:=Lib.hid (show b12≠b8 by have:=y8.out.lt;have:=hb3.size;omega)
        have hb8o:=Lib.hid y8.out.lt
        have z11:=Lib.hid (y11.out.below hbr3)
        have z8H:=Lib.hid (y8.out.below hbr3)
        have hbw3:=Lib.hid (hbw.out.trans (hbr3.mono hbw.out.size))
        have hb03:=Lib.hid (hb.out.trans (hbr3.mono hb.out.size))
        have hW3H:=Lib.hid (And.intro hW3 hb12)
        have hnH:=Lib.hid hn
        have x12H:=Lib.hid x12
        have hownH:=Lib.hid (hown.below hb33)
        have hd2H:=Lib.hid hd2
        have hmH:=Lib.hid hm
        clear e110 e111 hGt hb3 hown hn hW3 hb12 hb33 hbr3 x12 hd2 hd hb y8 y11 hbw hm
        obtain⟨wo,rfl⟩: ∃wo,wo=wr:=⟨_,rfl⟩
        by_cases he:bnE R t y=0
        · rw [decide_eq_true he]
          have hw:=bnG_words (hH.out.below hbw3.out) htH.out he
          rw [←hnH.out] at hw
          obtain⟨hfit,wk,wv,wc,hsz⟩:=hw
          have t2:=htH.out.2
          obtain⟨g1,g2,g3'⟩:=hfit
          have l1:n.keys.length≤31:=by omega
          have hkids:Hid (n.kids= []∨n.kids.length=n.keys.length+1):=Lib.hid (g3'.imp id And.left)
          have l3:n.kids.length≤32:=by rcases g3' with h9|h9
                                       · rw [h9];simp
                                       · omega
          have hvl:=Lib.hid g2
          have wcH:=Lib.hid wc
          obtain⟨P,hP⟩: ∃P,P=atScan R t n.kids n.keys.length 0 kk:=⟨_,rfl⟩
          have hDP:Hid (D=bat.atGo n P (bat R t m)):=Lib.hid (by
           rw [hd2H.out,hP,hnH.out]
           conv=>lhs;unfold bat
           rw [if_neg (fun h=>h he)])
          have hPH:=Lib.hid hP
          clear hP he g2 g3' wk wv wc hsz hd2H
          go_upto_region 11 with (fail)
          rw [←hW3H.out.1,←hW3H.out.2]
          by_cases hkd:n.kids= []
          · skip
            have hkz:n.kids.length=0:=by rw [hkd];rfl
            have hbel:Hid (∀j,atBelow R t n.kids j=0):=Lib.hid (fun j=>by unfold atBelow;rw [if_pos hkd])
            have hkdH:=Lib.hid hkd
            clear hkd
            go_wp2
            go_loopw [3,14] (fun kv jv wr=> ∃(j:Nat) (k2:Int),j≤n.keys.length∧kv= .int .i64 k2∧jv= .int .i64 (j:Nat)∧Hid (P=atScan R t n.kids (n.keys.length-j) j k2)∧Hid (Below W3.heap.size W3 wr)) (fun _ jv _=>n.keys.length-(intOf jv).toNat)
            case atStart=>exact⟨0,kk,Nat.zero_le _,rfl,rfl,hPH,Lib.hid (Below.refl _ _)⟩
            case round=>
             obtain⟨j,k2,hj,rfl,rfl,hp,hb5⟩:=hrel
             have u12:=Lib.hid (x12H.out.below hb5.out)
             have hbw5:=Lib.hid (hbw3.out.trans (hb5.out.mono hbw3.out.size))
             have hb05:=Lib.hid (hb03.out.trans (hb5.out.mono hb03.out.size))
             have f0:=u12.out.at' (i:=0) rfl
             have f2:=u12.out.at' (i:=2) rfl
             by_cases hlj:j<n.keys.length
             · have dj:decide ((j:Int)<(n.keys.length:Int))=true:=decide_eq_true (by omega)
               obtain⟨m2,hm2⟩: ∃m2,n.keys.length-j=m2+1:=⟨n.keys.length-j-1,by omega⟩
               have hp2:P=if k2≤atBelow R t n.kids j then (j,k2,decide (k2=atBelow R t n.kids j)) else atScan R t n.kids m2 (j+1) (wrap64 (k2-wrap64 (atBelow R t n.kids j+1))):=by
                rw [hp.out,hm2];rfl
               rw [hbel.out] at hp2
               have hp2H:=Lib.hid hp2
               have hm2H:=Lib.hid hm2
               clear hp2 hm2 hp
               by_cases hle:k2≤0
               · have dle:decide (k2≤0)=true:=decide_eq_true hle
                 by_cases heq:k2=0
                 · have deq:(k2==0)=true:=by rw [heq];exact beq_self_eq_true _
                   have hvk:j<n.vals.length:=by rw [hvl.out];exact hlj
                   have hPe:P=(j,k2,true):=by rw [hp2H.out,if_pos hle,decide_eq_true heq]
                   have hDe:D=some (n.keys[j],n.vals[j]):=by
                    rw [hDP.out,hPe]
                    unfold bat.atGo
                    rw [cond_true]
                    simp [hlj,hvk]
                   obtain⟨D1,d1,e1,hD1⟩:=row_cellsF (F:=fun b=>b<wo.heap.size) hownH.out.r1 (fun _ h=>h)
                   obtain⟨D2,d2,e2,hD2⟩:=row_cellsF (F:=fun b=>b<wo.heap.size) hownH.out.r2 (fun _ h=>h)
                   cases e1
                   cases e2
                   obtain⟨b7,o7,rfl,hbl7,hf7,hcell7⟩:=hD1.num2 hlj
                   obtain⟨b9,o9,rfl,hbl9,hf9,hcell9⟩:=hD2.num2 hvk
                   have hlo:=hb8o.out
                   have hq7:=Lib.hid (show¬(b7=b8) by omega)
                   have hq9:=Lib.hid (show¬(b9=b8) by omega)
                   have hc7:=hcell7 wr hb5.out
                   have hc9:=hcell9 wr hb5.out
                   obtain⟨ya,hya⟩: ∃y,n.keys[j]=y:=⟨_,rfl⟩
                   obtain⟨yv,hyv⟩: ∃y,n.vals[j]=y:=⟨_,rfl⟩
                   rw [hya] at hc7 hDe
                   rw [hyv] at hc9 hDe
                   have v12:=Lib.hid (x12H.out.below hb5.out)
                   have v8:=Lib.hid (z8H.out.below hb5.out)
                   have hbw6:=Lib.hid (hbw3.out.trans (hb5.out.mono hbw3.out.size))
                   have hddH:=Lib.hid (hDH.out.symm.trans hDe)
                   clear hya hyv hcell7 hcell9 hf7 hf9 hlo hD1 hD2 hDe hPe heq hle
                   have x1:=fun X:Exw (fun b=>b=b8) wr=>X.cell (v12.out.at' (i:=0) rfl) hn128.out
                   have x2:=fun X:Exw (fun b=>b=b8) wr=>X.cell (v12.out.at' (i:=1) rfl) hn128.out
                   have x3:=fun X:Exw (fun b=>b=b8) wr=>X.cell hc7 hq7.out
                   have x4:=fun X:Exw (fun b=>b=b8) wr=>X.cell hc9 hq9.out
                   go_wp2
                   refine wp_region_steps (fun w' => ∃X:Exw (fun b=>b=b8) wr,w' =X.W) [.r 0, .r 1, .r 2, .r 3, .r 4, .r 5, .r 6, .r 7, .r 8, .r 9, .r 10, .a 11, .r 12] hmo (by kernel_rfl) rfl (by kernel_rfl) (exw_start _ _) (fun _ _ d _ _ h=>by cases d<;>exact h) ?_
                   iterate 11 (refine wpSteps_r _ _ rfl rfl (by rintro _ ⟨X,rfl⟩;go_simp;exact rfl) ?_;go_simp)
                   clear x1 x2 x3 x4
                   have e80:=v8.out.at' (i:=0) rfl
                   have e81:=v8.out.at' (i:=1) rfl
                   have k80:=v8.out.free 0
                   have k81:=v8.out.free 1
                   refine wpSteps_a _ rfl (fun K2 hK2=> ?_)
                   go_wp2
                   refine hK2 _ _ (exw_then (exw_set (B:=fun b=>b=b8) (p:=⟨b8,1,none⟩) (exw_set (B:=fun b=>b=b8) (p:=⟨b8,0,none⟩) (exw_below (Below.refl _ _)) rfl _) rfl _) (below_drawn _)) ?_
                   clear hK2 K2
                   refine wpSteps_r _ _ rfl rfl (by rintro _ ⟨X,rfl⟩;go_simp;exact rfl) ?_
                   go_simp
                   refine wpSteps_nil ?_
                   have hf:=Lib.hid (hfin.out (some (ya,yv)) _ hddH.out (((hbw6.out.setCell (p:=⟨b8,0,none⟩) g8 (.int .u64 (ya:Nat))).setCell (p:=⟨b8,1,none⟩) g8 (.int .u64 (yv:Nat))).drew))
                   have hq:=Lib.hid (box_drew ((v8.out.set 0 (.int .u64 (ya:Nat))).set 1 (.int .u64 (yv:Nat))))
                   go_wp2
                   have r0:=hq.out.at' (i:=0) rfl
                   have r1:=hq.out.at' (i:=1) rfl
                   refine bodyPost_ret (v:= .tuple #[.agg #[.int .u64 (ya:Nat), .int .u64 (yv:Nat)], .int .i64 0]) ?_ ?_ hf.out
                   · simp [results,Tryz.f8,go_sem,r0,r1]
                   · rfl
                 · have deq:(k2==0)=false:=by simpa using heq
                   have hPe:Hid (P=(j,k2,false)):=Lib.hid (by rw [hp2H.out,if_pos hle,decide_eq_false heq])
                   clear heq hle
                   have hDn:batR R t x k=none:=by
                    rw [←hDH.out,hDP.out,hPe.out]
                    unfold bat.atGo
                    rw [cond_false,if_pos hkdH.out]
                   have hbw6:=Lib.hid (hbw3.out.trans (hb5.out.mono hbw3.out.size))
                   have z8:=(z8H.out.below hb5.out)
                   have e80:=z8.at' (i:=0) rfl
                   have e81:=z8.at' (i:=1) rfl
                   have k80:=z8.free 0
                   have k81:=z8.free 1
                   have hf:=Lib.hid (hfin.out none _ hDn ((hbw6.out.setCell (p:=⟨b8,0,none⟩) g8 (.int .u64 0)).setCell (p:=⟨b8,1,none⟩) g8 (.int .u64 0)))
                   have hq:=Lib.hid ((z8.set 0 (.int .u64 0)).set 1 (.int .u64 0))
                   clear z8
                   clear hDn
                   go_wp2
                   have r0:=hq.out.at' (i:=0) rfl
                   have r1:=hq.out.at' (i:=1) rfl
                   refine bodyPost_ret (v:= .tuple #[.agg #[.int .u64 0, .int .u64 0], .int .i64 2]) (by simp [results,Tryz.f8,go_sem,r0,r1]) rfl hf.out
               · have dle:decide (k2≤0)=false:=decide_eq_false hle
                 obtain⟨z1,hz1⟩: ∃z1,z1=wrap64 (0+1):=⟨_,rfl⟩
                 obtain⟨k3,hk3⟩: ∃k3,k3=wrap64 (k2-z1):=⟨_,rfl⟩
                 have hrel:Hid (P=atScan R t n.kids (n.keys.length-(j+1)) (j+1) k3):=Lib.hid (by rw [hp2H.out,if_neg hle,←hz1,←hk3,show n.keys.length-(j+1)=m2 by have:=hm2H.out;omega])
                 have w1:wrap64 (0+1)=z1:=hz1.symm
                 have w2:wrap64 (k2-z1)=k3:=hk3.symm
                 have hz0:z1=1:=by rw [hz1];exact IntWalk.wrap64_in _ (by omega)
                 subst hz0
                 clear hz1 hk3 hle w1
                 go_wp2
                 go_roundw
                 case rel=>exact⟨j+1,k3,by omega,by first|rfl|rw [w2],by go_num,hrel,hb5⟩
                 case measure=>simp [intOf];omega
             · obtain rfl:j=n.keys.length:=by omega
               have dj:decide ((n.keys.length:Int)<(n.keys.length:Int))=false:=decide_eq_false (by omega)
               have hPe:Hid (P=(n.keys.length,k2,false)):=Lib.hid (by rw [hp.out,Nat.sub_self];rfl)
               clear hp
               have hDn:batR R t x k=none:=by
                rw [←hDH.out,hDP.out,hPe.out]
                unfold bat.atGo
                rw [cond_false,if_pos hkdH.out]
               have hbw6:=Lib.hid (hbw3.out.trans (hb5.out.mono hbw3.out.size))
               have z8:=(z8H.out.below hb5.out)
               have e80:=z8.at' (i:=0) rfl
               have e81:=z8.at' (i:=1) rfl
               have k80:=z8.free 0
               have k81:=z8.free 1
               have hf:=Lib.hid (hfin.out none _ hDn ((hbw6.out.setCell (p:=⟨b8,0,none⟩) g8 (.int .u64 0)).setCell (p:=⟨b8,1,none⟩) g8 (.int .u64 0)))
               have hq:=Lib.hid ((z8.set 0 (.int .u64 0)).set 1 (.int .u64 0))
               clear z8
               clear hDn
               go_wp2
               have r0:=hq.out.at' (i:=0) rfl
               have r1:=hq.out.at' (i:=1) rfl
               refine bodyPost_ret (v:= .tuple #[.agg #[.int .u64 0, .int .u64 0], .int .i64 2]) (by simp [results,Tryz.f8,go_sem,r0,r1]) rfl hf.out
          · skip
            have hkp:0<n.kids.length:=List.length_pos_iff.2 hkd
            have hkl:n.keys.length+1≤n.kids.length:=by rcases hkids.out with h9|h9
                                                       · exact absurd h9 hkd
                                                       · omega
            have d0:decide ((n.kids.length:Int)>0)=true:=decide_eq_true (by omega)
            have d00:((n.kids.length:Int)==0)=false:=by simp;omega
            have hbel:Hid (∀j (hj:j<n.kids.length),atBelow R t n.kids j=bszR R t n.kids[j]):=Lib.hid (fun j hj=>by unfold atBelow;rw [if_neg hkd];simp [hj])
            have hkdH:=Lib.hid hkd
            clear hkd
            go_wp2
            go_loopw [3,14] (fun kv jv wr=> ∃(j:Nat) (k2:Int),j≤n.keys.length∧kv= .int .i64 k2∧jv= .int .i64 (j:Nat)∧Hid (P=atScan R t n.kids (n.keys.length-j) j k2)∧Hid (Below W3.heap.size W3 wr)) (fun _ jv _=>n.keys.length-(intOf jv).toNat)
            case atStart=>exact⟨0,kk,Nat.zero_le _,rfl,rfl,hPH,Lib.hid (Below.refl _ _)⟩
            case round=>
             obtain⟨j,k2,hj,rfl,rfl,hp,hb5⟩:=hrel
             have u12:=Lib.hid (x12H.out.below hb5.out)
             have hbw5:=Lib.hid (hbw3.out.trans (hb5.out.mono hbw3.out.size))
             have hb05:=Lib.hid (hb03.out.trans (hb5.out.mono hb03.out.size))
             have f0:=u12.out.at' (i:=0) rfl
             have f2:=u12.out.at' (i:=2) rfl
             by_cases hlj:j<n.keys.length
             · have dj:decide ((j:Int)<(n.keys.length:Int))=true:=decide_eq_true (by omega)
               obtain⟨m2,hm2⟩: ∃m2,n.keys.length-j=m2+1:=⟨n.keys.length-j-1,by omega⟩
               have hp2:P=if k2≤atBelow R t n.kids j then (j,k2,decide (k2=atBelow R t n.kids j)) else atScan R t n.kids m2 (j+1) (wrap64 (k2-wrap64 (atBelow R t n.kids j+1))):=by
                rw [hp.out,hm2];rfl
               have hjk:j<n.kids.length:=by omega
               rw [hbel.out j hjk] at hp2
               obtain⟨D3,d3,e3,hD3⟩:=row_cellsF (F:=fun b=>b<wo.heap.size) hownH.out.r3 (fun _ h=>h)
               cases e3
               obtain⟨b5,o5,hA3,hbl5,hf5,hcell⟩:=hD3.num2 hjk
               have hcq:=hcell wr hb5.out
               have hSz:=fun W (hb:Below wr.heap.size wr W)=>btSize_at (hH.out.below (hbw5.out.trans (hb.mono hbw5.out.size))) t htH.out n.kids[j] (wcH.out j hjk)
               obtain⟨yk,hyk⟩: ∃yk,n.kids[j]=yk:=⟨_,rfl⟩
               rw [hyk] at hcq hSz hp2
               generalize bszR R t yk=zz at*
               have hSzH:=Lib.hid hSz
               have u11:=Lib.hid (z11.out.below hb5.out)
               have x1:=fun X:Exw (fun _=>False) wr=>X.cell (u12.out.at' (i:=2) rfl) (fun h=>h)
               have x2:=fun X:Exw (fun _=>False) wr=>X.cell hcq (fun h=>h)
               have x3:=fun X:Exw (fun _=>False) wr=>X.cell (u11.out.at' (i:=0) rfl) (fun h=>h)
               have x4:=fun X:Exw (fun _=>False) wr=>X.cell (u11.out.at' (i:=1) rfl) (fun h=>h)
               have hp2H:=Lib.hid hp2
               have hm2H:=Lib.hid hm2
               rw [hA3] at f2 x1
               subst hA3
               clear hSz hyk hcell hf5 hD3 hp2 hm2 hp
               go_wp2
               refine wp_region_steps (fun w' => ∃X:Exw (fun _=>False) wr,w' =X.W) [.r 0, .r 1, .r 2, .r 3, .r 4, .r 5, .a 6, .r 7] hmo (by kernel_rfl) rfl (by kernel_rfl) (exw_start _ _) (fun _ _ d _ _ h=>by cases d<;>exact h) ?_
               iterate 6 (refine wpSteps_r _ _ rfl rfl (by rintro _ ⟨X,rfl⟩;go_simp;exact rfl) ?_;go_simp)
               clear x1 x2 x3 x4
               refine wpSteps_a _ rfl (fun K1 hK1=> ?_)
               go_wp2_with fail
               refine(hSzH.out _ (below_drawn wr)).mono ?_
               rintro e w5 ⟨rfl,hbz⟩
               have hbz5:=Lib.hid ((below_drawn wr).trans hbz)
               have hb6:=Lib.hid (hb5.out.trans (hbz5.out.mono hb5.out.size))
               clear hbz
               go_wp2
               refine hK1 _ _ (exw_below hbz5.out) ?_
               clear hK1 K1
               refine wpSteps_r _ _ rfl rfl (by rintro _ ⟨X,rfl⟩;go_simp;exact rfl) ?_
               go_simp
               refine wpSteps_nil ?_
               by_cases hle:k2≤zz
               · have dle:decide (k2≤zz)=true:=decide_eq_true hle
                 by_cases heq:k2=zz
                 · have deq:(k2==zz)=true:=by rw [heq];exact beq_self_eq_true _
                   have hvk:j<n.vals.length:=by rw [hvl.out];exact hlj
                   have hPe:P=(j,k2,true):=by rw [hp2H.out,if_pos hle,decide_eq_true heq]
                   have hDe:D=some (n.keys[j],n.vals[j]):=by
                    rw [hDP.out,hPe]
                    unfold bat.atGo
                    rw [cond_true]
                    simp [hlj,hvk]
                   obtain⟨D1,d1,e1,hD1⟩:=row_cellsF (F:=fun b=>b<wo.heap.size) hownH.out.r1 (fun _ h=>h)
                   obtain⟨D2,d2,e2,hD2⟩:=row_cellsF (F:=fun b=>b<wo.heap.size) hownH.out.r2 (fun _ h=>h)
                   cases e1
                   cases e2
                   obtain⟨b7,o7,rfl,hbl7,hf7,hcell7⟩:=hD1.num2 hlj
                   obtain⟨b9,o9,rfl,hbl9,hf9,hcell9⟩:=hD2.num2 hvk
                   have hlo:=hb8o.out
                   have hq7:=Lib.hid (show¬(b7=b8) by omega)
                   have hq9:=Lib.hid (show¬(b9=b8) by omega)
                   have hc7:=hcell7 w5 hb6.out
                   have hc9:=hcell9 w5 hb6.out
                   obtain⟨ya,hya⟩: ∃y,n.keys[j]=y:=⟨_,rfl⟩
                   obtain⟨yv,hyv⟩: ∃y,n.vals[j]=y:=⟨_,rfl⟩
                   rw [hya] at hc7 hDe
                   rw [hyv] at hc9 hDe
                   have v12:=Lib.hid (x12H.out.below hb6.out)
                   have v8:=Lib.hid (z8H.out.below hb6.out)
                   have hbw6:=Lib.hid (hbw3.out.trans (hb6.out.mono hbw3.out.size))
                   have hddH:=Lib.hid (hDH.out.symm.trans hDe)
                   clear hya hyv hcell7 hcell9 hf7 hf9 hlo hD1 hD2 hDe hPe heq hle
                   have x1:=fun X:Exw (fun b=>b=b8) w5=>X.cell (v12.out.at' (i:=0) rfl) hn128.out
                   have x2:=fun X:Exw (fun b=>b=b8) w5=>X.cell (v12.out.at' (i:=1) rfl) hn128.out
                   have x3:=fun X:Exw (fun b=>b=b8) w5=>X.cell hc7 hq7.out
                   have x4:=fun X:Exw (fun b=>b=b8) w5=>X.cell hc9 hq9.out
                   go_wp2
                   refine wp_region_steps (fun w' => ∃X:Exw (fun b=>b=b8) w5,w' =X.W) [.r 0, .r 1, .r 2, .r 3, .r 4, .r 5, .r 6, .r 7, .r 8, .r 9, .r 10, .a 11, .r 12] hmo (by kernel_rfl) rfl (by kernel_rfl) (exw_start _ _) (fun _ _ d _ _ h=>by cases d<;>exact h) ?_
                   iterate 11 (refine wpSteps_r _ _ rfl rfl (by rintro _ ⟨X,rfl⟩;go_simp;exact rfl) ?_;go_simp)
                   clear x1 x2 x3 x4
                   have e80:=v8.out.at' (i:=0) rfl
                   have e81:=v8.out.at' (i:=1) rfl
                   have k80:=v8.out.free 0
                   have k81:=v8.out.free 1
                   refine wpSteps_a _ rfl (fun K2 hK2=> ?_)
                   go_wp2
                   refine hK2 _ _ (exw_then (exw_set (B:=fun b=>b=b8) (p:=⟨b8,1,none⟩) (exw_set (B:=fun b=>b=b8) (p:=⟨b8,0,none⟩) (exw_below (Below.refl _ _)) rfl _) rfl _) (below_drawn _)) ?_
                   clear hK2 K2
                   refine wpSteps_r _ _ rfl rfl (by rintro _ ⟨X,rfl⟩;go_simp;exact rfl) ?_
                   go_simp
                   refine wpSteps_nil ?_
                   have hf:=Lib.hid (hfin.out (some (ya,yv)) _ hddH.out (((hbw6.out.setCell (p:=⟨b8,0,none⟩) g8 (.int .u64 (ya:Nat))).setCell (p:=⟨b8,1,none⟩) g8 (.int .u64 (yv:Nat))).drew))
                   have hq:=Lib.hid (box_drew ((v8.out.set 0 (.int .u64 (ya:Nat))).set 1 (.int .u64 (yv:Nat))))
                   go_wp2
                   have r0:=hq.out.at' (i:=0) rfl
                   have r1:=hq.out.at' (i:=1) rfl
                   refine bodyPost_ret (v:= .tuple #[.agg #[.int .u64 (ya:Nat), .int .u64 (yv:Nat)], .int .i64 0]) ?_ ?_ hf.out
                   · simp [results,Tryz.f8,go_sem,r0,r1]
                   · rfl
                 · have deq:(k2==zz)=false:=by simpa using heq
                   have hPe:Hid (P=(j,k2,false)):=Lib.hid (by rw [hp2H.out,if_pos hle,decide_eq_false heq])
                   clear heq hle
                   have hjk9:j<n.kids.length:=by omega
                   have hDn:D=bat R t m n.kids[j] k2:=by
                    rw [hDP.out,hPe.out]
                    unfold bat.atGo
                    rw [cond_false,if_neg hkdH.out]
                    simp [hjk9]
                   obtain⟨D3,d3,e3,hD3⟩:=row_cellsF (F:=fun b=>b<wo.heap.size) hownH.out.r3 (fun _ h=>h)
                   cases e3
                   obtain⟨b6,o6,hA3,hbl5,hf5,hcell⟩:=hD3.num2 hjk9
                   cases hA3
                   have hcq9:=hcell w5 hb6.out
                   have f2:=(x12H.out.below hb6.out).at' (i:=2) rfl
                   have hcx:=wcH.out j hjk9
                   obtain⟨y9,hy9⟩: ∃yk,n.kids[j]=yk:=⟨_,rfl⟩
                   rw [hy9] at hcq9 hcx hDn
                   have hrel:Hid (D=bat R t (40-(i+1)) y9 k2):=Lib.hid (by rw [hDn,show 40-(i+1)=m by have:=hmH.out;omega])
                   have hb06:=Lib.hid (hb03.out.trans (hb6.out.mono hb03.out.size))
                   clear hDn hy9 hcell hf5 hD3
                   go_wp2
                   go_roundw
                   case rel=>exact⟨i+1,y9,k2,by omega,hcx,rfl,rfl,by go_num,hrel,hb06⟩
                   case measure=>simp [intOf];omega
               · have dle:decide (k2≤zz)=false:=decide_eq_false hle
                 obtain⟨z1,hz1⟩: ∃z1,z1=wrap64 (zz+1):=⟨_,rfl⟩
                 obtain⟨k3,hk3⟩: ∃k3,k3=wrap64 (k2-z1):=⟨_,rfl⟩
                 have hrel:Hid (P=atScan R t n.kids (n.keys.length-(j+1)) (j+1) k3):=Lib.hid (by rw [hp2H.out,if_neg hle,←hz1,←hk3,show n.keys.length-(j+1)=m2 by have:=hm2H.out;omega])
                 have w1:wrap64 (zz+1)=z1:=hz1.symm
                 have w2:wrap64 (k2-z1)=k3:=hk3.symm
                 clear hz1 hk3 hle
                 go_wp2
                 go_roundw
                 case rel=>exact⟨j+1,k3,by omega,by first|rfl|rw [w2],by go_num,hrel,hb6⟩
                 case measure=>simp [intOf];omega
             · obtain rfl:j=n.keys.length:=by omega
               have dj:decide ((n.keys.length:Int)<(n.keys.length:Int))=false:=decide_eq_false (by omega)
               have hPe:Hid (P=(n.keys.length,k2,false)):=Lib.hid (by rw [hp.out,Nat.sub_self];rfl)
               clear hp
               have hjk9:n.keys.length<n.kids.length:=by omega
               have hDn:D=bat R t m n.kids[n.keys.length] k2:=by
                rw [hDP.out,hPe.out]
                unfold bat.atGo
                rw [cond_false,if_neg hkdH.out]
                simp [hjk9]
               obtain⟨D3,d3,e3,hD3⟩:=row_cellsF (F:=fun b=>b<wo.heap.size) hownH.out.r3 (fun _ h=>h)
               cases e3
               obtain⟨b5,o5,hA3,hbl5,hf5,hcell⟩:=hD3.num2 hjk9
               have hcq9:=hcell wr hb5.out
               rw [hA3] at f2
               subst hA3
               have hcx:=wcH.out n.keys.length hjk9
               obtain⟨y9,hy9⟩: ∃yk,n.kids[n.keys.length]=yk:=⟨_,rfl⟩
               rw [hy9] at hcq9 hcx hDn
               have hrel:Hid (D=bat R t (40-(i+1)) y9 k2):=Lib.hid (by rw [hDn,show 40-(i+1)=m by have:=hmH.out;omega])
               have hb06:=Lib.hid (hb03.out.trans (hb5.out.mono hb03.out.size))
               clear hDn hy9 hcell hf5 hD3
               go_wp2
               go_roundw
               case rel=>exact⟨i+1,y9,k2,by omega,hcx,rfl,rfl,by go_num,hrel,hb06⟩
               case measure=>simp [intOf];omega
        · rw [decide_eq_false he]
          have hDn:batR R t x k=none:=by rw [←hDH.out,hd2H.out];unfold bat;exact if_pos he
          clear he
          have z8:=z8H.out
          have e80:=z8.at' (i:=0) rfl
          have e81:=z8.at' (i:=1) rfl
          have k80:=z8.free 0
          have k81:=z8.free 1
          have hf:=Lib.hid (hfin.out none _ hDn ((hbw3.out.setCell (p:=⟨b8,0,none⟩) g8 (.int .u64 0)).setCell (p:=⟨b8,1,none⟩) g8 (.int .u64 0)))
          have hq:=Lib.hid ((z8.set 0 (.int .u64 0)).set 1 (.int .u64 0))
          clear z8
          clear hDn
          rw [hW3H.out.1] at e80 e81 k80 k81
          go_wp2
          rw [←hW3H.out.1]
          have r0:=hq.out.at' (i:=0) rfl
          have r1:=hq.out.at' (i:=1) rfl
          refine bodyPost_ret (v:= .tuple #[.agg #[.int .u64 0, .int .u64 0], .int .i64 2]) (by simp [results,Tryz.f8,go_sem,r0,r1]) rfl hf.out
      · obtain rfl:i=40:=by omega
        have hDn:batR R t x k=none:=by rw [←hDH.out,hd.out];rfl
        have z8:=(x8H.out.below hb.out)
        have e80:=z8.at' (i:=0) rfl
        have e81:=z8.at' (i:=1) rfl
        have k80:=z8.free 0
        have k81:=z8.free 1
        have hf:=Lib.hid (hfin.out none _ hDn ((hbw.out.setCell (p:=⟨b8,0,none⟩) g8 (.int .u64 0)).setCell (p:=⟨b8,1,none⟩) g8 (.int .u64 0)))
        have hq:=Lib.hid ((z8.set 0 (.int .u64 0)).set 1 (.int .u64 0))
        clear z8
        clear hDn hd
        go_wp2
        have r0:=hq.out.at' (i:=0) rfl
        have r1:=hq.out.at' (i:=1) rfl
        refine bodyPost_ret (v:= .tuple #[.agg #[.int .u64 0, .int .u64 0], .int .i64 2]) (by simp [results,Tryz.f8,go_sem,r0,r1]) rfl hf.out
end
theorem tails_all: ∀{p:List Bool},p.all id=true→tails p=p.length
 | [],_=>rfl
 |b::p,h=>by
  simp only [List.all_cons,id,Bool.and_eq_true] at h
  unfold tails
  rw [if_pos h.2,if_pos h.1]
  rfl
theorem tails_cons(b:Bool)(p:List Bool):tails p≤tails (b::p):=by
 conv=>rhs;unfold tails
 split
 · next h=>rw [tails_all h];omega
 · exact Nat.le_refl _
namespace Bt
structure InsRes(R R' :Nat→Option (List Nat))(t a lo:Nat)(s:Sb)(it:It)(used:List Nat)(up:Option (Nat × Nat × Nat))(full:Bool):Prop where
 frame: ∀z,z∉s.ns→z∉used→R' z=R z
 recs: ∀z,Rec R t z→Rec R' t z
 stays:up=none→full=false∧ ∃ns',At R' t a lo ⟨s.h,putI s.its it,ns'⟩∧ ∀x,ns'.count x=s.ns.count x+used.count x
 split: ∀mk mv r,up=some (mk,mv,r)→full=true∧ ∃(L Q:Sb) (m:It),mk=m.kh∧mv=m.vh∧L.h=s.h∧Q.h=r∧At R' t a (t-1) L∧At R' t a (t-1) Q∧putI s.its it=L.its++m::Q.its∧ ∀x,L.ns.count x+Q.ns.count x=s.ns.count x+used.count x
section
variable {R R1:Nat→Option (List Nat)} {t a lo:Nat}
theorem leaf_step(ht:BN.Deg t){s:Sb}{it:It}{st:List Nat}(h:At R t 0 lo s)(hp:(putI s.its it).length=s.its.length+1)(hm:((leafOf s.its).insKV (rankL (prs s.its) it.k) it.kh it.vh).more=leafOf (putI s.its it))(hl:1≤lo∨True)
 (hst: ∀x∈st,x≠0∧x∉s.ns∧Rec R t x) (hfull:s.its.length=2*t-1→1≤st.length):
 ∃R' used st' up,bsplit R t s.h st (leafOf (putI s.its it))=(R',st',up)∧st=used++st' ∧used.length=(if 2*t-1≤s.its.length then 1 else 0)∧InsRes R R' t 0 lo s it used up (decide (2*t-1≤s.its.length)):=by
 obtain⟨t1,t2⟩:=ht
 obtain⟨h1,h2,h3⟩:=h
 have hk1:s.its.length≤2*t-1:=by have:=h3.2.1;simpa [leafOf] using this
 have hrec:Rec R t s.h:=⟨_,h3.1,BN.wd_len _ _⟩
 have hlen:(leafOf (putI s.its it)).keys.length=s.its.length+1:=by simp [leafOf,hp]
 by_cases hf:2*t-1≤s.its.length
 · have he:s.its.length=2*t-1:=by omega
   obtain⟨x,st',rfl⟩: ∃x st',st=x::st' :=by
    cases st with
    |nil=>exact absurd (hfull he) (by simp)
    |cons x st' =>exact⟨x,st',rfl⟩
   obtain⟨hx0,hxn,hxr⟩:=hst x (by simp)
   have hxh:x≠s.h:=fun e=>hxn (by rw [h1,e];simp)
   obtain⟨A,m,B,hAB,hA,hB⟩: ∃A m B,putI s.its it=A++m::B∧A.length=t∧B.length=t-1:=by
    have hlt:t<(putI s.its it).length:=by omega
    refine⟨(putI s.its it).take t,(putI s.its it)[t],(putI s.its it).drop (t+1), ?_,by rw [List.length_take];omega,by rw [List.length_drop];omega⟩
    have:=List.take_append_drop t (putI s.its it)
    rw [List.drop_eq_getElem_cons hlt] at this
    exact this.symm
   obtain⟨g1,g2,g3,g4⟩:=leaf_halves (R:=R) (t:=t) (m:=m) (B:=B) hA (by omega)
   rw [hAB] at hlen ⊢
   have hsp:=bsplit_great (st:=st') hrec hxr (n:=leafOf (A++m::B)) (by omega) (left:=leafOf A) (right:=leafOf B) (by rw [g1];exact g2) g1 (leaf_fits (by omega)) (leaf_fits (by omega))
   rw [g3,g4] at hsp
   have fA:(leafOf A).Fits t:=leaf_fits (by omega)
   have fB:(leafOf B).Fits t:=leaf_fits (by omega)
   have lA:t-1≤A.length:=by omega
   have lB:t-1≤B.length:=by omega
   refine⟨_,[x],st',_,hsp,rfl,by rw [if_pos hf];rfl,⟨fun z hz hz2=> ?_,fun z hz=>upd_rec (upd_rec hz),(fun e=>by cases e),fun mk mv r e=> ?_⟩⟩
   · rw [updR_other (fun e=>hz2 (by rw [e];simp)),updR_other (fun e=>hz (by rw [h1,e];simp))]
   · simp only [Option.some.injEq,Prod.mk.injEq] at e
     obtain⟨rfl,rfl,rfl⟩:=e
     refine⟨decide_eq_true hf,⟨s.h,A,[s.h]⟩,⟨x,B,[x]⟩,m,rfl,rfl,rfl,rfl,⟨rfl,lA,(updR_other (Ne.symm hxh)).trans (updR_same _ _ _),fA⟩,⟨rfl,lB,updR_same _ _ _,fB⟩,hAB,fun y=>by rw [h1]⟩
 · have fN:(leafOf (putI s.its it)).Fits t:=leaf_fits (by omega)
   have lN:lo≤(putI s.its it).length:=by omega
   have hsp:=bsplit_small (st:=st) hrec (n:=leafOf (putI s.its it)) fN (by omega)
   refine⟨_,[],st,_,hsp,rfl,by rw [if_neg hf];rfl,⟨fun z hz hz2=> ?_,fun z hz=>upd_rec hz,fun _=>⟨decide_eq_false hf,[s.h],⟨rfl,lN,updR_same _ _ _,fN⟩,fun y=>by rw [h1];simp⟩,fun mk mv r e=>by cases e⟩⟩
   rw [updR_other (fun e=>hz (by rw [h1,e];simp))]
end
end Bt
namespace Bt
section
variable {R R1:Nat→Option (List Nat)} {t a lo:Nat}
theorem upd_at{s:Sb}{x:Nat}{n:BN}(h:At R t a lo s)(hx:x∉s.ns):At (updR R x (some (n.wd t))) t a lo s:=h.congr fun z hz=>updR_other fun e=>hx (by rw [←e];exact hz)
theorem At.sizeOf(ht:BN.Deg t){s:Sb}(h:At R t a lo s):(bnG R t s.h).size=s.its.length:=(h.get ht).2
theorem inner_small(ht:BN.Deg t){h:Nat}{c:Sb}{l:List Lk}{st:List Nat}(hrec:Rec R1 t h)(h1:l.length≤2*t-1)(h0:0∉(c.h::l.map (·.2.h)))(hc:At R1 t a (t-1) c)(hl: ∀p∈l,At R1 t a (t-1) p.2)(hn:h∉nsOf c l)(hlo:lo≤l.length):
 bsplit R1 t h st (nodeOf c l)=(updR R1 h (some ((nodeOf c l).wd t)),st,none)∧At (updR R1 h (some ((nodeOf c l).wd t))) t (a+1) lo ⟨h,itsOf c l,h::nsOf c l⟩:=by
 have hf:=node_fits h1 h0
 have hk:=(node_keys c l).1
 have t1:=ht.1
 refine⟨bsplit_small hrec hf (by omega),c,l,rfl,rfl,hlo,⟨updR_same _ _ _,hf⟩,upd_at hc fun hz=>hn (List.mem_append.2 (.inl hz)),fun p hp=>upd_at (hl p hp) fun hz=>hn (mem_ns hp hz)⟩
theorem inner_great(ht:BN.Deg t){h x:Nat}{c:Sb}{l:List Lk}{st:List Nat}(hrec:Rec R1 t h)(xrec:Rec R1 t x)(h1:l.length=2*t)(h0:0∉(c.h::l.map (·.2.h)))(hc:At R1 t a (t-1) c)(hl: ∀p∈l,At R1 t a (t-1) p.2)(hn:h∉nsOf c l)(hx:x∉nsOf c l)(hxh:x≠h)(hb:(itsOf c l).length<18446744073709551616):
 ∃(A:List Lk) (m:It) (d:Sb) (B:List Lk),l=A++(m,d)::B∧
  bsplit R1 t h (x::st) (nodeOf c l)=(updR (updR R1 h (some ((nodeOf c A).wd t))) x (some ((nodeOf d B).wd t)),st,some (m.kh,m.vh,x))∧
  At (updR (updR R1 h (some ((nodeOf c A).wd t))) x (some ((nodeOf d B).wd t))) t (a+1) (t-1) ⟨h,itsOf c A,h::nsOf c A⟩∧At (updR (updR R1 h (some ((nodeOf c A).wd t))) x (some ((nodeOf d B).wd t))) t (a+1) (t-1) ⟨x,itsOf d B,x::nsOf d B⟩:=by
 have t1:=ht.1
 obtain⟨A,m,d,B,rfl,hA,hB,-,-⟩:=halves (l:=l) (t:=t) (by omega)
 have hBl:B.length=t-1:=by rw [hB,h1];omega
 have hd:At R1 t a (t-1) d:=hl (m,d) (by simp)
 obtain⟨g1,g2,g3,g4⟩:=halves_nodes (R:=R1) (t:=t) (c:=c) (m:=m) (d:=d) (B:=B) hA (hd.sizeOf ht) (fun p hp=>(hl p (by simp [hp])).sizeOf ht) hb
 rw [halves_ns] at hn hx
 rw [List.mem_append,not_or] at hn hx
 have f1:(nodeOf c A).Fits t:=node_fits (by omega) fun h=>h0 (by
  rcases List.mem_cons.1 h with h|h
  · rw [h];simp
  · simp only [List.map_append,List.mem_cons,List.mem_append];exact .inr (.inl h))
 have f2:(nodeOf d B).Fits t:=node_fits (by omega) fun h=>h0 (by
  simp only [List.map_append,List.map_cons,List.mem_cons,List.mem_append]
  rcases List.mem_cons.1 h with h|h
  · exact .inr (.inr (.inl h))
  · exact .inr (.inr (.inr h)))
 have hsp:=bsplit_great (st:=st) hrec xrec (n:=nodeOf c (A++(m,d)::B)) (by rw [(node_keys c _).1];omega) (left:=nodeOf c A) (right:=nodeOf d B) (by rw [g1];exact g2) g1 f1 f2
 rw [g3,g4] at hsp
 refine⟨A,m,d,B,rfl,hsp,⟨c,A,rfl,rfl,by omega,⟨(updR_other (Ne.symm hxh)).trans (updR_same _ _ _),f1⟩, ?_,fun p hp=> ?_⟩,⟨d,B,rfl,rfl,by omega,⟨updR_same _ _ _,f2⟩, ?_,fun p hp=> ?_⟩⟩
 · exact upd_at (upd_at hc fun hz=>hn.1 (List.mem_append.2 (.inl hz))) fun hz=>hx.1 (List.mem_append.2 (.inl hz))
 · exact upd_at (upd_at (hl p (by simp [hp])) fun hz=>hn.1 (mem_ns hp hz)) fun hz=>hx.1 (mem_ns hp hz)
 · exact upd_at (upd_at hd fun hz=>hn.2 (List.mem_append.2 (.inl hz))) fun hz=>hx.2 (List.mem_append.2 (.inl hz))
 · exact upd_at (upd_at (hl p (by simp [hp])) fun hz=>hn.2 (mem_ns hp hz)) fun hz=>hx.2 (mem_ns hp hz)
theorem bpath_node{key:ByteArray}{f x k:Nat}{n:BN}(e1:bnG R t x=n)(e2:bnE R t x=0)(hk:plK R n.keys key=k):
 bpath R t key (f+1) x=decide (2*t-1≤n.keys.length)::if n.kids= [] then [] else bpath R t key f (n.kids.getD k 0):=by
 subst e1 hk
 conv=>lhs;unfold bpath
 rw [if_neg (by rw [e2];simp)]
theorem bins_leaf{key:ByteArray}{ak av f x k:Nat}{st:List Nat}{n:BN}(e1:bnG R t x=n)(e2:bnE R t x=0)(hk:plK R n.keys key=k)(h0:n.kids= []):bins t key ak av (f+1) R st x=bsplit R t x st (n.insKV k ak av).more:=by
 subst e1 hk
 conv=>lhs;unfold bins
 rw [if_neg (by rw [e2];simp),if_pos h0]
theorem bins_stay{key:ByteArray}{ak av f x k y:Nat}{st st1:List Nat}{n:BN}(e1:bnG R t x=n)(e2:bnE R t x=0)(hk:plK R n.keys key=k)(h0:n.kids≠ [])(hy:n.kids.getD k 0=y)(hr:bins t key ak av f R st y=(R1,st1,none)):bins t key ak av (f+1) R st x=bsplit R1 t x st1 n.more:=by
 subst e1 hk hy
 conv=>lhs;unfold bins
 rw [if_neg (by rw [e2];simp),if_neg h0,hr]
theorem bins_up{key:ByteArray}{ak av f x k y p q r:Nat}{st st1:List Nat}{n:BN}(e1:bnG R t x=n)(e2:bnE R t x=0)(hk:plK R n.keys key=k)(h0:n.kids≠ [])(hy:n.kids.getD k 0=y)(hr:bins t key ak av f R st y=(R1,st1,some (p,q,r))):bins t key ak av (f+1) R st x=bsplit R1 t x st1 ((n.insKV k p q).insKid (k+1) r).more:=by
 subst e1 hk hy
 conv=>lhs;unfold bins
 rw [if_neg (by rw [e2];simp),if_neg h0,hr]
theorem mem_ins_hs{l:List Nat}{k r x:Nat}(h:x∈l.take k++r::l.drop k):x=r∨x∈l:=by
 rcases List.mem_append.1 h with h|h
 · exact .inr (List.mem_of_mem_take h)
 · rcases List.mem_cons.1 h with h|h
   · exact .inl h
   · exact .inr (List.mem_of_mem_drop h)
theorem kid_nodup: ∀{c:Sb} {l:List Lk} {k:Nat},k≤l.length→(nsOf c l).Nodup→(kid c l k).ns.Nodup
 |c,l,0,_,h=>by
  have hk:kid c l 0=c:=by cases l<;>rfl
  rw [hk]
  exact(List.nodup_append.1 h).1
 |c,[],k+1,h,_=>absurd h (by simp)
 |c,p::l,k+1,h,hn=>by
  rw [nsOf_cons] at hn
  exact kid_nodup (c:=p.2) (l:=l) (k:=k) (by simpa using h) (List.nodup_append.1 hn).2.1
theorem At.ns_rec: ∀{a lo:Nat} {s:Sb},At R t a lo s→ ∀x∈s.ns,Rec R t x
 |0,lo,s,h,x,hx=>by
  rw [h.1,List.mem_singleton] at hx
  rw [hx]
  exact⟨_,h.2.2.1,BN.wd_len _ _⟩
 |a+1,lo,s,h,x,hx=>by
  obtain⟨c,l,h1,h2,h3,h4,h5,h6⟩:=h
  rw [h2] at hx
  rcases List.mem_cons.1 hx with rfl|hx
  · exact⟨_,h4.1,BN.wd_len _ _⟩
  · rcases List.mem_append.1 hx with hx|hx
    · exact At.ns_rec h5 x hx
    · obtain⟨p,hp,hx⟩:=List.mem_flatMap.1 hx
      exact At.ns_rec (h6 p hp) x hx
theorem At.ns_zero{s:Sb}(h:At R t a lo s)(h0:R 0=none):0∉s.ns:=fun hm=>by
 obtain⟨ws,e,_⟩:=h.ns_rec 0 hm
 rw [h0] at e
 cases e
theorem ins_right(ht:BN.Deg t)(it:It): ∀(a lo f:Nat) (s:Sb) (st:List Nat) (R:Nat→Option (List Nat)),At R t a lo s→R 0=none→s.ns.Nodup→(∀i∈s.its,i.At R)→Rising (prs s.its)→findI s.its it.k=none→a<f→s.its.length+1<18446744073709551616→
 (∀x∈st,x≠0∧x∉s.ns∧Rec R t x)→st.Nodup→tails (bpath R t it.k f s.h)≤st.length→
 ∃R' used st' up,bins t it.k it.kh it.vh f R st s.h=(R',st',up)∧st=used++st' ∧used.length=tails (bpath R t it.k f s.h)∧InsRes R R' t a lo s it used up ((bpath R t it.k f s.h).all id):=by
 intro a
 induction a with
 |zero=>
  intro lo f s st R h hz0 hnd hA hr hno hf hsz hst hsn htl
  obtain⟨f,rfl⟩: ∃g,f=g+1:=⟨f-1,by omega⟩
  obtain⟨e1,e2⟩:=h.2.2.get ht
  have hpl:=place_items (key:=it.k) hA hr
  have hpath:bpath R t it.k (f+1) s.h= [decide (2*t-1≤s.its.length)]:=by
   rw [bpath_node e1 e2 hpl,if_pos (show(leafOf s.its).kids= [] from rfl)]
   simp [leafOf]
  rw [hpath] at htl ⊢
  rw [bins_leaf e1 e2 hpl rfl]
  have hlen:=putI_len s.its it
  have hm:((leafOf s.its).insKV (rankL (prs s.its) it.k) it.kh it.vh).more=leafOf (putI s.its it):=by
   refine more_eq ?_ ?_ rfl ?_ ?_
   · show(s.its.map (·.kh)).take _++it.kh::(s.its.map (·.kh)).drop _=(putI s.its it).map (·.kh)
     unfold putI
     simp only [List.map_append,List.map_cons,List.map_take,List.map_drop]
   · show(s.its.map (·.vh)).take _++it.vh::(s.its.map (·.vh)).drop _=(putI s.its it).map (·.vh)
     unfold putI
     simp only [List.map_append,List.map_cons,List.map_take,List.map_drop]
   · exact hlen.symm
   · show(putI s.its it).length<_
     omega
  rw [hm]
  have ht1:tails [decide (2*t-1≤s.its.length)]=if 2*t-1≤s.its.length then 1 else 0:=by
   unfold tails
   by_cases hc:2*t-1≤s.its.length<;>simp [hc]
  have hal: [decide (2*t-1≤s.its.length)].all id=decide (2*t-1≤s.its.length):=by simp
  rw [ht1] at htl ⊢
  rw [hal]
  exact leaf_step ht h hlen hm (.inr trivial) hst (fun e=>by rw [if_pos (by omega)] at htl;exact htl)
 |succ a ih=>
  intro lo f s st R h hz0 hnd hA hr hno hf hsz hst hsn htl
  obtain⟨f,rfl⟩: ∃g,f=g+1:=⟨f-1,by omega⟩
  have hzs:=h.ns_zero hz0
  obtain⟨c,l,h1,h2,h3,h4,h5,h6⟩:=h
  obtain⟨e1,e2⟩:=h4.get ht
  obtain⟨s_h,s_its,s_ns⟩:=s
  dsimp only at h1 h2 h4 hA hr hno hsz hnd hst htl e1 e2 hzs ⊢
  subst h1 h2
  obtain⟨nh,nn⟩:=List.nodup_cons.1 hnd
  have t1:=ht.1
  have hkr:=keys_rising hr
  have hkA: ∀i∈l.map (·.1),i.At R:=fun i hi=>hA i (keys_in hi)
  have hsp:=spot_of (key:=it.k) hkr
  have hpl:=place_items (key:=it.k) hkA hkr
  rw [List.map_map] at hpl
  generalize rankL (prs (l.map (·.1))) it.k=k at hsp hpl
  have hkl:=hsp.le
  have hkid:=kid_all k h5 h6
  have hy:(nodeOf c l).kids.getD k 0=(kid c l k).h:=by
   show(c.h::l.map (·.2.h)).getD k 0=_
   rw [List.getD_eq_getElem?_getD,kid_get c l k hkl];rfl
  have hne:(nodeOf c l).kids≠ []:=by simp [nodeOf]
  have hpath:bpath R t it.k (f+1) s_h=decide (2*t-1≤l.length)::bpath R t it.k f (kid c l k).h:=by
   rw [bpath_node e1 e2 hpl,if_neg hne,hy,(node_keys c l).1]
  rw [hpath] at htl ⊢
  have hnh: ∀hk' :k<l.length,l[k].1.k≠it.k:=fun hk' e=>by
   rw [hsp.here hr hk' e] at hno;cases hno
  have hkno:findI (kid c l k).its it.k=none:=by rw [←hsp.gone hr hnh];exact hno
  have hput:putI (itsOf c l) it=pre c l k++(putI (kid c l k).its it++rest (l.drop k)):=by
   conv=>lhs;rw [parts_at c l k hkl]
   exact putI_parts (hsp.pre hr) (hsp.post hr)
  have hll:=kid_len (c:=c) hkl
  have hfit:=h4.2
  have hlf:l.length≤2*t-1:=by have:=hfit.1;rwa [(node_keys c l).1] at this
  have h0k:0∉(c.h::l.map (·.2.h)):=by
   rcases hfit.2.2 with h|h
   · exact absurd h hne
   · exact h.2
  obtain⟨R1,used,st1,up,g1,g2,g3,g4⟩:=ih (t-1) f (kid c l k) st R hkid hz0 (kid_nodup hkl nn) (fun i hi=>hA i (kid_its hkl hi)) (kid_rising hkl hr) hkno (by omega) (by omega)
   (fun x hx=>⟨(hst x hx).1,fun hm=>(hst x hx).2.1 (List.mem_cons_of_mem _ (kid_ns hkl hm)),(hst x hx).2.2⟩) hsn (Nat.le_trans (tails_cons _ _) htl)
  generalize bpath R t it.k f (kid c l k).h=p at g3 g4 htl ⊢
  have hus: ∀x∈used,x∈st:=fun x hx=>by rw [g2];exact List.mem_append.2 (.inl hx)
  have hfr: ∀z,z∈nsOf c l→z∉(kid c l k).ns→R1 z=R z:=fun z hz hz2=>g4.frame z hz2 fun hz3=>(hst z (hus z hz3)).2.1 (List.mem_cons_of_mem _ hz)
  have hrec1:Rec R1 t s_h:=g4.recs _ ⟨_,h4.1,BN.wd_len _ _⟩
  have hhu:s_h∉used:=fun hm=>(hst _ (hus _ hm)).2.1 (by simp)
  have hR10:R1 0=none:=(g4.frame 0 (fun hm=>hzs (List.mem_cons_of_mem _ (kid_ns hkl hm))) (fun hm=>(hst 0 (hus 0 hm)).1 rfl)).trans hz0
  have hfr2: ∀z,z∉s_h::nsOf c l→z∉used→R1 z=R z:=fun z hz hz2=>g4.frame z (fun hm=>hz (List.mem_cons_of_mem _ (kid_ns hkl hm))) hz2
  have hallc:(decide (2*t-1≤l.length)::p).all id=(decide (2*t-1≤l.length)&&p.all id):=by simp
  rw [hallc]
  cases up with
  |none=>
   obtain⟨q1,ns',q2,q3⟩:=g4.stays rfl
   have hsk:=setKid_node (c:=c) (l:=l) (k:=k) (s:=⟨(kid c l k).h,putI (kid c l k).its it,ns'⟩) hkl rfl (putI_len _ _) hsz
   have hat:=setKid_at (a:=a) (lo:=t-1) hkl nn h5 h6 hfr q2
   have hcnt: ∀x,(nsOf (setKid c l k ⟨(kid c l k).h,putI (kid c l k).its it,ns'⟩).1 (setKid c l k ⟨(kid c l k).h,putI (kid c l k).its it,ns'⟩).2).count x=(nsOf c l).count x+used.count x:=fun x=>by
    have h1:=setKid_ns c l k ⟨(kid c l k).h,putI (kid c l k).its it,ns'⟩ x hkl
    have h2:=q3 x
    dsimp only at h1 h2
    omega
   have hlen:=setKid_len c l k ⟨(kid c l k).h,putI (kid c l k).its it,ns'⟩ hkl
   have hhs:=setKid_hs c l k ⟨(kid c l k).h,putI (kid c l k).its it,ns'⟩ hkl rfl
   have hits:=setKid_its c l k ⟨(kid c l k).h,putI (kid c l k).its it,ns'⟩ hkl
   rw [bins_stay e1 e2 hpl hne hy g1,hsk.1]
   generalize setKid c l k ⟨(kid c l k).h,putI (kid c l k).its it,ns'⟩=cl at hat hcnt hlen hhs hits ⊢
   obtain⟨c',l'⟩:=cl
   dsimp only at hat hcnt hlen hhs hits ⊢
   have hn' :s_h∉nsOf c' l' :=by
    rw [←List.count_eq_zero,hcnt,List.count_eq_zero.2 nh,List.count_eq_zero.2 hhu]
   obtain⟨b1,b2⟩:=inner_small (lo:=lo) (st:=st1) ht hrec1 (by omega) (by rw [hhs];exact h0k) hat.1 hat.2 hn' (by omega)
   refine⟨_,used,st1,none,b1,g2, ?_,⟨fun z hz hz2=> ?_,fun z hz=>upd_rec (g4.recs z hz),fun _=>⟨by rw [q1,Bool.and_false],s_h::nsOf c' l', ?_,fun x=> ?_⟩,fun mk mv r e=>by cases e⟩⟩
   · rw [g3]
     conv=>rhs;unfold tails
     rw [if_neg (by rw [q1];simp)]
   · rw [updR_other (fun e=>hz (by rw [e];simp)),hfr2 z hz hz2]
   · rw [hput,←hits];exact b2
   · simp only [List.count_cons,hcnt];omega
  |some u=>
   obtain⟨mk,mv,r⟩:=u
   obtain⟨q1,L,Q,m,rfl,rfl,q4,rfl,q6,q7,q8,q9⟩:=g4.split _ _ _ rfl
   have hlq:L.its.length+1+Q.its.length=(kid c l k).its.length+1:=by
    have h9:=congrArg List.length q8
    rw [putI_len] at h9
    simp only [List.length_append,List.length_cons] at h9
    omega
   have hsk:=insK_node (c:=c) (l:=l) (k:=k) (s:=L) (m:=m) (r:=Q) hkl q4 hlq hsz
   have hat:=insK_at (a:=a) (lo:=t-1) (m:=m) hkl nn h5 h6 hfr q6 q7
   have hcnt: ∀x,(nsOf (insK c l k L m Q).1 (insK c l k L m Q).2).count x=(nsOf c l).count x+used.count x:=fun x=>by
    have h1:=insK_ns c l k L m Q x hkl
    have h2:=q9 x
    omega
   have hlen:=insK_len c l k L m Q hkl
   have hhs:=insK_hs c l k L m Q hkl q4
   have hits:=insK_its c l k L m Q hkl
   have hQ0:Q.h≠0:=fun e=>q7.ns_zero hR10 (by rw [←e];exact ns_pos q7)
   rw [bins_up e1 e2 hpl hne hy g1,hsk.1]
   have hsize:=hsk.2
   generalize insK c l k L m Q=cl at hat hcnt hlen hhs hits hsize ⊢
   obtain⟨c',l'⟩:=cl
   dsimp only at hat hcnt hlen hhs hits hsize ⊢
   have hn' :s_h∉nsOf c' l' :=by
    rw [←List.count_eq_zero,hcnt,List.count_eq_zero.2 nh,List.count_eq_zero.2 hhu]
   have h0' :0∉(c'.h::l'.map (·.2.h)):=fun hm=>by
    rw [hhs] at hm
    rcases mem_ins_hs hm with h|h
    · exact hQ0 h.symm
    · exact h0k h
   have hits2:putI (itsOf c l) it=itsOf c' l' :=by rw [hput,q8,hits]
   have htp:=tails_all q1
   by_cases hfull:2*t-1≤l.length
   · have htl2:tails (decide (2*t-1≤l.length)::p)=p.length+1:=by
      conv=>lhs;unfold tails
      rw [if_pos q1,if_pos (decide_eq_true hfull)]
     rw [htl2] at htl ⊢
     obtain⟨x,st2,rfl⟩: ∃x st2,st1=x::st2:=by
      cases st1 with
      |nil=>
       rw [g2,List.append_nil,g3,htp] at htl
       omega
      |cons x st2=>exact⟨x,st2,rfl⟩
     have hxs:x∈st:=by rw [g2];simp
     obtain⟨x1,x2,x3⟩:=hst x hxs
     have hxu:x∉used:=fun hm=>by
      rw [g2] at hsn
      exact(List.nodup_append.1 hsn).2.2 x hm x (by simp) rfl
     have hxh:x≠s_h:=fun e=>x2 (by rw [e];simp)
     have hxn:x∉nsOf c' l' :=by
      rw [←List.count_eq_zero,hcnt,List.count_eq_zero.2 (fun hm=>x2 (List.mem_cons_of_mem _ hm)),List.count_eq_zero.2 hxu]
     obtain⟨A,m',d,B,rfl,b1,b2,b3⟩:=inner_great (st:=st2) ht hrec1 (g4.recs x x3) (by omega) h0' hat.1 hat.2 hn' hxn hxh (by omega)
     refine⟨_,used++ [x],st2,_,b1,by rw [g2];simp,by rw [List.length_append,g3,htp];rfl,⟨fun z hz hz2=> ?_,fun z hz=>upd_rec (upd_rec (g4.recs z hz)),(fun e=>by cases e),fun mk mv r e=> ?_⟩⟩
     · rw [List.mem_append,List.mem_singleton,not_or] at hz2
       rw [updR_other hz2.2,updR_other (fun e=>hz (by rw [e];simp)),hfr2 z hz hz2.1]
     · simp only [Option.some.injEq,Prod.mk.injEq] at e
       obtain⟨rfl,rfl,rfl⟩:=e
       refine⟨by rw [q1,decide_eq_true hfull];rfl,⟨s_h,itsOf c' A,s_h::nsOf c' A⟩,⟨x,itsOf d B,x::nsOf d B⟩,m',rfl,rfl,rfl,rfl,b2,b3, ?_,fun y=> ?_⟩
       · rw [hits2,halves_its]
       · have h9:=hcnt y
         rw [halves_ns,List.count_append] at h9
         simp only [List.count_cons,List.count_append,List.count_nil]
         omega
   · have htl2:tails (decide (2*t-1≤l.length)::p)=p.length:=by
      conv=>lhs;unfold tails
      rw [if_pos q1,decide_eq_false hfull]
      rfl
     rw [htl2]
     obtain⟨b1,b2⟩:=inner_small (lo:=lo) (st:=st1) ht hrec1 (by omega) h0' hat.1 hat.2 hn' (by omega)
     refine⟨_,used,st1,none,b1,g2,by rw [g3,htp],⟨fun z hz hz2=> ?_,fun z hz=>upd_rec (g4.recs z hz),fun _=>⟨by rw [decide_eq_false hfull];rfl,s_h::nsOf c' l', ?_,fun x=> ?_⟩,fun mk mv r e=>by cases e⟩⟩
     · rw [updR_other (fun e=>hz (by rw [e];simp)),hfr2 z hz hz2]
     · rw [hits2];exact b2
     · simp only [List.count_cons,hcnt];omega
end
end Bt
end Go.Proofs.YthcmecokejemcaaGreatDoor
