/-
  The seat's own texts, part k: Make, Drop, New, Rd.
-/
import Derived.Test.YthcmecokejemcaaGreatDoorWMj
import Derived.Defers
set_option linter.unusedSimpArgs false
set_option linter.unusedVariables false
set_option maxHeartbeats 2000000
namespace Go.Proofs.YthcmecokejemcaaGreatDoor
open Go.RowKit Go.Shelf
theorem alloc_any{w:World}{ha a q:Nat}{F:Nat→Prop}{L:HL}{mem:Nat→Nat}(h:HeapIs w ha a F L q mem)(n:Nat)(hn1:1≤n)(hn:n≤4000):
 Calls Tryz.prog 100 #[.pointer (some ⟨ha,0,none⟩), .int .i64 (n:Nat)] w fun e w' =>
  (∃addr F' L' mem',e= .returned (.tuple #[.int .i64 (addr:Nat), .int .i64 0])∧HeapIs w' ha a F' L' q mem' ∧Turn w F w' F' ∧Got L mem addr n L' mem' ∧addr<40000000)∨
  (e= .returned (.tuple #[.int .i64 0, .int .i64 3])∧Below w.heap.size w w' ∧q<((runs L).length+pgsN n)*64):=by
 by_cases h28:n≤28
 · refine(alloc_small h n hn1 h28).mono fun e w' hh=> ?_
   rw [show pgsN n=1 from if_pos h28]
   exact hh
 · rw [show pgsN n=(n+65)/64 from if_neg h28]
   by_cases hq:((runs L).length+(n+65)/64)*64≤q
   · exact(alloc_large h n (by omega) hn hq).mono fun e w' ⟨addr,F',L',mem',h1,h2,h3,h4,h5⟩=> .inl ⟨addr,F',L',mem',h1,h2,h3,h4,by omega⟩
   · exact(alloc_large_full h n (by omega) hn (by omega)).mono fun e w' ⟨h1,h2⟩=> .inr ⟨h1,h2,by omega⟩
def noPanic(Q:Exit→Act→World→Prop):Exit→Act→World→Prop
 | .panic _,_,_=>False
 |e,a,w=>Q e a w
theorem wp_noPanic{P:Program}{c:Code}{Q:Exit→Act→World→Prop}{a:Act}{w:World}(h:c.wp P (noPanic Q) a w):c.wp P Q a w:=
 wp_mono h (fun e a w hh=>by cases e<;>first|exact hh|exact hh.elim)
def OpenR(w:World)(t:Nat)(v:Value)(most last:Nat)(sl:List Sl)(addr hv er:Nat)(w' :World):Prop:=
 (er=0∧ ∃k g v' sl',Opened sl addr k g sl' ∧hv=handleN g k∧HTab w' t v' most last sl' ∧Turn w (HTabF t v) w' (HTabF t v'))∨
 (er=10∧hv=0∧sl.length=most∧(∀s∈sl,s.is≠0)∧w=w')
theorem hopen_one{w:World}{t most last:Nat}{v:Value}{sl:List Sl}(hT:HTab w t v most last sl)(addr:Nat)(ha:addr<1099511627776):
 Calls Tryz.prog 102 #[.pointer (some ⟨t,0,none⟩), .int .i64 (addr:Nat)] w fun e w' => ∃hv er:Nat,e= .returned (.tuple #[.int .u64 (hv:Nat), .int .i64 (er:Nat)])∧OpenR w t v most last sl addr hv er w' :=by
 refine(hopen_at hT addr ha).mono ?_
 rintro e w' (⟨k,g,v',sl',h1,rfl,h3,h4⟩|⟨h1,h2,rfl,rfl⟩)
 · exact⟨handleN g k,0,rfl, .inl ⟨rfl,k,g,v',sl',h1,rfl,h3,h4⟩⟩
 · exact⟨0,10,rfl, .inr ⟨rfl,rfl,h1,h2,rfl⟩⟩
theorem openR_cell{w w' :World}{t most last:Nat}{v:Value}{sl:List Sl}{addr hv er:Nat}(h:OpenR w t v most last sl addr hv er w'){b:Nat}{x:Value}(hb: ¬HTabF t v b)(hc:w.cell? ⟨b,0,none⟩=some x)(hf:w.frozen? ⟨b,0,none⟩=false):
 w'.cell? ⟨b,0,none⟩=some x∧w'.frozen? ⟨b,0,none⟩=false:=by
 rcases h with ⟨_,k,g,v',sl',_,_,_,ht⟩|⟨_,_,_,_,rfl⟩
 · exact⟨ht.cell hc hb,(World.frozen?_of_block (a:=⟨b,0,none⟩) (ht.keep b (cell_lt hc) hb)).trans hf⟩
 · exact⟨hc,hf⟩
theorem make1_ok(E S A:Addr)(u:FrameMode)(w:World)(hE:w.cell? E=some (.int .i64 0)):
 CallsD Tryz.prog 101 #[.pointer (some E), .pointer (some S), .pointer (some A)] u w fun e u' w' =>u' =u∧(e= .returned (.tuple #[])∧w=w'):=by
 go_enter_d Tryz.func101,Tryz.ntmps101
 go_wp2
 go_end0
 exact⟨rfl,rfl⟩
set_option maxRecDepth 100000 in
theorem make1_err(E S A:Addr)(u:FrameMode)(w:World)(er:Nat)(her:er≠0)(hE:w.cell? E=some (.int .i64 (er:Nat))){s ha addr:Nat}(hS:w.cell? S=some (.pointer (some ⟨s,0,none⟩)))(hA:w.cell? A=some (.int .i64 (addr:Nat)))
 (hh:w.cell? ⟨s,3,none⟩=some (.pointer (some ⟨ha,0,none⟩))) {Q:World→Prop} (hF: ∀X:Bel w,Calls Tryz.prog 91 #[.pointer (some ⟨ha,0,none⟩), .int .i64 (addr:Nat)] X.W fun e w' => ∃z,e= .returned z∧Q w'):
 CallsD Tryz.prog 101 #[.pointer (some E), .pointer (some S), .pointer (some A)] u w fun e u' w' =>u' =u∧(e= .returned (.tuple #[])∧Q w'):=by
 have d1:((er:Int) !=0)=true:=by simp;omega
 have x1:=fun X:Bel w=>X.cell hS
 have x2:=fun X:Bel w=>X.cell hA
 have x3:=fun X:Bel w=>X.cell hh
 have hFH:=Lib.hid hF
 clear hF
 go_enter_d Tryz.func101,Tryz.ntmps101
 go_wp2_with fail
 refine wp_region_calm_tail 5 (by kernel_rfl) (by kernel_rfl) ?_
 simp only [List.take_succ_cons,List.take_zero,List.drop_succ_cons,List.drop_zero]
 repeat (go_big_quiet_step (fail))
 refine wpQuiet_nil ?_
 rintro _ ⟨X,rfl⟩
 go_wp2_with fail
 refine(hFH.out X).mono ?_
 rintro e w' ⟨z,rfl,hQ⟩
 have hQH:=Lib.hid hQ
 clear hQ
 go_wp2
 go_end0
 exact⟨rfl,hQH.out⟩
theorem Turn.priv{w W W' :World}{A A' G G' :Nat→Prop}(h:Turn w A W A')(g:Turn W G W' G')(hG: ∀b,G b→w.heap.size≤b):Turn w A W' A' :=
 ⟨g.os.trans h.os,g.tape.trans h.tape,g.output.trans h.output,Nat.le_trans h.size g.size,fun k hk hn=>(g.keep k (Nat.lt_of_lt_of_le hk h.size) (fun hf=>by have:=hG k hf;omega)).trans (h.keep k hk hn),h.grow⟩
structure MK(W:World)(s a ha t:Nat)(v:Value)(most last q:Nat)(Fh:Nat→Prop)(L:HL)(mem:Nat→Nat)(sl:List Sl)(E A:Nat)(er addr:Nat):Prop where
 ca:W.cell? ⟨s,2,none⟩=some (.pointer (some ⟨a,0,none⟩))
 ch:W.cell? ⟨s,3,none⟩=some (.pointer (some ⟨ha,0,none⟩))
 ct:W.cell? ⟨s,4,none⟩=some (.pointer (some ⟨t,0,none⟩))
 heap:HeapIs W ha a Fh L q mem
 tab:HTab W t v most last sl
 cS: ∃S,E=S+1∧W.cell? ⟨S,0,none⟩=some (.pointer (some ⟨s,0,none⟩))
 cE:W.cell? ⟨E,0,none⟩=some (.int .i64 (er:Nat))
 fE:W.frozen? ⟨E,0,none⟩=false
 cA:W.cell? ⟨A,0,none⟩=some (.int .i64 (addr:Nat))
 nE: ¬Fh E∧ ¬HTabF t v E∧E≠s∧E≠ha∧E≠A∧1<E
 nA: ¬Fh A∧ ¬HTabF t v A
 nS: ¬Fh (E-1)∧ ¬HTabF t v (E-1)
 ns: ¬Fh s∧ ¬HTabF t v s
 ap: ∀b,Fh b→ ¬HTabF t v b
 hh: ¬HTabF t v ha
 tb: ∀b,HTabF t v b→1<b
section
variable {W W' :World} {s a ha t:Nat} {v v' :Value} {most last q:Nat} {Fh Fh' :Nat→Prop} {L L' :HL} {mem mem' :Nat→Nat} {sl sl' :List Sl} {E A er addr:Nat}
theorem MK.below(h:MK W s a ha t v most last q Fh L mem sl E A er addr)(hb:Below W.heap.size W W'):MK W' s a ha t v most last q Fh L mem sl E A er addr:=
 { h with
   ca:=(hb.cell (p:=⟨s,2,none⟩) (cell_lt h.ca)).trans h.ca
   ch:=(hb.cell (p:=⟨s,3,none⟩) (cell_lt h.ch)).trans h.ch
   ct:=(hb.cell (p:=⟨s,4,none⟩) (cell_lt h.ct)).trans h.ct
   heap:=h.heap.below hb
   tab:=h.tab.below hb
   cS:=by obtain⟨S,h1,h2⟩:=h.cS;exact⟨S,h1,(hb.cell (p:=⟨S,0,none⟩) (cell_lt h2)).trans h2⟩
   cE:=(hb.cell (p:=⟨E,0,none⟩) (cell_lt h.cE)).trans h.cE
   fE:=(hb.frozen (p:=⟨E,0,none⟩) (cell_lt h.cE)).trans h.fE
   cA:=(hb.cell (p:=⟨A,0,none⟩) (cell_lt h.cA)).trans h.cA }
theorem MK.setE(h:MK W s a ha t v most last q Fh L mem sl E A er addr)(er' :Nat):MK (W.setCell ⟨E,0,none⟩ (.int .i64 (er' :Nat))) s a ha t v most last q Fh L mem sl E A er' addr:=by
 have ht:Turn W (fun b=>b=E) (W.setCell ⟨E,0,none⟩ (.int .i64 (er' :Nat))) (fun b=>b=E):=turn_setCell _ _ rfl
 obtain⟨n1,n2,n3,n4,n5,n6⟩:=h.nE
 exact { h with
  ca:=ht.cell h.ca (fun e=>n3 e.symm)
  ch:=ht.cell h.ch (fun e=>n3 e.symm)
  ct:=ht.cell h.ct (fun e=>n3 e.symm)
  heap:=h.heap.turn ht (fun b hb e=>n1 (e▸hb)) (fun e=>n4 e.symm) (fun e=>by omega)
  tab:=h.tab.turn ht (fun b hb e=>n2 (e▸hb))
  cS:=by obtain⟨S,h1,h2⟩:=h.cS;exact⟨S,h1,ht.cell h2 (fun e=>by simp only at e;omega)⟩
  cE:=World.cell?_setCell_same' _ _ _ (by rw [h.cE];rfl)
  fE:=by simpa using h.fE
  cA:=ht.cell h.cA (fun e=>n5 e.symm) }
theorem MK.heapStep(h:MK W s a ha t v most last q Fh L mem sl E A er addr)(hh:HeapIs W' ha a Fh' L' q mem')(ht:Turn W Fh W' Fh'):MK W' s a ha t v most last q Fh' L' mem' sl E A er addr:=by
 have hEl:=cell_lt h.cE
 have hAl:=cell_lt h.cA
 have hsl:=cell_lt h.ca
 obtain⟨S,e,hS⟩:=h.cS
 have hSl:=cell_lt hS
 have hSn: ¬Fh S:=by have:=h.nS.1;rwa [e,Nat.add_sub_cancel] at this
 exact { h with
  ca:=ht.cell h.ca h.ns.1
  ch:=ht.cell h.ch h.ns.1
  ct:=ht.cell h.ct h.ns.1
  heap:=hh
  tab:=h.tab.turn ht (fun b hb hf=>h.ap b hf hb)
  cS:=⟨S,e,ht.cell hS hSn⟩
  cE:=ht.cell h.cE h.nE.1
  fE:=(World.frozen?_of_block (a:=⟨E,0,none⟩) (ht.keep E hEl h.nE.1)).trans h.fE
  cA:=ht.cell h.cA h.nA.1
  nE:=⟨ht.not hEl h.nE.1,h.nE.2⟩
  nA:=⟨ht.not hAl h.nA.1,h.nA.2⟩
  nS:=⟨by rw [e,Nat.add_sub_cancel];exact ht.not hSl hSn,h.nS.2⟩
  ns:=⟨ht.not hsl h.ns.1,h.ns.2⟩
  ap:=fun b hb htb=>ht.not (h.tab.lt htb) (fun hf=>h.ap b hf htb) hb }
theorem MK.tabStep(h:MK W s a ha t v most last q Fh L mem sl E A er addr)(hT:HTab W' t v' most last sl')(ht:Turn W (HTabF t v) W' (HTabF t v')):MK W' s a ha t v' most last q Fh L mem sl' E A er addr:=by
 have hEl:=cell_lt h.cE
 have hAl:=cell_lt h.cA
 have hsl:=cell_lt h.ca
 obtain⟨S,e,hS⟩:=h.cS
 have hSl:=cell_lt hS
 have hSn: ¬HTabF t v S:=by have:=h.nS.2;rwa [e,Nat.add_sub_cancel] at this
 have hoff:=h.heap.off
 have htl:1<W.heap.size:=Nat.lt_trans (hoff.2.2.2 a hoff.2.2.1) (h.heap.lt hoff.2.2.1)
 have hap' : ∀b,Fh b→ ¬HTabF t v' b:=fun b hb=>ht.not (h.heap.lt hb) (h.ap b hb)
 exact { h with
  ca:=ht.cell h.ca h.ns.2
  ch:=ht.cell h.ch h.ns.2
  ct:=ht.cell h.ct h.ns.2
  heap:=h.heap.turn ht h.ap h.hh (fun hf=>Nat.lt_irrefl _ (h.tb _ hf))
  tab:=hT
  cS:=⟨S,e,ht.cell hS hSn⟩
  cE:=ht.cell h.cE h.nE.2.1
  fE:=(World.frozen?_of_block (a:=⟨E,0,none⟩) (ht.keep E hEl h.nE.2.1)).trans h.fE
  cA:=ht.cell h.cA h.nA.2
  nE:=⟨h.nE.1,ht.not hEl h.nE.2.1,h.nE.2.2⟩
  nA:=⟨h.nA.1,ht.not hAl h.nA.2⟩
  nS:=⟨h.nS.1,by rw [e,Nat.add_sub_cancel];exact ht.not hSl hSn⟩
  ns:=⟨h.ns.1,ht.not hsl h.ns.2⟩
  ap:=hap'
  hh:=ht.not hoff.2.1 h.hh
  tb:=fun b hb=>(ht.grow b hb).elim (fun h1=>h.tb b h1) (fun h1=>by omega) }
end
section
variable {w w' :World} {s:Nat} {F:Nat→Prop} {R:Nat→Option (List Nat)} {H:List Nat} {P q most last G:Nat}
theorem nodup_sub_len{α:Type} [DecidableEq α]: ∀(l H:List α),l.Nodup→(∀x∈l,x∈H)→l.length≤H.length
 | [],H,_,_=>Nat.zero_le _
 |x::t,H,hn,hs=>by
  have hx:=hs x List.mem_cons_self
  rw [List.nodup_cons] at hn
  have h1:=nodup_sub_len t (H.erase x) hn.2 (fun y hy=>(List.mem_erase_of_ne (fun(e:y=x)=>hn.1 (e▸hy))).2 (hs y (List.mem_cons_of_mem _ hy)))
  rw [List.length_erase_of_mem hx] at h1
  have:=List.length_pos_of_mem hx
  simp only [List.length_cons]
  omega
theorem StIn.full_cause{a ha t:Nat}{v:Value}{L:HL}{mem:Nat→Nat}{sl:List Sl}{Fh:Nat→Prop}(h:StIn w s F R H P q most last G a ha t v L mem sl Fh)(hf:sl.length=most)(hz: ∀x∈sl,x.is≠0):most≤H.length∨last≤G:=by
 by_cases h2: ∃x∈sl,x.is=2
 · obtain⟨x,hx,h3⟩:=h2
   right
   rw [←h.ret x hx h3]
   exact h.gens x hx
 · left
   have h1: ∀k (hk:k<sl.length),Names sl (handleN sl[k].gen k) k:=fun k hk=>by
    refine⟨hk,fun _=> ?_,fun _=>rfl⟩
    have a1:=(h.tab.ok _ (List.getElem_mem hk)).is
    have a2:=hz _ (List.getElem_mem hk)
    have a3:sl[k].is≠2:=fun e=>h2 ⟨_,List.getElem_mem hk,e⟩
    omega
   have h4:=nodup_sub_len ((List.range sl.length).map fun k=>handleN ((sl[k]?).getD ⟨0,0,0⟩).gen k) H ?_ ?_
   · rw [List.length_map,List.length_range] at h4;omega
   · refine List.pairwise_map.2 (List.Pairwise.imp_of_mem (R:=fun a b=>a<b) (fun {a b} ha hb hab=> ?_) List.pairwise_lt_range)
     intro e
     have:=handleN_inj (h.k_lt (by simpa using ha)) (h.k_lt (by simpa using hb)) e
     omega
   · intro y hy
     obtain⟨k,hk,rfl⟩:=List.mem_map.1 hy
     have hk' :k<sl.length:=by simpa using hk
     rw [List.getElem?_eq_getElem hk']
     exact(h.inH _).2 ⟨k,h1 k hk'⟩
def MadeR(w:World)(s:Nat)(F:Nat→Prop)(R:Nat→Option (List Nat))(H:List Nat)(P q most last G n:Nat)(e:Ending)(w' :World):Prop:=
 (∃x F',R x=none∧x≠0∧x<18446744073709551616∧e= .returned (.tuple #[.int .u64 (x:Nat), .int .i64 0])∧StoreIs w' s F' (updR R x (some (List.replicate n 0))) (x::H) (P+pgsN (n+2)) q most last (G+1)∧Turn w F w' F')∨
 (∃er F',e= .returned (.tuple #[.int .u64 0, .int .i64 (er:Nat)])∧((er=3∧q<(P+pgsN (n+2))*64)∨(er=10∧(most≤H.length∨last≤G)))∧StoreIs w' s F' R H (P+pgsN (n+2)) q most last G∧Turn w F w' F')
set_option maxRecDepth 100000 in
theorem smake_at(h:StoreIs w s F R H P q most last G)(n:Nat)(hn:n≤3998):
 Calls Tryz.prog 70 #[.pointer (some ⟨s,0,none⟩), .int .i64 (n:Nat)] w (MadeR w s F R H P q most last G n):=by
 obtain⟨a,ha,t,v,L,mem,sl,Fh,h⟩:=h
 have hmf: ∀(fn:Fn) (first cap:Array Value) (w:World),(Instr.makeFunc fn first cap).run Tryz.prog w= .ok (.func fn first cap) w:=fun _ _ _ _=>rfl
 have hH:=Lib.hid h
 have hslt:s<w.heap.size:=cell_lt (a:=⟨s,2,none⟩) h.ca
 have d1:decide ((n:Int)<0)=false:=by simp
 have d2:decide ((3998:Int)<(n:Int))=false:=by simp;omega
 clear h
 go_enter_defers Tryz.func70,Tryz.ntmps70
 go_wp2_with fail
 have hb0:Below w.heap.size w ((w.alloc (Obj.cells #[Value.pointer (some { block:=s,off:=0 })] 25)).alloc (Obj.cells #[Value.int IntKind.i64 0] 26)):=((Below.refl _ w).alloc (Nat.le_refl _) _).alloc (by simp) _
 have hc0:((w.alloc (Obj.cells #[Value.pointer (some { block:=s,off:=0 })] 25)).alloc (Obj.cells #[Value.int IntKind.i64 0] 26)).cell? ⟨w.heap.size,0,none⟩=some (.pointer (some ⟨s,0,none⟩)):=by go_simp
 have hc1:((w.alloc (Obj.cells #[Value.pointer (some { block:=s,off:=0 })] 25)).alloc (Obj.cells #[Value.int IntKind.i64 0] 26)).cell? ⟨w.heap.size+1,0,none⟩=some (.int .i64 0):=by go_simp
 have hf1:((w.alloc (Obj.cells #[Value.pointer (some { block:=s,off:=0 })] 25)).alloc (Obj.cells #[Value.int IntKind.i64 0] 26)).frozen? ⟨w.heap.size+1,0,none⟩=false:=by go_simp
 have hz0:((w.alloc (Obj.cells #[Value.pointer (some { block:=s,off:=0 })] 25)).alloc (Obj.cells #[Value.int IntKind.i64 0] 26)).heap.size≥w.heap.size+2:=by simp
 generalize ((w.alloc (Obj.cells #[Value.pointer (some { block:=s,off:=0 })] 25)).alloc (Obj.cells #[Value.int IntKind.i64 0] 26))=W0 at*
 have hH0:=Lib.hid (hH.out.below hb0)
 have T0:=Lib.hid (Turn.below (F:=F) hb0)
 have hbH:=Lib.hid hb0
 clear hb0
 refine(snone_at hH0.out).mono ?_
 rintro e w' ⟨rfl,rfl⟩
 have hch:=hH0.out.ch
 have hct:=hH0.out.ct
 have hca:=hH0.out.ca
 go_wp2_with fail
 rw [show((n:Int)+2)=((n+2:Nat):Int) by push_cast;rfl]
 refine(alloc_any hH0.out.heap (n+2) (by omega) (by omega)).mono ?_
 rintro e w1 (⟨addr,F1,L1,mem1,rfl,hh1,t1,hgot,had⟩|⟨rfl,hb1,hq⟩)
 · have hnF: ∀b,w.heap.size≤b→ ¬F b:=fun b hb hf=>by have:=hH.out.lt hf;omega
   have hFe:=hH.out.F_eq
   subst hFe
   have hnh: ∀b,w.heap.size≤b→ ¬Fh b:=fun b hb hf=>hnF b hb (.inl hf)
   have hnt: ∀b,w.heap.size≤b→ ¬HTabF t v b:=fun b hb hf=>hnF b hb (.inr hf)
   have hsz1:=t1.size
   have hoff:=hH.out.heap.off
   have htl:1<w.heap.size:=Nat.lt_trans (hoff.2.2.2 a hoff.2.2.1) (hH.out.heap.lt hoff.2.2.1)
   have hz1:w.heap.size+1<w1.heap.size:=by omega
   have hz1' :w.heap.size<w1.heap.size:=by omega
   have hsF: ¬Fh s:=fun hf=>hH.out.soff (.inl hf)
   have hsT: ¬HTabF t v s:=fun hf=>hH.out.soff (.inr hf)
   have m0: ∀W,Below w1.heap.size w1 W→W.cell? ⟨w1.heap.size,0,none⟩=some (.int .i64 (addr:Nat))→MK W s a ha t v most last q F1 L1 mem1 sl (w.heap.size+1) w1.heap.size 0 addr:=fun W hb hA=>{
    ca:=(hb.cell (p:=⟨s,2,none⟩) (cell_lt (t1.cell hca hsF))).trans (t1.cell hca hsF)
    ch:=(hb.cell (p:=⟨s,3,none⟩) (cell_lt (t1.cell hch hsF))).trans (t1.cell hch hsF)
    ct:=(hb.cell (p:=⟨s,4,none⟩) (cell_lt (t1.cell hct hsF))).trans (t1.cell hct hsF)
    heap:=hh1.below hb
    tab:=(hH0.out.tab.turn t1 (fun b hb hf=>hH.out.apart b hf hb)).below hb
    cS:=⟨w.heap.size,rfl,(hb.cell (p:=⟨w.heap.size,0,none⟩) hz1').trans (t1.cell hc0 (hnh _ (Nat.le_refl _)))⟩
    cE:=(hb.cell (p:=⟨w.heap.size+1,0,none⟩) hz1).trans (t1.cell hc1 (hnh _ (by simp)))
    fE:=(hb.frozen (p:=⟨w.heap.size+1,0,none⟩) hz1).trans ((World.frozen?_of_block (a:=⟨w.heap.size+1,0,none⟩) (t1.keep (w.heap.size+1) (by omega) (hnh (w.heap.size+1) (by omega)))).trans hf1)
    cA:=hA
    nE:=⟨t1.not (by omega) (hnh _ (by omega)),hnt _ (by omega),by omega,by omega,by omega,by omega⟩
    nA:=⟨fun hf=>Nat.lt_irrefl _ (hh1.lt hf),hnt _ (by omega)⟩
    nS:=by rw [Nat.add_sub_cancel];exact⟨t1.not (by omega) (hnh _ (Nat.le_refl _)),hnt _ (Nat.le_refl _)⟩
    ns:=⟨t1.not (Nat.lt_of_lt_of_le hslt hbH.out.size) hsF,hsT⟩
    ap:=fun b hb htb=>t1.not (hH0.out.tab.lt htb) (fun hf=>hH.out.apart b hf htb) hb
    hh:=hH.out.haoff
    tb:=hH.out.tboff }
   have hc1' :=t1.cell hc1 (hnh _ (by simp))
   have hf1' :=(World.frozen?_of_block (a:=⟨w.heap.size+1,0,none⟩) (t1.keep (w.heap.size+1) (by omega) (hnh _ (by omega)))).trans hf1
   have t01:=Lib.hid (Turn.trans (Turn.below (F:=Fh) hbH.out) t1)
   have m0H:=Lib.hid m0
   have hgotH:=Lib.hid hgot
   have hh1H:=Lib.hid hh1
   clear m0 hh1 t1 hgot hca hch hct hc0 hc1 hf1
   go_wp2_with fail
   obtain⟨W1,hW1⟩: ∃W1,W1=(w1.setCell { block:=w.heap.size+1,off:=0 } (Value.int IntKind.i64 0)).alloc (Obj.cells #[Value.int IntKind.i64 (addr:Nat)] 3):=⟨_,rfl⟩
   have M1:MK W1 s a ha t v most last q F1 L1 mem1 sl (w.heap.size+1) w1.heap.size 0 addr:=by
    have h8:=(m0H.out (w1.alloc (Obj.cells #[Value.int IntKind.i64 (addr:Nat)] 3)) ((Below.refl _ _).alloc (Nat.le_refl _) _) (by go_simp)).setE 0
    have h9:((w1.alloc (Obj.cells #[Value.int IntKind.i64 (addr:Nat)] 3)).setCell ⟨w.heap.size+1,0,none⟩ (.int .i64 ((0:Nat):Int)))=W1:=by
     rw [hW1]
     exact World.setCell_alloc_past _ _ _ _ (by omega)
    rwa [h9] at h8
   have T1:Turn w Fh W1 F1:=by
    rw [hW1]
    exact(t01.out.priv (turn_setCell (F:=fun b=>b=w.heap.size+1) ⟨w.heap.size+1,0,none⟩ (.int .i64 0) rfl) (fun b hb=>by omega)).priv (Turn.below (F:=fun _=>False) ((Below.refl _ _).alloc (Nat.le_refl _) _)) (fun _ h=>h.elim)
   rw [←hW1]
   have hW1H:=Lib.hid hW1
   have M1H:=Lib.hid M1
   have T1H:=Lib.hid T1
   have y1:=M1.ct
   have y2:=M1.cA
   have y3:=M1.cE
   have y4:=M1.fE
   obtain⟨S,hS1,y5⟩:=M1.cS
   have hS2:S=w.heap.size:=by omega
   subst hS2
   clear hc1' hf1' hW1 M1 T1 hS1
   refine wp_noPanic ?_
   go_region_with (go_at_call 102;refine(hopen_one (M1H.out.below (drewN_below W1 1)).tab addr (by omega)).mono ?_;rintro e w3 ⟨hv,er,rfl,hO⟩;obtain⟨z1,z2⟩:=openR_cell hO M1H.out.nE.2.1 y3 y4;have hOH:=Lib.hid hO;clear hO)
   all_goals
    dsimp only [noPanic]
    rcases hOH.out with ⟨rfl,k,g,v',sl',ho,rfl,hT3,t3⟩|⟨rfl,rfl,hfull,hnz,rfl⟩
    · have M3:=(((M1H.out.below (drewN_below W1 1)).tabStep hT3 t3).setE 0)
      have hTH:=Lib.hid hT3
      have t3H:=Lib.hid t3
      have hoH:=Lib.hid ho
      have hkx:handleN g k<18446744073709551616∧handleN g k≠0:=by
       obtain⟨hk,he⟩:=opened_addr ho
       have h1:=(hT3.ok _ (List.getElem_mem hk)).hi
       rw [he] at h1
       have h2:=hT3.l2
       have h3:=hT3.len
       have h4:=hT3.m2
       unfold handleN
       simp only at h1
       omega
      obtain⟨hkx1,hkx2⟩:=hkx
      generalize hx:handleN g k=x at*
      have hxH:=Lib.hid hx
      have T3a:Turn w3 (fun b=>F1 b∨b=w.heap.size+1) (w3.setCell ⟨w.heap.size+1,0,none⟩ (.int .i64 ((0:Nat):Int))) (fun b=>F1 b∨b=w.heap.size+1):=turn_setCell _ _ (.inr rfl)
      have T3H:=Lib.hid T3a
      have hEH:=Lib.hid M3.nE.2.1
      clear hOH y1 y2 y3 y4 y5 z1 z2 ho hT3 t3 hx T3a
      obtain⟨W4,hW4⟩: ∃W4,W4=w3.setCell ⟨w.heap.size+1,0,none⟩ (.int .i64 ((0:Nat):Int)):=⟨_,rfl⟩
      have M4H:Hid (MK W4 s a ha t v' most last q F1 L1 mem1 sl' (w.heap.size+1) w1.heap.size 0 addr):=Lib.hid (hW4▸M3)
      rw [←hW4] at T3H ⊢
      clear hW4 M3
      have y3:=M4H.out.cE
      go_wp2_with fail
      have x1:=fun X:Bel W4=>X.cell M4H.out.ca
      have x2:=fun X:Bel W4=>X.cell M4H.out.cA
      obtain⟨S,hS1,y5⟩:=M4H.out.cS
      have hS2:S=w.heap.size:=by omega
      subst hS2
      have x3:=fun X:Bel W4=>X.cell y5
      clear y3 y5 hS1
      refine wp_region_calm_tail 6 (by kernel_rfl) (by kernel_rfl) ?_
      simp only [List.take_succ_cons,List.take_zero,List.drop_succ_cons,List.drop_zero]
      repeat (go_big_quiet_step (fail))
      refine wpQuiet_nil ?_
      rintro _ ⟨X,rfl⟩
      have M5:=Lib.hid (M4H.out.below X.h)
      have T5:=Lib.hid (Turn.trans T3H.out (.below X.h))
      clear x1 x2 x3
      generalize X.W=W5 at*
      go_wp2_with fail
      have hblk:(addr,bszN (n+2))∈blocks L1:=hgotH.out.perm.mem_iff.2 List.mem_cons_self
      have hbn:=bszN_ge (n+2)
      refine(write_is M5.out.heap hblk addr x (Nat.le_refl _) (by simp only;omega) hkx1).mono ?_
      rintro e W6 ⟨rfl,h6,t6⟩
      have M6:=Lib.hid (M5.out.heapStep h6 t6)
      have T6:=Lib.hid (T5.out.trans t6.left)
      clear h6 t6
      have x1:=fun X:Bel W6=>X.cell M6.out.ca
      have x2:=fun X:Bel W6=>X.cell M6.out.cA
      obtain⟨S,hS1,y5⟩:=M6.out.cS
      have hS2:S=w.heap.size:=by omega
      subst hS2
      have x3:=fun X:Bel W6=>X.cell y5
      clear y5 hS1
      go_wp2_with fail
      refine wp_region_calm_tail 8 (by kernel_rfl) (by kernel_rfl) ?_
      simp only [List.take_succ_cons,List.take_zero,List.drop_succ_cons,List.drop_zero]
      repeat (go_big_quiet_step (fail))
      refine wpQuiet_nil ?_
      rintro _ ⟨X,rfl⟩
      have M7:=Lib.hid (M6.out.below X.h)
      have T7:=Lib.hid (T6.out.trans (.below X.h))
      clear x1 x2 x3
      generalize X.W=W7 at*
      go_wp2_with fail
      rw [show((addr:Int)+1)=((addr+1:Nat):Int) by push_cast;rfl]
      refine(write_is M7.out.heap hblk (addr+1) n (by simp) (by simp only;omega) (by omega)).mono ?_
      rintro e W8 ⟨rfl,h8,t8⟩
      have M8:=Lib.hid ((M7.out.heapStep h8 t8).setE 0)
      have y3:=(M7.out.heapStep h8 t8).cE
      have y4:=(M7.out.heapStep h8 t8).fE
      have T8:=Lib.hid ((T7.out.trans t8.left).trans (turn_setCell (F:=fun b=>F1 b∨b=w.heap.size+1) ⟨w.heap.size+1,0,none⟩ (.int .i64 ((0:Nat):Int)) (.inr rfl)))
      clear h8 t8
      go_wp2_with fail
      have hfin:=hH.out.make (X:=fun b=>b=w.heap.size+1) hn (T1H.out.priv (Turn.below (F:=fun _=>False) (drewN_below W1 1)) (fun _ h=>h.elim)) hgotH.out hoH.out hTH.out t3H.out T8.out (fun b hb=>by subst hb;exact⟨by omega,hEH.out⟩) (by rw [hxH.out];exact M8.out.heap) (fun b hb=>M1H.out.heap.lt hb)
      have hfinH:=Lib.hid hfin
      refine leaves_cons (f:=101) (args:= #[.pointer (some ⟨w.heap.size+1,0,none⟩), .pointer (some ⟨w.heap.size,0,none⟩), .pointer (some ⟨w1.heap.size,0,none⟩)]) (by simp) (by simp [go_sem]) ?_
      refine(make1_ok ⟨w.heap.size+1,0,none⟩ _ _ .returning _ M8.out.cE).mono ?_
      rintro e u' w'' ⟨rfl,rfl,rfl⟩
      refine⟨.tuple #[.int .u64 (x:Nat), .int .i64 0], ?_, ?_⟩
      · have z8:(W8.setCell ⟨w.heap.size+1,0,none⟩ (.int .i64 0)).cell? ⟨w.heap.size+1,0,none⟩=some (.int .i64 0):=M8.out.cE
        simp [results,Tryz.f70,go_sem,z8]
      · obtain⟨u1,u2,u3⟩:=hfinH.out
        rw [hxH.out] at u1 u3
        exact .inl ⟨x,_,u3,hkx2,hkx1,rfl,⟨_,_,_,_,_,_,_,_,u1⟩,u2⟩
    · have M3:=((M1H.out.below (drewN_below W1 1)).setE 10)
      have y6:=M3.cE
      have y7:=M3.fE
      have T3:=Lib.hid ((T1H.out.priv (Turn.below (F:=fun _=>False) (drewN_below W1 1)) (fun _ h=>h.elim)).priv (turn_setCell (F:=fun b=>b=w.heap.size+1) ⟨w.heap.size+1,0,none⟩ (.int .i64 ((10:Nat):Int)) rfl) (fun b hb=>by omega))
      have M3H:=Lib.hid M3
      clear hOH y1 y2 y3 y4 y5 z1 z2 M3
      obtain⟨W4,hW4⟩: ∃W4,W4=(W1.drewN 1).setCell ⟨w.heap.size+1,0,none⟩ (.int .i64 ((10:Nat):Int)):=⟨_,rfl⟩
      rw [←hW4] at y6 y7 T3 M3H ⊢
      clear hW4
      go_wp2_with fail
      refine wp_noPanic ?_
      go_region
      all_goals
       dsimp only [noPanic]
       have M5:=((M3H.out.setE 10).below (W' :=(W4.setCell ⟨w.heap.size+1,0,none⟩ (.int .i64 ((10:Nat):Int))).drew) (drewN_below _ 1))
       have T5:=Lib.hid ((T3.out.priv (turn_setCell (F:=fun b=>b=w.heap.size+1) ⟨w.heap.size+1,0,none⟩ (.int .i64 ((10:Nat):Int)) rfl) (fun b hb=>by omega)).priv (Turn.below (F:=fun _=>False) (drewN_below _ 1)) (fun _ h=>h.elim))
       have M5H:=Lib.hid M5
       clear M5 y6 y7
       go_wp2_with fail
       obtain⟨S,hS1,y5⟩:=M5H.out.cS
       have hS2:S=w.heap.size:=by omega
       subst hS2
       have hblk:(addr,bszN (n+2))∈blocks L1:=hgotH.out.perm.mem_iff.2 List.mem_cons_self
       refine leaves_cons (f:=101) (args:= #[.pointer (some ⟨w.heap.size+1,0,none⟩), .pointer (some ⟨w.heap.size,0,none⟩), .pointer (some ⟨w1.heap.size,0,none⟩)]) (by simp) (by simp [go_sem]) ?_
       refine(make1_err ⟨w.heap.size+1,0,none⟩ ⟨w.heap.size,0,none⟩ ⟨w1.heap.size,0,none⟩ .returning _ 10 (by omega) M5H.out.cE y5 M5H.out.cA M5H.out.ch (Q:=fun w' => ∃F' L' mem',HeapIs w' ha a F' L' q mem' ∧Turn (W4.setCell ⟨w.heap.size+1,0,none⟩ (.int .i64 ((10:Nat):Int))).drew F1 w' F' ∧Freed L1 mem1 (addr,bszN (n+2)) L' mem') (fun X=> ?_)).mono ?_
       · refine(free_is (M5H.out.heap.below X.h) (addr,bszN (n+2)) hblk).mono ?_
         rintro e w' ⟨F',L',mem',rfl,g1,g2,g3⟩
         exact⟨_,rfl,F',L',mem',g1,(Turn.below X.h).trans g2,g3⟩
       · rintro e u' w'' ⟨rfl,rfl,F',L',mem',g1,g2,g3⟩
         have hcE:=g2.cell M5H.out.cE M5H.out.nE.1
         refine⟨.tuple #[.int .u64 0, .int .i64 10], ?_, ?_⟩
         · have z8:w''.cell? ⟨w.heap.size+1,0,none⟩=some (.int .i64 10):=hcE
           simp [results,Tryz.f70,go_sem,z8]
         · have hpp:(blocks L').Perm (blocks L):=(g3.perm.symm.trans hgotH.out.perm).cons_inv
           have hpg:=hH.out.pages
           have hpg2:=hgotH.out.pages
           have hpg3:=g3.pages
           obtain⟨u1,u2⟩:=hH.out.reheap (P' :=P+pgsN (n+2)) g1 (T5.out.trans g2) hpp (fun c hc i hi1 hi2=>(g3.same c (hpp.mem_iff.2 hc) i hi1 hi2).trans (hgotH.out.same c hc i hi1 hi2)) (by omega)
           exact .inr ⟨10,_,rfl, .inr ⟨rfl,hH.out.full_cause hfull hnz⟩,⟨_,_,_,_,_,_,_,_,u1⟩,u2⟩
 · have hbW1:=Lib.hid (hbH.out.trans (hb1.mono hbH.out.size))
   have hc1' :=(hb1.cell (p:=⟨w.heap.size+1,0,none⟩) (cell_lt hc1)).trans hc1
   have hf1' :=(hb1.frozen (p:=⟨w.heap.size+1,0,none⟩) (cell_lt hc1)).trans hf1
   have hqH:=Lib.hid hq
   have hz1:w.heap.size+1<w1.heap.size:=by have:=hb1.size;omega
   have hz1' :w.heap.size<w1.heap.size:=by omega
   clear hb1 hq
   go_wp2_with fail
   have hE3:((w1.setCell { block:=w.heap.size+1,off:=0 } (Value.int IntKind.i64 3)).alloc (Obj.cells #[Value.int IntKind.i64 0] 3)).cell? ⟨w.heap.size+1,0,none⟩=some (.int .i64 3):=by go_simp
   have hF3:((w1.setCell { block:=w.heap.size+1,off:=0 } (Value.int IntKind.i64 3)).alloc (Obj.cells #[Value.int IntKind.i64 0] 3)).frozen? ⟨w.heap.size+1,0,none⟩=false:=by go_simp
   have hb3:=Lib.hid ((hbW1.out.setCell (p:=⟨w.heap.size+1,0,none⟩) (by simp) (.int .i64 3)).alloc (by simp;omega) (Obj.cells #[Value.int IntKind.i64 0] 3))
   clear hc1' hf1'
   generalize ((w1.setCell { block:=w.heap.size+1,off:=0 } (Value.int IntKind.i64 3)).alloc (Obj.cells #[Value.int IntKind.i64 0] 3))=W3 at*
   go_region
   all_goals
    go_wp2
    refine⟨.tuple #[.int .u64 0, .int .i64 3], ?_, ?_⟩
    · simp [results,Tryz.f70,go_sem,hE3]
    · have hbF:=(hb3.out.setCell (p:=⟨w.heap.size+1,0,none⟩) (by simp) (.int .i64 3)).drew
      have hPg:=hH.out.pages
      exact .inr ⟨3,F,rfl, .inl ⟨rfl,by have:=hqH.out;have:=Nat.mul_le_mul_right 64 (Nat.add_le_add_right hPg (pgsN (n+2)));omega⟩,⟨_,_,_,_,_,_,_,_,{ hH.out.below hbF with pages:=by omega }⟩, .below hbF⟩
end
section
variable {w w' :World} {s:Nat} {F:Nat→Prop} {R:Nat→Option (List Nat)} {H:List Nat} {P q most last G:Nat}
set_option maxRecDepth 100000 in
theorem sdrop_at(h:StoreIs w s F R H P q most last G){x:Nat}{ws:List Nat}(hR:R x=some ws):
 Calls Tryz.prog 60 #[.pointer (some ⟨s,0,none⟩), .int .u64 (x:Nat)] w fun e w' => ∃F',e= .returned (.int .i64 0)∧StoreIs w' s F' (updR R x none) (H.erase x) P q most last G∧Turn w F w' F' :=by
 obtain⟨a,ha,t,v,L,mem,sl,Fh,h⟩:=h
 obtain⟨k,n,hr⟩:=h.record hR
 have hA:=Lib.hid (sat_hit h n hr)
 have hH:=Lib.hid h
 have hrH:=Lib.hid hr
 have hRH:=Lib.hid hR
 have hch:=h.ch
 have hF:=h.F_eq
 subst hF
 have hF1:=Lib.hid (fun w' (hb:Below w.heap.size w w')=>free_is (h.heap.below hb) _ hr.blk)
 have hsF: ¬Fh s:=fun hf=>h.soff (.inl hf)
 clear h hr hR
 obtain⟨addr,haddr⟩: ∃addr,(sl[k]'n.lt).addr=addr:=⟨_,rfl⟩
 rw [haddr] at hA hrH hF1
 have haH:=Lib.hid haddr
 have nH:=Lib.hid n
 clear haddr
 go_enter Tryz.func60,Tryz.ntmps60
 go_wp2_with fail
 refine hA.out.mono ?_
 rintro e w' ⟨rfl,rfl⟩
 go_wp2_with fail
 refine(hF1.out _ (Below.refl _ _)).mono ?_
 rintro e w1 ⟨F',L',mem',rfl,g1,g2,g3⟩
 have hct1:=g2.cell hH.out.ct hsF
 have hT1:=hH.out.tab.turn g2 (fun b hb hf=>hH.out.apart b hf hb)
 have hC:=Lib.hid (fun X:Bel w1=>hclose_hit (hT1.below X.h) nH.out nH.out.lt)
 have g1H:=Lib.hid g1
 have g2H:=Lib.hid g2
 have g3H:=Lib.hid g3
 clear g1 g2 g3 hT1
 go_wp2_with fail
 refine(hC.out ⟨w1,Below.refl _ _⟩).mono ?_
 rintro e w2 ⟨rfl,t1,t2⟩
 have t1H:=Lib.hid t1
 have t2H:=Lib.hid t2
 clear t1 t2
 go_wp2
 go_ret
 have hre:RecAt L mem x (sl[k]'nH.out.lt).addr ws:=by rw [haH.out];exact hrH.out
 obtain⟨u1,u2⟩:=hH.out.drop nH.out hRH.out hre g1H.out g2H.out (by rw [haH.out];exact g3H.out) t1H.out t2H.out
 exact⟨_,rfl,⟨_,_,_,_,_,_,_,_,u1⟩,u2⟩
theorem inj_of_nodup_map{α β:Type}{f:α→β}: ∀{l:List α},(l.map f).Nodup→ ∀{x y:α},x∈l→y∈l→f x=f y→x=y
 | [],_,x,y,hx,_,_=>by simp at hx
 |z::t,hn,x,y,hx,hy,he=>by
  rw [List.map_cons,List.nodup_cons] at hn
  rcases List.mem_cons.1 hx with e1|h1
  · rcases List.mem_cons.1 hy with e2|h2
    · rw [e1,e2]
    · exact absurd (List.mem_map.2 ⟨y,h2,by rw [←he,e1]⟩) hn.1
  · rcases List.mem_cons.1 hy with e2|h2
    · exact absurd (List.mem_map.2 ⟨x,h1,by rw [he,e2]⟩) hn.1
    · exact inj_of_nodup_map hn.2 h1 h2 he
def WordsR(R:Nat→Option (List Nat))(H:List Nat)(P n:Nat):Prop:= ∃p,n=64*p∧p≤P∧(H= []→p=0)∧(H.map fun x=>((R x).getD []).length+2).sum≤64*p
theorem runs_nil_of_blocks{L:HL}(hl:Lay L)(h:blocks L= []):runs L= []:=by
 cases L with
 |nil=>rfl
 |cons x t=>
  exfalso
  have hok:=hl.ok x List.mem_cons_self
  obtain⟨p,hd⟩:=x
  have:blocksOf (p,hd)= []:=by
   have:=(List.append_eq_nil_iff.1 (show blocksOf (p,hd)++blocks t= [] from h)).1
   exact this
  cases hd with
  |large w=>simp [blocksOf] at this
  |small c m=>
   obtain⟨h1,h2,h3⟩:=hok
   apply h2
   apply Nat.eq_of_testBit_eq
   intro j
   rw [Nat.zero_testBit]
   by_cases hj:j<slotsN c
   · cases hb:m.testBit j with
     |false=>rfl
     |true=>
      have hm:j∈slotsOf c m:=mem_slotsOf.2 ⟨hj,hb⟩
      simp only [blocksOf,List.map_eq_nil_iff] at this
      rw [this] at hm;simp at hm
   · exact Nat.testBit_lt_two_pow (Nat.lt_of_lt_of_le h3 (Nat.pow_le_pow_right (by omega) (by omega)))
theorem sum_perm{l l' :List Nat}(h:l.Perm l'):l.sum=l'.sum:=h.sum_nat
theorem StIn.words{a ha t:Nat}{v:Value}{L:HL}{mem:Nat→Nat}{sl:List Sl}{Fh:Nat→Prop}(h:StIn w s F R H P q most last G a ha t v L mem sl Fh):WordsR R H P (64*(runs L).length):=by
 refine⟨(runs L).length,rfl,h.pages,fun hH=> ?_, ?_⟩
 · have h1:=h.perm.length_eq
   rw [hH,List.length_map] at h1
   rw [runs_nil_of_blocks h.heap.lay (List.eq_nil_of_length_eq_zero h1.symm)];rfl
 · refine Nat.le_trans ?_ (words_of_blocks (L:=L) h.heap.lay.ok)
   rw [sum_perm (h.perm.map _),List.map_map]
   obtain⟨g,hg⟩: ∃g:Nat × Nat→Nat,g=fun b=>((R (mem b.1)).getD []).length+2:=⟨_,rfl⟩
   have hle: ∀l:List (Nat × Nat),(∀b∈l,b∈blocks L)→(l.map g).sum≤(l.map (·.2)).sum:=by
    intro l
    induction l with
    |nil=>intro _;simp
    |cons b t ih=>
     intro hb
     have h1:=ih (fun c hc=>hb c (List.mem_cons_of_mem _ hc))
     have hbm:=hb b List.mem_cons_self
     have hx:mem b.1∈H:=h.perm.mem_iff.2 (List.mem_map.2 ⟨b,hbm,rfl⟩)
     obtain⟨k,n⟩:=(h.inH _).1 hx
     obtain⟨ws,h2,h3⟩:=h.link _ k n
     have h4:=bszN_ge (ws.length+2)
     have hnd:((blocks L).map fun b=>mem b.1).Nodup:=h.perm.nodup_iff.1 h.nodup
     have h5:b=((sl[k]'n.lt).addr,bszN (ws.length+2)):=inj_of_nodup_map hnd hbm h3.blk h3.h0.symm
     have h6:b.2=bszN (ws.length+2):=congrArg Prod.snd h5
     have h7:g b=ws.length+2:=by rw [hg];simp only;rw [h2];rfl
     simp only [List.map_cons,List.sum_cons]
     omega
   rw [show((fun x=>((R x).getD []).length+2) ∘ fun b:Nat × Nat=>mem b.1)=g from hg.symm]
   exact hle _ (fun b hb=>hb)
end
section
variable {w w' :World} {s:Nat} {F:Nat→Prop} {R:Nat→Option (List Nat)} {H:List Nat} {P q most last G:Nat}
end
theorem tab_lt{w:World}(h:Tab w):1<w.heap.size:=cell_lt (a:=⟨1,0,none⟩) (h 0 (by decide))
set_option maxRecDepth 100000 in
theorem snew_at{w:World}(hT:Tab w)(q most last:Nat)(hq:q≤262144)(h1:1≤most)(h2:most≤65536)(h3:1≤last)(h4:last<4294967296):
 Calls Tryz.prog 6 #[.int .i64 (q:Nat), .int .i64 (most:Nat), .int .u32 (last:Nat)] w fun e w' => ∃s F,e= .returned (.tuple #[.pointer (some ⟨s,0,none⟩), .int .i64 0])∧StoreIs w' s F (fun _=>none) [] 0 q most last 0∧w.heap.size≤s∧(∀b,F b→w.heap.size≤b)∧Below w.heap.size w w' :=by
 have htl:=tab_lt hT
 have hTH:=Lib.hid hT
 clear hT
 go_enter Tryz.func6,Tryz.ntmps6
 go_wp2_with fail
 refine(slabNew_at q hq _).mono ?_
 rintro e w1 ⟨a,mb,rfl,hS1,ha1,hmb1,hb1⟩
 have hS1H:=Lib.hid hS1
 have hb1H:=Lib.hid hb1
 clear hS1 hb1
 go_wp2_with fail
 refine(hnew_at most last h1 h2 h3 h4 _).mono ?_
 rintro e w2 ⟨t,rfl,hT2,ht2,hb2⟩
 have hT2H:=Lib.hid hT2
 have hb2H:=Lib.hid hb2
 have hS2H:=Lib.hid (hS1H.out.below hb2 (fun b hb=>hS1H.out.lt hb))
 have hbw2:=Lib.hid (hb1H.out.trans (hb2.mono hb1H.out.size))
 clear hT2 hb2
 go_wp2_with fail
 refine(heapNew_at hS2H.out (hTH.out.below hbw2.out htl) (fun b hb=> ?_)).mono ?_
 · rcases hb with rfl|rfl|⟨p,hp⟩
   · omega
   · omega
   · cases hp
 rintro e w3 ⟨ha,rfl,hH3,hha3,hb3⟩
 have hH3H:=Lib.hid hH3
 have hb3H:=Lib.hid hb3
 have hT3H:=Lib.hid (hT2H.out.below hb3)
 clear hH3 hb3
 go_wp2
 go_ret2
 have hbN:Below w3.heap.size w3 (w3.alloc (.cells #[.int .i64 (most:Nat), .int .u32 (last:Nat), .pointer (some ⟨a,0,none⟩), .pointer (some ⟨ha,0,none⟩), .pointer (some ⟨t,0,none⟩)] 71)):=(Below.refl _ _).alloc (Nat.le_refl _) _
 have hsz1:=hb1H.out.size
 have hsz2:=hb2H.out.size
 have hsz3:=hb3H.out.size
 have ha_lt:=hS1H.out.lt (.inl rfl:SlabF a mb (.map []) a)
 have hmb_lt:=hS1H.out.lt (.inr (.inl rfl):SlabF a mb (.map []) mb)
 have ht_lt:=hT2H.out.lt (.inl rfl:HTabF t (.slice none 0 0) t)
 have hha_lt:=hH3H.out.off.2.1
 have hF: ∀b,SlabF a mb (.map []) b→b=a∨b=mb:=fun b hb=>by
  rcases hb with h|h|⟨p,hp⟩
  · exact .inl h
  · exact .inr h
  · cases hp
 have hG: ∀b,HTabF t (.slice none 0 0) b→b=t:=fun b hb=>by
  rcases hb with h|h
  · exact h
  · simp [Value.ownBlock] at h
 refine⟨w3.heap.size,fun b=>SlabF a mb (.map []) b∨HTabF t (.slice none 0 0) b,rfl,⟨a,ha,t, .slice none 0 0,[],fun _=>0,[],SlabF a mb (.map []),{
  ca:=by go_simp
  ch:=by go_simp
  ct:=by go_simp
  heap:=hH3H.out.below hbN
  tab:=hT3H.out.below hbN
  F_eq:=rfl
  apart:=fun b hb hg=>by have h1:=hG b hg;rcases hF b hb with h2|h2<;>omega
  soff:=fun hf=>by
   rcases hf with hf|hf
   · rcases hF _ hf with h2|h2<;>omega
   · have:=hG _ hf;omega
  haoff:=fun hf=>by have:=hG _ hf;omega
  tboff:=fun b hb=>by have:=hG b hb;omega
  link:=fun h k n=>absurd n.lt (by simp)
  inH:=fun h=>⟨fun hm=>by simp at hm,fun⟨k,n⟩=>absurd n.lt (by simp)⟩
  none' :=fun _ _=>rfl
  perm:=List.Perm.refl _
  nodup:=List.Pairwise.nil
  pages:=by simp [runs]
  gens:=fun x hx=>by simp at hx
  ret:=fun x hx=>by simp at hx }⟩,by omega,fun b hb=>by
   rcases hb with hb|hb
   · rcases hF b hb with h2|h2<;>omega
   · have:=hG b hb;omega, ?_⟩
 exact hbw2.out.trans ((hb3H.out.mono (by omega)).trans (hbN.mono (by omega)))
theorem HTab.kb{Cs:Nat→Prop}{w w' :World}{t most last:Nat}{v:Value}{sl:List Sl}(h:HTab w t v most last sl)(hk:KB Cs w w')(hc: ∀b,HTabF t v b→ ¬Cs b):HTab w' t v most last sl:=
 h.same fun b hF=>by
  have hn:=hc b hF
  rcases hF with rfl|hF
  · obtain⟨o,ho,h4⟩:=cell_obj h.c0
    exact(hk.same _ o ho (.inl h4) hn).trans ho.symm
  · rcases h.row.2 with ⟨h1,_⟩|⟨g,cap,cur,h1,h2,h3,h4⟩
    · rw [h1] at hF;simp [Value.ownBlock] at hF
    · rw [h1] at hF
      have:g=b:=by simpa [Value.ownBlock] using hF
      subst this
      exact(hk.same _ _ h3 (.inl rfl) hn).trans h3.symm
theorem HeapIs.kb{Cs:Nat→Prop}{w w' :World}{ha a q:Nat}{F:Nat→Prop}{L:HL}{mem:Nat→Nat}(h:HeapIs w ha a F L q mem)(hk:KB Cs w w')(h1: ∀k,F k→ ¬Cs k)(h2: ¬Cs ha)(h3: ¬Cs 1):HeapIs w' ha a F L q mem:=by
 obtain⟨⟨mb,D,k1,rfl⟩,k2,k3⟩:=h
 exact⟨⟨mb,D,k1.kb hk (fun k hc hf=>h1 k hf hc) h2 h3,rfl⟩,k2,k3⟩
def Rd(N:Nat)(w:World)(s:Nat)(R:Nat→Option (List Nat))(n:Nat):Prop:=
 ∃F H P q most last G a ha t v L mem sl Fh,StIn w s F R H P q most last G a ha t v L mem sl Fh∧n=64*(runs L).length∧(∀b,F b→b<N)∧s<N∧ha<N∧1<N
section
variable {w w' :World} {s N:Nat} {F:Nat→Prop} {R:Nat→Option (List Nat)} {H:List Nat} {P q most last G n:Nat}
theorem Rd.below(h:Rd N w s R n)(hb:Below w.heap.size w w'):Rd N w' s R n:=by
 obtain⟨F,H,P,q,most,last,G,a,ha,t,v,L,mem,sl,Fh,h,hn⟩:=h
 exact⟨F,H,P,q,most,last,G,a,ha,t,v,L,mem,sl,Fh,h.below hb,hn⟩
theorem Rd.mono{N' :Nat}(h:Rd N w s R n)(hN:N≤N'):Rd N' w s R n:=by
 obtain⟨F,H,P,q,most,last,G,a,ha,t,v,L,mem,sl,Fh,h,hn,h1,h2,h3,h4⟩:=h
 exact⟨F,H,P,q,most,last,G,a,ha,t,v,L,mem,sl,Fh,h,hn,fun b hb=>Nat.lt_of_lt_of_le (h1 b hb) hN,by omega,by omega,by omega⟩
theorem Rd.kb{Cs:Nat→Prop}(h:Rd N w s R n)(hk:KB Cs w w')(hc: ∀k,Cs k→N≤k):Rd N w' s R n:=by
 obtain⟨F,H,P,q,most,last,G,a,ha,t,v,L,mem,sl,Fh,h,hn,h1,h2,h3,h4⟩:=h
 have hno: ∀b,b<N→ ¬Cs b:=fun b hb hcb=>by have:=hc b hcb;omega
 have hF:=h.F_eq
 refine⟨F,H,P,q,most,last,G,a,ha,t,v,L,mem,sl,Fh,{ h with
  ca:=hk.cell h.ca (hno _ h2)
  ch:=hk.cell h.ch (hno _ h2)
  ct:=hk.cell h.ct (hno _ h2)
  heap:=h.heap.kb hk (fun k hf=>hno k (h1 k (by rw [hF];exact .inl hf))) (hno _ h3) (hno _ h4)
  tab:=h.tab.kb hk (fun k hf=>hno k (h1 k (by rw [hF];exact .inr hf))) },hn,h1,h2,h3,h4⟩
theorem StoreIs.rd(h:StoreIs w s F R H P q most last G): ∃n,Rd w.heap.size w s R n∧WordsR R H P n:=by
 obtain⟨a,ha,t,v,L,mem,sl,Fh,h⟩:=h
 refine⟨_,⟨F,H,P,q,most,last,G,a,ha,t,v,L,mem,sl,Fh,h,rfl,fun b hb=>h.lt hb,cell_lt (a:=⟨s,2,none⟩) h.ca, ?_, ?_⟩,h.words⟩
 · obtain⟨⟨mb,D,k1,rfl⟩,k2,k3⟩:=h.heap
   exact cell_lt k1.hs
 · obtain⟨⟨mb,D,k1,rfl⟩,k2,k3⟩:=h.heap
   exact cell_lt (a:=⟨1,0,none⟩) (k1.tab 0 (by decide))
theorem Rd.is(h:Rd N w s R n): ∃F H P q most last G,StoreIs w s F R H P q most last G:=by
 obtain⟨F,H,P,q,most,last,G,a,ha,t,v,L,mem,sl,Fh,h,_⟩:=h
 exact⟨F,H,P,q,most,last,G,a,ha,t,v,L,mem,sl,Fh,h⟩
theorem Rd.here(h:Rd N w s R n):Rd w.heap.size w s R n:=by
 obtain⟨F,H,P,q,most,last,G,a,ha,t,v,L,mem,sl,Fh,h,hn,h1,h2,h3,h4⟩:=h
 refine⟨F,H,P,q,most,last,G,a,ha,t,v,L,mem,sl,Fh,h,hn,fun b hb=>h.lt hb,cell_lt (a:=⟨s,2,none⟩) h.ca, ?_, ?_⟩
 · obtain⟨⟨mb,D,k1,rfl⟩,k2,k3⟩:=h.heap
   exact cell_lt k1.hs
 · obtain⟨⟨mb,D,k1,rfl⟩,k2,k3⟩:=h.heap
   exact cell_lt (a:=⟨1,0,none⟩) (k1.tab 0 (by decide))
theorem Rd.s_lt(h:Rd N w s R n):s<N:=by
 obtain⟨F,H,P,q,most,last,G,a,ha,t,v,L,mem,sl,Fh,h,hn,h1,h2,h3,h4⟩:=h
 exact h2
theorem Rd.le(h:Rd N w s R n):n≤262144:=by
 obtain⟨F,H,P,q,most,last,G,a,ha,t,v,L,mem,sl,Fh,h,rfl,_⟩:=h
 obtain⟨⟨mb,D,k1,rfl⟩,k3,k4⟩:=h.heap
 have h1:=k1.sl.room;have h2:=k1.sl.quota;rw [k1.sl.count] at h1;omega
theorem Rd.u64(h:Rd N w s R n){x:Nat}{ws:List Nat}(hR:R x=some ws):x<18446744073709551616∧ws.length≤3998∧ ∀i (hi:i<ws.length),ws[i]<18446744073709551616:=by
 obtain⟨F,H,P,q,most,last,G,a,ha,t,v,L,mem,sl,Fh,h,_⟩:=h
 obtain⟨k,nm,hr⟩:=h.record hR
 obtain⟨⟨mb,D,k1,rfl⟩,k3,k4⟩:=h.heap
 exact⟨h.R64 hR,hr.len,fun i hi=>hr.wd i hi▸k1.sl.word _⟩
theorem rlen_at(h:Rd N w s R n)(x:Nat)(hx:x<18446744073709551616):
 Calls Tryz.prog 43 #[.pointer (some ⟨s,0,none⟩), .int .u64 (x:Nat)] w fun e w' =>e= .returned (lenR R x)∧w=w' :=by
 obtain⟨F,H,P,q,most,last,G,h⟩:=h.is
 exact slen_at h x hx
theorem rget_at(h:Rd N w s R n){x i:Nat}{ws:List Nat}(hR:R x=some ws)(hi:i<ws.length):
 Calls Tryz.prog 46 #[.pointer (some ⟨s,0,none⟩), .int .u64 (x:Nat), .int .i64 (i:Nat)] w fun e w' =>e= .returned (.tuple #[.int .u64 (ws[i]:Nat), .int .i64 0])∧w=w' :=by
 obtain⟨F,H,P,q,most,last,G,h⟩:=h.is
 exact sget_at h hR hi
set_option maxRecDepth 100000 in
theorem rwords_at(h:Rd N w s R n):
 Calls Tryz.prog 68 #[.pointer (some ⟨s,0,none⟩)] w fun e w' =>e= .returned (.int .i64 (n:Nat))∧Below w.heap.size w w' :=by
 obtain⟨F,H,P,q,most,last,G,a,ha,t,v,L,mem,sl,Fh,h,rfl,_⟩:=h
 have hN:=Lib.hid (snone_at h)
 have hca:=h.ca
 obtain⟨⟨mb,D,k1,rfl⟩,k3,k4⟩:=h.heap
 have hP:=Lib.hid (pages_row k1.sl (runs_rise k3))
 have hle:64*(runs L).length≤262144:=by have h1:=k1.sl.room;have h2:=k1.sl.quota;rw [k1.sl.count] at h1;omega
 have hlen4:(runs L).length≤4096:=by omega
 generalize (runs L).length=n at*
 clear h k1 k3 k4
 go_enter Tryz.func68,Tryz.ntmps68
 go_wp2_with fail
 refine hN.out.mono ?_
 rintro e w' ⟨rfl,rfl⟩
 go_wp2_with fail
 refine hP.out.mono ?_
 rintro e w1 ⟨v,rfl,hrow,hb⟩
 obtain⟨A,c,rfl⟩:=ownsRow_form hrow
 have hbH:=Lib.hid hb
 clear hrow hb
 go_wp2
 go_ret
 exact⟨by rw [show((64*n:Nat):Int)=(n:Int)*64 by push_cast;omega];rfl,hbH.out⟩
end
end Go.Proofs.YthcmecokejemcaaGreatDoor
