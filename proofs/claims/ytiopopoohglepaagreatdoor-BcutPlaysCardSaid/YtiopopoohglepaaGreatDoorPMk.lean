/- A part. -/
import Derived.Test.YtiopopoohglepaaGreatDoorPMj
import Derived.Defers
set_option linter.all false
set_option maxRecDepth 100000
set_option maxHeartbeats 2000000
namespace Go.Proofs.YtiopopoohglepaaGreatDoor
open Go.Proofs.Tryz
open Go.RowKit Go.Shelf
variable {Cs F Fh:Nat->Prop}{a addr ha last most q t x:Nat}{mem:Nat->Nat}{v:Value}{w w':World}{ws:List Nat}
theorem Us{L:HL}(h:Bm w ha a F L q mem)(n:Nat)(U:1<=n)(O:n<=4000):
 Calls prog 54 #[.pointer (some ⟨ha,0,none⟩), .int .i64 n] w λe w' =>
  (∃addr F' L' mem',e= .returned (.tuple #[.int .i64 (addr:Nat), .int .i64 0])/\Bm w' ha a F' L' q mem' /\Ad w F w' F' /\TU L mem addr n L' mem' /\addr<40000000)\/
  (e= .returned (.tuple #[.int .i64 0, .int .i64 3])/\Below w.heap.size w w' /\q<((runs L).length+CD n)*64):=by
 by_cases I:n<=28
 . refine(QZ h n U I).mono λe w' hh=> ?_
   rw [show CD n=1 from if_pos I];exact hh
 . rw [show CD n=(n+65)/64 from if_neg I]
   by_cases V:((runs L).length+(n+65)/64)*64<=q
   . exact(QY h n (by omega) O V).mono λe w' ⟨addr,F',L',mem',h1,J,Z,aa,ab⟩=> .inl ⟨addr,F',L',mem',h1,J,Z,aa,by omega⟩
   . exact(KK h n (by omega) O (by omega)).mono λe w' ⟨h1,J⟩=> .inr ⟨h1,J,by omega⟩
def K5(Q:Exit->Act->World->Prop):Exit->Act->World->Prop
 | .panic _,_,_=>False
 |e,a,w=>Q e a w
theorem Mr{P:Program}{c:Code}{Q:Exit->Act->World->Prop}{a:Act}(h:c.wp P (K5 Q) a w):c.wp P Q a w:=
 wp_mono h (λe a w hh=>by cases e<;>first|exact hh|exact hh.elim)
def Yg(w:World)(t:Nat)(v:Value)(most last:Nat)(sl:List Sl)(addr hv er:Nat)(w' :World):Prop:=
 (er=0/\ ∃k g v' sl',GX sl addr k g sl' /\hv=Bd g k/\BV w' t v' most last sl' /\Ad w (A7 t v) w' (A7 t v'))\/
 (er=10/\hv=0/\sl.length=most/\(∀s∈sl,s.is≠0)/\w=w')
theorem To{sl:List Sl}(J:BV w t v most last sl)(addr:Nat)(ha:addr<1099511627776):
 Calls prog 57 #[.pointer (some ⟨t,0,none⟩), .int .i64 addr] w λe w' => ∃I er:Nat,e= .returned (.tuple #[.int .u64 I, .int .i64 er])/\Yg w t v most last sl addr I er w' :=by
 refine(WZ J addr ha).mono ?_;rintro e w' (⟨k,g,v',sl',h1,rfl,O,U⟩|⟨h1,V,rfl,rfl⟩)
 . exact⟨Bd g k,0,rfl, .inl ⟨rfl,k,g,v',sl',h1,rfl,O,U⟩⟩
 . exact⟨0,10,rfl, .inr ⟨rfl,rfl,h1,V,rfl⟩⟩
theorem Rq{sl:List Sl}{V er:Nat}(h:Yg w t v most last sl addr V er w'){b:Nat}{x:Value}(J: ¬A7 t v b)(I:w.cell? ⟨b,0,none⟩=some x)(O:w.frozen? ⟨b,0,none⟩=false):
 w'.cell? ⟨b,0,none⟩=some x/\w'.frozen? ⟨b,0,none⟩=false:=by
 rcases h with ⟨_,k,g,v',sl',_,_,_,U⟩|⟨_,_,_,_,rfl⟩
 . exact⟨U.cell I J,(World.frozen?_of_block (a:=⟨b,0,none⟩) (U.keep b (Am I) J)).trans O⟩
 . exact⟨I,O⟩
theorem WR(E S A:Addr)(u:FrameMode)(w:World)(J:w.cell? E=some (.int .i64 0)):
 CallsD prog 55 #[.pointer (some E), .pointer (some S), .pointer (some A)] u w λe I w' =>I =u/\(e= .returned (.tuple #[])/\w=w'):=by
 go_enter_d func55,ntmps55
 go_wp2;go_end0;exact⟨rfl,rfl⟩
theorem U8(E S A:Addr)(u:FrameMode)(w:World)(er:Nat)(aa:er≠0)(ab:w.cell? E=some (.int .i64 er)){s:Nat}(O:w.cell? S=some (.pointer (some ⟨s,0,none⟩)))(hA:w.cell? A=some (.int .i64 addr))
 (hh:w.cell? ⟨s,3,none⟩=some (.pointer (some ⟨ha,0,none⟩))) {Q:World->Prop} (I: ∀X:BK w,Calls prog 56 #[.pointer (some ⟨ha,0,none⟩), .int .i64 addr] X.W λe w' => ∃z,e= .returned z/\Q w'):
 CallsD prog 55 #[.pointer (some E), .pointer (some S), .pointer (some A)] u w λe U w' =>U =u/\(e= .returned (.tuple #[])/\Q w'):=by
 have d1:((er:Int) !=0)=true:=by simp;omega
 have ac:=λX:BK w=>X.cell O
 have ae:=λX:BK w=>X.cell hA
 have af:=λX:BK w=>X.cell hh
 have V:=Zh I;clear I
 go_enter_d func55,ntmps55
 go_wp2_with fail;refine C2 5 (by kernel_rfl) (by kernel_rfl) ?_;simp only [List.take_succ_cons,List.take_zero,List.drop_succ_cons,List.drop_zero]
 repeat (go_big_quiet_step (fail))
 refine wpQuiet_nil ?_;rintro _ ⟨X,rfl⟩;go_wp2_with fail;refine(V X).mono ?_;rintro e w' ⟨z,rfl,J⟩;have Z:=Zh J;clear J;go_wp2;go_end0;exact⟨rfl,Z⟩
theorem Ad.Ob{W W':World}{A I G G' :Nat->Prop}(h:Ad w A W I)(g:Ad W G W' G')(O: ∀b,G b->w.heap.size<=b):Ad w A W' I :=
 ⟨g.os.trans h.os,g.tape.trans h.tape,g.output.trans h.output,Nat.le_trans h.size g.size,λk J U=>(g.keep k (Nat.lt_of_lt_of_le J h.size) (λV=>by have:=O k V;omega)).trans (h.keep k J U),h.grow⟩
structure MK(W:World)(s a ha t:Nat)(v:Value)(most last q:Nat)(Fh:Nat->Prop)(L:HL)(mem:Nat->Nat)(sl:List Sl)(E A:Nat)(er addr:Nat):Prop where
 ca:W.cell? ⟨s,2,none⟩=some (.pointer (some ⟨a,0,none⟩))
 ch:W.cell? ⟨s,3,none⟩=some (.pointer (some ⟨ha,0,none⟩))
 ct:W.cell? ⟨s,4,none⟩=some (.pointer (some ⟨t,0,none⟩))
 heap:Bm W ha a Fh L q mem
 tab:BV W t v most last sl
 cS: ∃S,E=S+1/\W.cell? ⟨S,0,none⟩=some (.pointer (some ⟨s,0,none⟩))
 cE:W.cell? ⟨E,0,none⟩=some (.int .i64 er)
 fE:W.frozen? ⟨E,0,none⟩=false
 cA:W.cell? ⟨A,0,none⟩=some (.int .i64 addr)
 nE: ¬Fh E/\ ¬A7 t v E/\E≠s/\E≠ha/\E≠A/\1<E
 nA: ¬Fh A/\ ¬A7 t v A
 nS: ¬Fh (E-1)/\ ¬A7 t v (E-1)
 ns: ¬Fh s/\ ¬A7 t v s
 ap: ∀b,Fh b-> ¬A7 t v b
 hh: ¬A7 t v ha
 tb: ∀b,A7 t v b->1<b
section
variable {W W':World} {s:Nat} {v':Value}  {Fh':Nat->Prop} {L L':HL} {mem':Nat->Nat} {sl sl':List Sl} {E A er:Nat}
theorem MK.below(h:MK W s a ha t v most last q Fh L mem sl E A er addr)(I:Below W.heap.size W W'):MK W' s a ha t v most last q Fh L mem sl E A er addr:=
 { h with
   ca:=(I.cell (p:=⟨s,2,none⟩) (Am h.ca)).trans h.ca
   ch:=(I.cell (p:=⟨s,3,none⟩) (Am h.ch)).trans h.ch
   ct:=(I.cell (p:=⟨s,4,none⟩) (Am h.ct)).trans h.ct
   heap:=h.heap.below I
   tab:=h.tab.below I
   cS:=by obtain⟨S,h1,J⟩:=h.cS;exact⟨S,h1,(I.cell (p:=⟨S,0,none⟩) (Am J)).trans J⟩
   cE:=(I.cell (p:=⟨E,0,none⟩) (Am h.cE)).trans h.cE
   fE:=(I.frozen (p:=⟨E,0,none⟩) (Am h.cE)).trans h.fE
   cA:=(I.cell (p:=⟨A,0,none⟩) (Am h.cA)).trans h.cA }
theorem MK.RR(h:MK W s a ha t v most last q Fh L mem sl E A er addr)(J :Nat):MK (W.setCell ⟨E,0,none⟩ (.int .i64 (J :Nat))) s a ha t v most last q Fh L mem sl E A J addr:=by
 have I:Ad W (λb=>b=E) (W.setCell ⟨E,0,none⟩ (.int .i64 (J :Nat))) (λb=>b=E):=BJ _ _ rfl;obtain⟨n1,n2,n3,U,n5,n6⟩:=h.nE
 exact { h with
  ca:=I.cell h.ca (λe=>n3 e.symm)
  ch:=I.cell h.ch (λe=>n3 e.symm)
  ct:=I.cell h.ct (λe=>n3 e.symm)
  heap:=h.heap.Aq I (λb O e=>n1 (e▸O)) (λe=>U e.symm) (λe=>by omega)
  tab:=h.tab.Aq I (λb O e=>n2 (e▸O))
  cS:=by obtain⟨S,h1,V⟩:=h.cS;exact⟨S,h1,I.cell V (λe=>by simp only at e;omega)⟩
  cE:=World.cell?_setCell_same' _ _ _ (by rw [h.cE];rfl)
  fE:=by simpa using h.fE
  cA:=I.cell h.cA (λe=>n5 e.symm) }
theorem MK.Jq(h:MK W s a ha t v most last q Fh L mem sl E A er addr)(hh:Bm W' ha a Fh' L' q mem')(I:Ad W Fh W' Fh'):MK W' s a ha t v most last q Fh' L' mem' sl E A er addr:=by
 have U:=Am h.cE;have ab:=Am h.cA;have ac:=Am h.ca;obtain⟨S,e,V⟩:=h.cS;have ae:=Am V;have Z: ¬Fh S:=by have:=h.nS.1;rwa [e,Nat.add_sub_cancel] at this
 exact { h with
  ca:=I.cell h.ca h.ns.1
  ch:=I.cell h.ch h.ns.1
  ct:=I.cell h.ct h.ns.1
  heap:=hh
  tab:=h.tab.Aq I (λb J O=>h.ap b O J)
  cS:=⟨S,e,I.cell V Z⟩
  cE:=I.cell h.cE h.nE.1
  fE:=(World.frozen?_of_block (a:=⟨E,0,none⟩) (I.keep E U h.nE.1)).trans h.fE
  cA:=I.cell h.cA h.nA.1
  nE:=⟨I.not U h.nE.1,h.nE.2⟩
  nA:=⟨I.not ab h.nA.1,h.nA.2⟩
  nS:=⟨by rw [e,Nat.add_sub_cancel];exact I.not ae Z,h.nS.2⟩
  ns:=⟨I.not ac h.ns.1,h.ns.2⟩
  ap:=λb J aa=>I.not (h.tab.lt aa) (λO=>h.ap b O aa) J }
theorem MK.Ya(h:MK W s a ha t v most last q Fh L mem sl E A er addr)(aa:BV W' t v' most last sl')(I:Ad W (A7 t v) W' (A7 t v')):MK W' s a ha t v' most last q Fh L mem sl' E A er addr:=by
 have U:=Am h.cE;have ab:=Am h.cA;have ac:=Am h.ca;obtain⟨S,e,V⟩:=h.cS;have ae:=Am V;have Z: ¬A7 t v S:=by have:=h.nS.2;rwa [e,Nat.add_sub_cancel] at this
 have J:=h.heap.off;have ah:1<W.heap.size:=Nat.lt_trans (J.2.2.2 a J.2.2.1) (h.heap.lt J.2.2.1);have af : ∀b,Fh b-> ¬A7 t v' b:=λb O=>I.not (h.heap.lt O) (h.ap b O)
 exact { h with
  ca:=I.cell h.ca h.ns.2
  ch:=I.cell h.ch h.ns.2
  ct:=I.cell h.ct h.ns.2
  heap:=h.heap.Aq I h.ap h.hh (λag=>Nat.lt_irrefl _ (h.tb _ ag))
  tab:=aa
  cS:=⟨S,e,I.cell V Z⟩
  cE:=I.cell h.cE h.nE.2.1
  fE:=(World.frozen?_of_block (a:=⟨E,0,none⟩) (I.keep E U h.nE.2.1)).trans h.fE
  cA:=I.cell h.cA h.nA.2
  nE:=⟨h.nE.1,I.not U h.nE.2.1,h.nE.2.2⟩
  nA:=⟨h.nA.1,I.not ab h.nA.2⟩
  nS:=⟨h.nS.1,by rw [e,Nat.add_sub_cancel];exact I.not ae Z⟩
  ns:=⟨h.ns.1,I.not ac h.ns.2⟩
  ap:=af
  hh:=I.not J.2.1 h.hh
  tb:=λb O=>(I.grow b O).elim (λh1=>h.tb b h1) (λh1=>by omega) }
end
section
variable  {s:Nat}  {R:Zr} {H:List Nat} {P G:Nat}
theorem I3{α:Type} [DecidableEq α]: ∀(l H:List α),l.Nodup->(∀x∈l,x∈H)->l.length<=H.length
 | [],H,_,_=>Nat.zero_le _
 |x::t,H,hn,hs=>by
  have hx:=hs x List.mem_cons_self;rw [List.nodup_cons] at hn;have h1:=I3 t (H.erase x) hn.2 (λy I=>(List.mem_erase_of_ne (λ(e:y=x)=>hn.1 (e▸I))).2 (hs y (List.mem_cons_of_mem _ I)));rw [List.length_erase_of_mem hx] at h1;have:=List.length_pos_of_mem hx;simp only [List.length_cons];omega
theorem Ch.SR{L:HL}{sl:List Sl}(h:Ch w s F R H P q most last G a ha t v L mem sl Fh)(ac:sl.length=most)(U: ∀x∈sl,x.is≠0):most<=H.length\/last<=G:=by
 by_cases J: ∃x∈sl,x.is=2
 . obtain⟨x,hx,V⟩:=J
   right
   rw [<-h.ret x hx V];exact h.Jv x hx
 . left
   have h1: ∀k (I:k<sl.length),Names sl (Bd sl[k].gen k) k:=λk I=>by
    refine⟨I,λ_=> ?_,λ_=>rfl⟩;have ae:=(h.tab.ok _ (List.getElem_mem I)).is;have a2:=U _ (List.getElem_mem I);have a3:sl[k].is≠2:=(λe=>J ⟨_,List.getElem_mem I,e⟩);omega
   have Z:=I3 ((List.range sl.length).map λk=>Bd ((sl[k]?).getD ⟨0,0,0⟩).gen k) H ?_ ?_
   . rw [List.length_map,List.length_range] at Z;omega
   . refine List.pairwise_map.2 (List.Pairwise.imp_of_mem (R:=λa b=>a<b) (λ{a b} ha aa af=> ?_) List.pairwise_lt_range)
     intro e;have:=HG (h.SY (by simpa using ha)) (h.SY (by simpa using aa)) e;omega
   . intro y ab
     obtain⟨k,I,rfl⟩:=List.mem_map.1 ab;have O :k<sl.length:=(by simpa using I);rw [List.getElem?_eq_getElem O];exact(h.LJ _).2 ⟨k,h1 k O⟩
def AbQ(w:World)(s:Nat)(F:Nat->Prop)(R:Zr)(H:List Nat)(P q most last G n:Nat)(e:Ending)(w' :World):Prop:=
 (∃x F',R x=none/\x≠0/\x<18446744073709551616/\e= .returned (.tuple #[.int .u64 (x:Nat), .int .i64 0])/\Ah w' s F' (AQ R x (some (List.replicate n 0))) (x::H) (P+CD (n+2)) q most last (G+1)/\Ad w F w' F')\/
 (∃er F',e= .returned (.tuple #[.int .u64 0, .int .i64 (er:Nat)])/\((er=3/\q<(P+CD (n+2))*64)\/(er=10/\(most<=H.length\/last<=G)))/\Ah w' s F' R H (P+CD (n+2)) q most last G/\Ad w F w' F')
def Ypa{P}(h:P:=by
 have I:(addr,Du (n+2))∈blocks L1:=J.perm.mem_iff.2 List.mem_cons_self;exact I):=h
theorem Pu(h:Ah w s F R H P q most last G)(n:Nat)(bu:n<=3998):
 Calls prog 19 #[.pointer (some ⟨s,0,none⟩), .int .i64 n] w (AbQ w s F R H P q most last G n):=by
 obtain⟨a,ha,t,v,L,mem,sl,Fh,h⟩:=h;have U:=Zh h;have bv:=ZC;have d1:decide ((n:Int)<0)=false:=by simp
 have d2:decide ((3998:Int)<(n:Int))=false:=by simp;omega
 clear h
 go_enter_defers func19,ntmps19
 go_wp2_with fail;have aA:Below w.heap.size w ((w.alloc (Obj.cells #[Value.pointer (some { block:=s,off:=0 })] 24)).alloc (Obj.cells #[Value.int IntKind.i64 0] 25)):=((Below.refl _ w).alloc (Nat.le_refl _) _).alloc (by simp) _;have a1:((w.alloc (Obj.cells #[Value.pointer (some { block:=s,off:=0 })] 24)).alloc (Obj.cells #[Value.int IntKind.i64 0] 25)).cell? ⟨w.heap.size,0,none⟩=some (.pointer (some ⟨s,0,none⟩)):=by go_simp
 have ao:((w.alloc (Obj.cells #[Value.pointer (some { block:=s,off:=0 })] 24)).alloc (Obj.cells #[Value.int IntKind.i64 0] 25)).cell? ⟨w.heap.size+1,0,none⟩=some (.int .i64 0):=by go_simp
 have aB:((w.alloc (Obj.cells #[Value.pointer (some { block:=s,off:=0 })] 24)).alloc (Obj.cells #[Value.int IntKind.i64 0] 25)).frozen? ⟨w.heap.size+1,0,none⟩=false:=by go_simp
 have bY:((w.alloc (Obj.cells #[Value.pointer (some { block:=s,off:=0 })] 24)).alloc (Obj.cells #[Value.int IntKind.i64 0] 25)).heap.size>=w.heap.size+2:=by simp
 generalize ((w.alloc (Obj.cells #[Value.pointer (some { block:=s,off:=0 })] 24)).alloc (Obj.cells #[Value.int IntKind.i64 0] 25))=W0 at*;have af:=Zh (U.below aA);have bZ:=Zh (Ad.below (F:=F) aA);have ae:=Zh aA;clear aA;refine(Gd af.out).mono ?_;rintro e w' ⟨rfl,rfl⟩;have aI:=af.ch;have aJ:=af.ct;have aK:=af.ca;go_wp2_with fail;rw [show((n:Int)+2)=((n+2:Nat):Int) by push_cast;rfl];refine(Us af.heap (n+2) (by omega) (by omega)).mono ?_;rintro e w1 (⟨addr,ab,L1,aC,rfl,aL,t1,a2,b3⟩|⟨rfl,I,a3⟩)
 . have a4: ∀b,w.heap.size<=b-> ¬F b:=λb O V=>by have:=U.lt V;omega
   have bw:=U.Gu;subst bw;have ag: ∀b,w.heap.size<=b-> ¬Fh b:=(λb O V=>a4 b O (.inl V));have aM: ∀b,w.heap.size<=b-> ¬A7 t v b:=(λb O V=>a4 b O (.inr V));have b4:=t1.size;have aN:=U.heap.off;have b5:1<w.heap.size:=Nat.lt_trans (aN.2.2.2 a aN.2.2.1) (U.heap.lt aN.2.2.1);have aO:w.heap.size+1<w1.heap.size:=(by omega);have a5 :w.heap.size<w1.heap.size:=(by omega);have ah: ¬Fh s:=(λV=>U.Hb (.inl V));have bz: ¬A7 t v s:=λV=>U.Hb (.inr V)
   have m0: ∀W,Below w1.heap.size w1 W->W.cell? ⟨w1.heap.size,0,none⟩=some (.int .i64 addr)->MK W s a ha t v most last q ab L1 aC sl (w.heap.size+1) w1.heap.size 0 addr:=λW O hA=>{
    ca:=(O.cell (p:=⟨s,2,none⟩) (Am (t1.cell aK ah))).trans (t1.cell aK ah)
    ch:=(O.cell (p:=⟨s,3,none⟩) (Am (t1.cell aI ah))).trans (t1.cell aI ah)
    ct:=(O.cell (p:=⟨s,4,none⟩) (Am (t1.cell aJ ah))).trans (t1.cell aJ ah)
    heap:=aL.below O
    tab:=(af.tab.Aq t1 (λb O V=>U.apart b V O)).below O
    cS:=⟨w.heap.size,rfl,(O.cell (p:=⟨w.heap.size,0,none⟩) a5).trans (t1.cell a1 (ag _ (Nat.le_refl _)))⟩
    cE:=(O.cell (p:=⟨w.heap.size+1,0,none⟩) aO).trans (t1.cell ao (ag _ (by simp)))
    fE:=(O.frozen (p:=⟨w.heap.size+1,0,none⟩) aO).trans ((World.frozen?_of_block (a:=⟨w.heap.size+1,0,none⟩) (t1.keep (w.heap.size+1) (by omega) (ag (w.heap.size+1) (by omega)))).trans aB)
    cA:=hA
    nE:=⟨t1.not (by omega) (ag _ (by omega)),aM _ (by omega),by omega,by omega,by omega,by omega⟩
    nA:=⟨λV=>Nat.lt_irrefl _ (aL.lt V),aM _ (by omega)⟩
    nS:=by rw [Nat.add_sub_cancel];exact⟨t1.not (by omega) (ag _ (Nat.le_refl _)),aM _ (Nat.le_refl _)⟩
    ns:=⟨t1.not (Nat.lt_of_lt_of_le bv ae.size) ah,bz⟩
    ap:=λb O a6=>t1.not (af.tab.lt a6) (λV=>U.apart b V a6) O
    hh:=U.Ov
    tb:=U.Nv }
   have aP :=t1.cell ao (ag _ (by simp));have aQ :=(World.frozen?_of_block (a:=⟨w.heap.size+1,0,none⟩) (t1.keep (w.heap.size+1) (by omega) (ag _ (by omega)))).trans aB;have bA:=Zh (Ad.trans (Ad.below (F:=Fh) ae) t1);have bB:=Zh m0;have J:=Zh a2;clear m0 aL t1 a2 aK aI aJ a1 ao aB;go_wp2_with fail;obtain⟨Z,aD⟩: ∃Z,Z=(w1.setCell { block:=w.heap.size+1,off:=0 } (Value.int IntKind.i64 0)).alloc (Obj.cells #[Value.int IntKind.i64 addr] 3):=⟨_,rfl⟩;have ai:MK Z s a ha t v most last q ab L1 aC sl (w.heap.size+1) w1.heap.size 0 addr:=by
    have aq:=(bB (w1.alloc (Obj.cells #[Value.int IntKind.i64 addr] 3)) ((Below.refl _ _).alloc (Nat.le_refl _) _) (by go_simp)).RR 0;have bC:((w1.alloc (Obj.cells #[Value.int IntKind.i64 addr] 3)).setCell ⟨w.heap.size+1,0,none⟩ (.int .i64 ((0:Nat):Int)))=Z:=by
     rw [aD];exact World.setCell_alloc_past _ _ _ _ (by omega)
    rwa [bC] at aq
   have a7:Ad w Fh Z ab:=by
    rw [aD];exact(bA.Ob (BJ (F:=λb=>b=w.heap.size+1) ⟨w.heap.size+1,0,none⟩ (.int .i64 0) rfl) (λb O=>by omega)).Ob (Ad.below (F:=λ_=>False) ((Below.refl _ _).alloc (Nat.le_refl _) _)) (λ_ h=>h.elim)
   rw [<-aD];have ax:=Zh ai;have a8:=Zh a7;have a9:=ai.ct;have ba:=ai.cA;have ar:=ai.cE;have aE:=ai.fE;obtain⟨S,au,aa⟩:=ai.cS;have aj:S=w.heap.size:=(by omega);subst aj;clear aP aQ aD ai a7 au;refine Mr ?_
   go_region_with (go_at_call 57;refine(To (ax.below (AL Z 1)).tab addr (by omega)).mono ?_;rintro e w3 ⟨b8,er,rfl,aR⟩;obtain⟨bb,z2⟩:=Rq aR ax.nE.2.1 ar aE;have aS:=Zh aR;clear aR)
   all_goals
    dsimp only [K5];rcases aS.out with ⟨rfl,k,g,v',sl',aT,rfl,al,t3⟩|⟨rfl,rfl,bD,bE,rfl⟩
    . have ac:=(((ax.below (AL Z 1)).Ya al t3).RR 0)
      have bF:=Zh al;have bG:=Zh t3;have bH:=Zh aT;have bI:Bd g k<18446744073709551616/\Bd g k≠0:=by
       obtain⟨bJ,he⟩:=H7 aT;have h1:=(al.ok _ (List.getElem_mem bJ)).hi;rw [he] at h1;have b9:=al.l2;have cb:=al.len;have cc:=al.m2;unfold Bd;simp only at h1;omega
      obtain⟨bc,bK⟩:=bI;generalize hx:Bd g k=x at*;have bd:=Zh hx;have be:Ad w3 (λb=>ab b\/b=w.heap.size+1) (w3.setCell ⟨w.heap.size+1,0,none⟩ (.int .i64 ((0:Nat):Int))) (λb=>ab b\/b=w.heap.size+1):=BJ _ _ (.inr rfl);have bf:=Zh be;have bL:=Zh ac.nE.2.1;clear aS a9 ba ar aE aa bb z2 aT al t3 hx be;obtain⟨am,aw⟩:=Zx (w3.setCell ⟨w.heap.size+1,0,none⟩ (.int .i64 ((0:Nat):Int)));have ay:Hid (MK am s a ha t v' most last q ab L1 aC sl' (w.heap.size+1) w1.heap.size 0 addr):=Zh (aw▸ac);rw [<-aw] at bf ⊢;clear aw ac;have ar:=ay.cE;go_wp2_with fail;have aU:=(λX:BK am=>X.cell ay.ca);have aV:=(λX:BK am=>X.cell ay.cA);obtain⟨S,au,aa⟩:=ay.cS;have aj:S=w.heap.size:=(by omega);subst aj;have aW:=(λX:BK am=>X.cell aa);clear ar aa au;refine C2 6 (by kernel_rfl) (by kernel_rfl) ?_;simp only [List.take_succ_cons,List.take_zero,List.drop_succ_cons,List.drop_zero]
      repeat (go_big_quiet_step (fail))
      refine wpQuiet_nil ?_;rintro _ ⟨X,rfl⟩;have az:=Zh (ay.below X.h);have aX:=Zh (Ad.trans bf (.below X.h));clear aU aV aW;generalize X.W=cd at*;go_wp2_with fail;have aF:=Ypa;have ce:=Fv (n+2);refine(LD az.heap aF addr x (Nat.le_refl _) (by simp only;omega) bc).mono ?_;rintro e aY ⟨rfl,bg,t6⟩;have aG:=Zh (az.Jq bg t6);have bM:=Zh (aX.trans t6.left);clear bg t6;have aU:=(λX:BK aY=>X.cell aG.ca);have aV:=(λX:BK aY=>X.cell aG.cA);obtain⟨S,au,aa⟩:=aG.cS;have aj:S=w.heap.size:=(by omega);subst aj;have aW:=(λX:BK aY=>X.cell aa);clear aa au;go_wp2_with fail;refine C2 8 (by kernel_rfl) (by kernel_rfl) ?_;simp only [List.take_succ_cons,List.take_zero,List.drop_succ_cons,List.drop_zero]
      repeat (go_big_quiet_step (fail))
      refine wpQuiet_nil ?_;rintro _ ⟨X,rfl⟩;have aH:=Zh (aG.below X.h);have bN:=Zh (bM.trans (.below X.h));clear aU aV aW;generalize X.W=cf at*;go_wp2_with fail;rw [show((addr:Int)+1)=((addr+1:Nat):Int) by push_cast;rfl];refine(LD aH.heap aF (addr+1) n (by simp) (by simp only;omega) (by omega)).mono ?_;rintro e bO ⟨rfl,aq,t8⟩;have aZ:=Zh ((aH.Jq aq t8).RR 0);have ar:=(aH.Jq aq t8).cE;have aE:=(aH.Jq aq t8).fE;have bP:=Zh ((bN.trans t8.left).trans (BJ (F:=λb=>ab b\/b=w.heap.size+1) ⟨w.heap.size+1,0,none⟩ (.int .i64 ((0:Nat):Int)) (.inr rfl)));clear aq t8;go_wp2_with fail;have bQ:=Zh (U.make (X:=λb=>b=w.heap.size+1) bu (a8.Ob (Ad.below (F:=λ_=>False) (AL Z 1)) (λ_ h=>h.elim)) J bH bF bG bP (λb O=>by subst O;exact⟨by omega,bL⟩) (by rw [bd.out];exact aZ.heap) (λb O=>ax.heap.lt O));refine leaves_cons (f:=55) (args:= #[.pointer (some ⟨w.heap.size+1,0,none⟩), .pointer (some ⟨w.heap.size,0,none⟩), .pointer (some ⟨w1.heap.size,0,none⟩)]) (by simp) (by simp [go_sem]) ?_;refine(WR ⟨w.heap.size+1,0,none⟩ _ _ .returning _ aZ.cE).mono ?_;rintro e bR bh ⟨rfl,rfl,rfl⟩;refine⟨.tuple #[.int .u64 x, .int .i64 0], ?_, ?_⟩
      . have a0:(bO.setCell ⟨w.heap.size+1,0,none⟩ (.int .i64 0)).cell? ⟨w.heap.size+1,0,none⟩=some (.int .i64 0):=aZ.cE
        simp [results,f19,go_sem,a0]
      . obtain⟨u1,u2,u3⟩:=bQ.out
        rw [bd.out] at u1 u3;exact .inl ⟨x,_,u3,bK,bc,rfl,⟨_,_,_,_,_,_,_,_,u1⟩,u2⟩
    . have ac:=((ax.below (AL Z 1)).RR 10)
      have bi:=ac.cE;have bj:=ac.fE;have bk:=Zh ((a8.Ob (Ad.below (F:=λ_=>False) (AL Z 1)) (λ_ h=>h.elim)).Ob (BJ (F:=λb=>b=w.heap.size+1) ⟨w.heap.size+1,0,none⟩ (.int .i64 ((10:Nat):Int)) rfl) (λb O=>by omega));have bm:=Zh ac;clear aS a9 ba ar aE aa bb z2 ac;obtain⟨am,aw⟩:=Zx ((Z.drewN 1).setCell ⟨w.heap.size+1,0,none⟩ (.int .i64 ((10:Nat):Int)));rw [<-aw] at bi bj bk bm ⊢;clear aw;go_wp2_with fail;refine Mr ?_
      go_region
      all_goals
       dsimp only [K5];have az:=((bm.RR 10).below (W' :=(am.setCell ⟨w.heap.size+1,0,none⟩ (.int .i64 ((10:Nat):Int))).drew) (AL _ 1));have aX:=Zh ((bk.Ob (BJ (F:=λb=>b=w.heap.size+1) ⟨w.heap.size+1,0,none⟩ (.int .i64 ((10:Nat):Int)) rfl) (λb O=>by omega)).Ob (Ad.below (F:=λ_=>False) (AL _ 1)) (λ_ h=>h.elim));have an:=Zh az;clear az bi bj;go_wp2_with fail;obtain⟨S,au,aa⟩:=an.cS;have aj:S=w.heap.size:=(by omega);subst aj;have aF:=Ypa;refine leaves_cons (f:=55) (args:= #[.pointer (some ⟨w.heap.size+1,0,none⟩), .pointer (some ⟨w.heap.size,0,none⟩), .pointer (some ⟨w1.heap.size,0,none⟩)]) (by simp) (by simp [go_sem]) ?_;refine(U8 ⟨w.heap.size+1,0,none⟩ ⟨w.heap.size,0,none⟩ ⟨w1.heap.size,0,none⟩ .returning _ 10 (by omega) an.cE aa an.cA an.ch (Q:=λw' => ∃F' L' mem',Bm w' ha a F' L' q mem' /\Ad (am.setCell ⟨w.heap.size+1,0,none⟩ (.int .i64 ((10:Nat):Int))).drew ab w' F' /\T8 L1 aC (addr,Du (n+2)) L' mem') (λX=> ?_)).mono ?_
       . refine(Ru (an.heap.below X.h) (addr,Du (n+2)) aF).mono ?_
         rintro e w' ⟨F',L',mem',rfl,g1,g2,g3⟩;exact⟨_,rfl,F',L',mem',g1,(Ad.below X.h).trans g2,g3⟩
       . rintro e bR bh ⟨rfl,rfl,F',L',mem',g1,g2,g3⟩
         have bS:=g2.cell an.cE an.nE.1;refine⟨.tuple #[.int .u64 0, .int .i64 10], ?_, ?_⟩
         . have a0:bh.cell? ⟨w.heap.size+1,0,none⟩=some (.int .i64 10):=bS
           simp [results,f19,go_sem,a0]
         . have bo:(blocks L').Perm (blocks L):=(g3.perm.symm.trans J.perm).cons_inv
           have cg:=U.Cb;have ci:=J.Cb;have cj:=g3.Cb;obtain⟨u1,u2⟩:=U.Zp (P' :=P+CD (n+2)) g1 (aX.trans g2) bo (λc bp i bq br=>(g3.same c (bo.mem_iff.2 bp) i bq br).trans (J.same c bp i bq br)) (by omega);exact .inr ⟨10,_,rfl, .inr ⟨rfl,U.SR bD bE⟩,⟨_,_,_,_,_,_,_,_,u1⟩,u2⟩
 . have bT:=Dt
   have aP :=(I.cell (p:=⟨w.heap.size+1,0,none⟩) (Am ao)).trans ao;have aQ :=(I.frozen (p:=⟨w.heap.size+1,0,none⟩) (Am ao)).trans aB;have bU:=Zh a3;have aO:w.heap.size+1<w1.heap.size:=(by have:=I.size;omega);have a5 :w.heap.size<w1.heap.size:=(by omega);clear I a3;go_wp2_with fail;have bV:((w1.setCell { block:=w.heap.size+1,off:=0 } (Value.int IntKind.i64 3)).alloc (Obj.cells #[Value.int IntKind.i64 0] 3)).cell? ⟨w.heap.size+1,0,none⟩=some (.int .i64 3):=(by go_simp);have ck:((w1.setCell { block:=w.heap.size+1,off:=0 } (Value.int IntKind.i64 3)).alloc (Obj.cells #[Value.int IntKind.i64 0] 3)).frozen? ⟨w.heap.size+1,0,none⟩=false:=(by go_simp);have bW:=Zh ((bT.setCell (p:=⟨w.heap.size+1,0,none⟩) (by simp) (.int .i64 3)).alloc (by simp;omega) (Obj.cells #[Value.int IntKind.i64 0] 3));clear aP aQ;generalize ((w1.setCell { block:=w.heap.size+1,off:=0 } (Value.int IntKind.i64 3)).alloc (Obj.cells #[Value.int IntKind.i64 0] 3))=W3 at*
   go_region
   all_goals
    go_wp2;refine⟨.tuple #[.int .u64 0, .int .i64 3], ?_, ?_⟩
    . simp [results,f19,go_sem,bV]
    . have bs:=(bW.setCell (p:=⟨w.heap.size+1,0,none⟩) (by simp) (.int .i64 3)).drew
      have bX:=U.Cb;exact .inr ⟨3,F,rfl, .inl ⟨rfl,by have:=bU.out;have:=Nat.mul_le_mul_right 64 (Nat.add_le_add_right bX (CD (n+2)));omega⟩,⟨_,_,_,_,_,_,_,_,{ U.below bs with Cb:=by omega }⟩, .below bs⟩
end
section
variable  {s:Nat}  {R:Zr} {H:List Nat} {P G:Nat}
theorem Jr(h:Ah w s F R H P q most last G)(U:R x=some ws):
 Calls prog 40 #[.pointer (some ⟨s,0,none⟩), .int .u64 x] w λe w' => ∃F',e= .returned (.int .i64 0)/\Ah w' s F' (AQ R x none) (H.erase x) P q most last G/\Ad w F w' F' :=by
 obtain⟨a,ha,t,v,L,mem,sl,Fh,h⟩:=h;obtain⟨k,n,I⟩:=h.record U;have hA:=Zh (Oe h n I);have J:=Zh h;have ab:=Zh I;have ag:=Zh U;have au:=h.ch;have ah:=h.Gu;subst ah;have ac:=Zh (λw' (V:Below w.heap.size w w')=>Ru (h.heap.below V) _ I.Az);have ai: ¬Fh s:=λZ=>h.Hb (.inl Z)
 clear h I U;obtain⟨addr,aa⟩: ∃addr,(sl[k]'n.lt).addr=addr:=⟨_,rfl⟩;rw [aa] at hA ab ac;have ae:=Zh aa;have O:=Zh n;clear aa;go_enter func40,ntmps40;go_wp2_with fail;refine hA.mono ?_;rintro e w' ⟨rfl,rfl⟩;go_wp2_with fail;refine(ac _ (Below.refl _ _)).mono ?_;rintro e w1 ⟨F',L',mem',rfl,g1,g2,g3⟩;have aw:=g2.cell J.ct ai;have af:=J.tab.Aq g2 (λb V Z=>J.apart b Z V);have aj:=Zh (λX:BK w1=>Rv (af.below X.h) O O.lt);have al:=Zh g1;have am:=Zh g2;have an:=Zh g3;clear g1 g2 g3 af;go_wp2_with fail;refine(aj ⟨w1,Below.refl _ _⟩).mono ?_;rintro e w2 ⟨rfl,t1,t2⟩;have ao:=Zh t1;have aq:=Zh t2;clear t1 t2;go_wp2;go_ret;have ar:FN L mem x (sl[k]'O.lt).addr ws:=by rw [ae.out];exact ab.out
 obtain⟨u1,u2⟩:=J.drop O ag ar al.out am (by rw [ae.out];exact an.out) ao aq.out;exact⟨_,rfl,⟨_,_,_,_,_,_,_,_,u1⟩,u2⟩
theorem G0{α β:Type}{f:α->β}: ∀{l:List α},(l.map f).Nodup-> ∀{x y:α},x∈l->y∈l->f x=f y->x=y
 | [],_,x,y,hx,_,_=>by simp at hx
 |z::t,hn,x,y,hx,hy,he=>by
  rw [List.map_cons,List.nodup_cons] at hn;rcases List.mem_cons.1 hx with O|h1
  . rcases List.mem_cons.1 hy with I|J
    . rw [O,I]
    . exact absurd (List.mem_map.2 ⟨y,J,by rw [<-he,O]⟩) hn.1
  . rcases List.mem_cons.1 hy with I|J
    . exact absurd (List.mem_map.2 ⟨x,h1,by rw [he,I]⟩) hn.1
    . exact G0 hn.2 h1 J he
def Jj(R:Zr)(H:List Nat)(P n:Nat):Prop:= ∃p,n=64*p/\p<=P/\(H= []->p=0)/\(H.map λx=>((R x).getD []).length+2).sum<=64*p
theorem Jt{L:HL}(I:Lay L)(h:blocks L= []):runs L= []:=by
 cases L with
 |nil=>rfl
 |cons x t=>
  exfalso
  have J:=I.ok x List.mem_cons_self;obtain⟨p,hd⟩:=x;have:A8 (p,hd)= []:=by
   have:=(List.append_eq_nil_iff.1 (show A8 (p,hd)++blocks t= [] from h)).1;exact this
  cases hd with
  |Bx w=>simp [A8] at this
  |small c m=>
   obtain⟨h1,O,U⟩:=J;apply O;apply Nat.eq_of_testBit_eq;intro j;rw [Nat.zero_testBit];by_cases V:j<AY c
   . cases Z:m.testBit j with
     |false=>rfl
     |true=>
      have hm:j∈slotsOf c m:=FV.2 ⟨V,Z⟩;simp only [A8,List.map_eq_nil_iff] at this;rw [this] at hm;simp at hm
   . exact Nat.testBit_lt_two_pow (Nat.lt_of_lt_of_le U (Nat.pow_le_pow_right (by omega) (by omega)))
theorem W7{l l' :List Nat}(h:l.Perm l'):l.sum=l'.sum:=h.sum_nat
theorem Ch.words{L:HL}{sl:List Sl}(h:Ch w s F R H P q most last G a ha t v L mem sl Fh):Jj R H P (64*(runs L).length):=by
 refine⟨(runs L).length,rfl,h.Cb,λU=> ?_, ?_⟩
 . have h1:=h.perm.length_eq
   rw [U,List.length_map] at h1;rw [Jt h.heap.lay (List.eq_nil_of_length_eq_zero h1.symm)];rfl
 . refine Nat.le_trans ?_ (LW (L:=L) h.heap.lay.ok)
   rw [W7 (h.perm.map _),List.map_map];obtain⟨g,hg⟩: ∃g:Nat × Nat->Nat,g=λb=>((R (mem b.1)).getD []).length+2:=⟨_,rfl⟩
   have hle: ∀l:List (Nat × Nat),(∀b∈l,b∈blocks L)->(l.map g).sum<=(l.map (·.2)).sum:=by
    intro l
    induction l with
    |nil=>intro _;simp
    |cons b t ih=>
     intro I;have h1:=ih (λc V=>I c (List.mem_cons_of_mem _ V));have J:=I b List.mem_cons_self;have hx:mem b.1∈H:=h.perm.mem_iff.2 (List.mem_map.2 ⟨b,J,rfl⟩);obtain⟨k,n⟩:=(h.LJ _).1 hx;obtain⟨ws,Z,O⟩:=h.link _ k n;have ac:=Fv (ws.length+2);have aa:((blocks L).map λb=>mem b.1).Nodup:=h.perm.nodup_iff.1 h.nodup;have ab:b=((sl[k]'n.lt).addr,Du (ws.length+2)):=G0 aa J O.Az O.h0.symm;have ae:b.2=Du (ws.length+2):=congrArg Prod.snd ab;have af:g b=ws.length+2:=(by rw [hg];simp only;rw [Z];rfl);simp only [List.map_cons,List.sum_cons];omega
   rw [show((λx=>((R x).getD []).length+2) ∘ λb:Nat × Nat=>mem b.1)=g from hg.symm];exact hle _ (λb I=>I)
end
section
variable  {s:Nat}  {R:Zr} {H:List Nat} {P G:Nat}
def Ymp{P}(h:P:=by
 have J:=Zh (Kb k1.sl (JS I));have hle:64*(runs L).length<=262144:=by have h1:=k1.sl.room;have O:=k1.sl.DA;rw [k1.sl.count] at h1;omega
 exact And.intro J hle):=h
theorem T1(h:Ah w s F R H P q most last G):
 Calls prog 25 #[.pointer (some ⟨s,0,none⟩)] w λe w' => ∃n:Nat,e= .returned (.int .i64 n)/\Jj R H P n/\n<=262144/\Below w.heap.size w w' :=by
 obtain⟨a,ha,t,v,L,mem,sl,Fh,h⟩:=h;have hN:=Zh (Gd h);have U:=Zh h.words;have ab:=h.ca;obtain⟨⟨mb,D,k1,rfl⟩,I,V⟩:=h.heap;obtain⟨Z,hle⟩:=Ymp;generalize (runs L).length=n at*;clear h k1 I V;go_enter func25,ntmps25;go_wp2_with fail;refine hN.mono ?_;rintro e w' ⟨rfl,rfl⟩;go_wp2_with fail;refine Z.mono ?_;rintro e w1 ⟨v,rfl,J,O⟩;obtain⟨A,c,rfl⟩:=Bs J;have aa:=Zh O;clear J O;go_wp2;go_ret;exact⟨64*n,by rw [show((64*n:Nat):Int)=(n:Int)*64 by push_cast;omega];rfl,U,hle,aa⟩
end
theorem Da(h:Ix w):1<w.heap.size:=Am (a:=⟨1,0,none⟩) (h 0 (by decide))
theorem Rc(aa:Ix w)(q most last:Nat)(an:q<=262144)(h1:1<=most)(O:most<=65536)(ao:1<=last)(aq:last<4294967296):
 Calls prog 8 #[.int .i64 q, .int .i64 most, .int .u32 last] w λe w' => ∃s F,e= .returned (.tuple #[.pointer (some ⟨s,0,none⟩), .int .i64 0])/\Ah w' s F (λ_=>none) [] 0 q most last 0/\w.heap.size<=s/\(∀b,F b->w.heap.size<=b)/\Below w.heap.size w w' :=by
 have ar:=Da aa;have au:=Zh aa;clear aa;go_enter func8,ntmps8;go_wp2_with fail;refine(Q7 q an _).mono ?_;rintro e w1 ⟨a,mb,rfl,af,aA,aB,ag⟩;have Z:=Zh af;have ae:=Zh ag;clear af ag;go_wp2_with fail;refine(XH most last h1 O ao aq _).mono ?_;rintro e w2 ⟨t,rfl,ah,aC,I⟩;have ai:=Zh ah;have aw:=Zh I;have ax:=Zh (Z.below I (λb J=>Z.lt J));have aj:=Dt;clear ah I;go_wp2_with fail;refine(RL ax.out (au.below aj ar) (λb J=> ?_)).mono ?_
 . rcases J with rfl|rfl|⟨p,hp⟩
   . omega
   . omega
   . cases hp
 rintro e w3 ⟨ha,rfl,al,aD,ab⟩;have ay:=Zh al;have am:=Zh ab;have az:=Zh (ai.below ab);clear al ab;go_wp2
 go_ret2
 have J7:Below w3.heap.size w3 (w3.alloc (.cells #[.int .i64 most, .int .u32 last, .pointer (some ⟨a,0,none⟩), .pointer (some ⟨ha,0,none⟩), .pointer (some ⟨t,0,none⟩)] 75)):=(Below.refl _ _).alloc (Nat.le_refl _) _;have aE:=aw.size;have aF:=am.size;have aG:=Z.lt (.inl rfl:Bn a mb (.map []) a);have aH:=Z.lt (.inr (.inl rfl):Bn a mb (.map []) mb);have aI:=ai.lt (.inl rfl:A7 t (.slice none 0 0) t);have ac: ∀b,Bn a mb (.map []) b->b=a\/b=mb:=λb J=>by
  rcases J with h|h|⟨p,hp⟩
  . exact .inl h
  . exact .inr h
  . cases hp
 have V: ∀b,A7 t (.slice none 0 0) b->b=t:=λb J=>by
  rcases J with h|h
  . exact h
  . simp [Value.ownBlock] at h
 refine⟨w3.heap.size,λb=>Bn a mb (.map []) b\/A7 t (.slice none 0 0) b,rfl,⟨a,ha,t, .slice none 0 0,[],λ_=>0,[],Bn a mb (.map []),{
  ca:=by go_simp
  ch:=by go_simp
  ct:=by go_simp
  heap:=ay.below J7
  tab:=az.below J7
  Gu:=rfl
  apart:=λb J hg=>by have h1:=V b hg;rcases ac b J with O|O<;>omega
  Hb:=λU=>by
   rcases U with U|U
   . rcases ac _ U with O|O<;>omega
   . have:=V _ U;omega
  Ov:=λU=>by have:=V _ U;omega
  Nv:=λb J=>by have:=V b J;omega
  link:=λh k n=>absurd n.lt (by simp)
  LJ:=λh=>⟨λhm=>by simp at hm,λ⟨k,n⟩=>absurd n.lt (by simp)⟩
  Gt :=λ_ _=>rfl
  perm:=List.Perm.refl _
  nodup:=List.Pairwise.nil
  Cb:=by simp [runs]
  Jv:=λx hx=>by simp at hx
  ret:=λx hx=>by simp at hx }⟩,by omega,λb J=>by
   rcases J with J|J
   . rcases ac b J with O|O<;>omega
   . have:=V b J;omega, ?_⟩
 exact aj.trans ((am.mono (by omega)).trans (J7.mono (by omega)))
theorem BV.kb{sl:List Sl}(h:BV w t v most last sl)(J:KB Cs w w')(aa: ∀b,A7 t v b-> ¬Cs b):BV w' t v most last sl:=
 h.same λb I=>by
  have O:=aa b I;rcases I with rfl|I
  . obtain⟨o,U,V⟩:=Hk h.c0
    exact(J.same _ o U (.inl V) O).trans U.symm
  . rcases h.row.2 with ⟨h1,_⟩|⟨g,cap,cur,h1,ab,Z,V⟩
    . rw [h1] at I;simp [Value.ownBlock] at I
    . rw [h1] at I
      have:g=b:=(by simpa [Value.ownBlock] using I);subst this;exact(J.same _ _ Z (.inl rfl) O).trans Z.symm
theorem Bm.kb{L:HL}(h:Bm w ha a F L q mem)(I:KB Cs w w')(h1: ∀k,F k-> ¬Cs k)(J: ¬Cs ha)(O: ¬Cs 1):Bm w' ha a F L q mem:=by
 obtain⟨⟨mb,D,k1,rfl⟩,k2,U⟩:=h;exact⟨⟨mb,D,k1.kb I (λk V Z=>h1 k Z V) J O,rfl⟩,k2,U⟩
def Rd(N:Nat)(w:World)(s:Nat)(R:Zr)(n:Nat):Prop:=
 ∃F H P q most last G a ha t v L mem sl Fh,Ch w s F R H P q most last G a ha t v L mem sl Fh/\n=64*(runs L).length/\(∀b,F b->b<N)/\s<N/\ha<N/\1<N
section
variable  {s N:Nat}  {R:Zr} {H:List Nat} {P G n:Nat}
theorem Rd.below(h:Rd N w s R n)(I:Below w.heap.size w w'):Rd N w' s R n:=by
 obtain⟨F,H,P,q,most,last,G,a,ha,t,v,L,mem,sl,Fh,h,J⟩:=h;exact⟨F,H,P,q,most,last,G,a,ha,t,v,L,mem,sl,Fh,h.below I,J⟩
theorem Rd.mono{I :Nat}(h:Rd N w s R n)(hN:N<=I):Rd I w s R n:=by
 obtain⟨F,H,P,q,most,last,G,a,ha,t,v,L,mem,sl,Fh,h,J,h1,U,V,Z⟩:=h;exact⟨F,H,P,q,most,last,G,a,ha,t,v,L,mem,sl,Fh,h,J,λb O=>Nat.lt_of_lt_of_le (h1 b O) hN,by omega,by omega,by omega⟩
theorem Rd.kb(h:Rd N w s R n)(J:KB Cs w w')(ab: ∀k,Cs k->N<=k):Rd N w' s R n:=by
 obtain⟨F,H,P,q,most,last,G,a,ha,t,v,L,mem,sl,Fh,h,ac,h1,O,V,Z⟩:=h;have I: ∀b,b<N-> ¬Cs b:=λb af ae=>by have:=ab b ae;omega
 have aa:=h.Gu
 refine⟨F,H,P,q,most,last,G,a,ha,t,v,L,mem,sl,Fh,{ h with
  ca:=J.cell h.ca (I _ O)
  ch:=J.cell h.ch (I _ O)
  ct:=J.cell h.ct (I _ O)
  heap:=h.heap.kb J (λk U=>I k (h1 k (by rw [aa];exact .inl U))) (I _ V) (I _ Z)
  tab:=h.tab.kb J (λk U=>I k (h1 k (by rw [aa];exact .inr U))) },ac,h1,O,V,Z⟩
def Ycm{P}(h:P:=by
 obtain⟨⟨mb,D,k1,rfl⟩,k2,I⟩:=h.heap;exact Am (a:=⟨1,0,none⟩) (k1.tab 0 (by decide))):=h
def Yeg{P}(h:P:=by
 obtain⟨⟨mb,D,k1,rfl⟩,k2,I⟩:=h.heap;exact Am k1.hs):=h
theorem Ah.rd(h:Ah w s F R H P q most last G): ∃n,Rd w.heap.size w s R n/\Jj R H P n:=by
 obtain⟨a,ha,t,v,L,mem,sl,Fh,h⟩:=h;refine⟨_,⟨F,H,P,q,most,last,G,a,ha,t,v,L,mem,sl,Fh,h,rfl,λb I=>h.lt I,Am (a:=⟨s,2,none⟩) h.ca, ?_, ?_⟩,h.words⟩
 . exact Yeg
 . exact Ycm
theorem Rd.is(h:Rd N w s R n): ∃F H P q most last G,Ah w s F R H P q most last G:=by
 obtain⟨F,H,P,q,most,last,G,a,ha,t,v,L,mem,sl,Fh,h,_⟩:=h;exact⟨F,H,P,q,most,last,G,a,ha,t,v,L,mem,sl,Fh,h⟩
theorem Rd.here(h:Rd N w s R n):Rd w.heap.size w s R n:=by
 obtain⟨F,H,P,q,most,last,G,a,ha,t,v,L,mem,sl,Fh,h,I,h1,O,U,V⟩:=h;refine⟨F,H,P,q,most,last,G,a,ha,t,v,L,mem,sl,Fh,h,I,λb J=>h.lt J,Am (a:=⟨s,2,none⟩) h.ca, ?_, ?_⟩
 . exact Yeg
 . exact Ycm
theorem Rd.le(h:Rd N w s R n):n<=262144:=by
 obtain⟨F,H,P,q,most,last,G,a,ha,t,v,L,mem,sl,Fh,h,rfl,_⟩:=h;obtain⟨⟨mb,D,k1,rfl⟩,I,J⟩:=h.heap;have h1:=k1.sl.room;have O:=k1.sl.DA;rw [k1.sl.count] at h1;omega
theorem Rd.u64(h:Rd N w s R n)(I:R x=some ws):x<18446744073709551616/\ws.length<=3998/\ ∀i (hi:i<ws.length),ws[i]<18446744073709551616:=by
 obtain⟨F,H,P,q,most,last,G,a,ha,t,v,L,mem,sl,Fh,h,_⟩:=h;obtain⟨k,O,J⟩:=h.record I;obtain⟨⟨mb,D,k1,rfl⟩,U,V⟩:=h.heap;exact⟨h.R64 I,J.len,λi hi=>J.wd i hi▸k1.sl.word _⟩
theorem Gx(h:Rd N w s R n)(x:Nat)(hx:x<18446744073709551616):
 Calls prog 67 #[.pointer (some ⟨s,0,none⟩), .int .u64 x] w λe w' =>e= .returned (KZ R x)/\w=w' :=by
 obtain⟨F,H,P,q,most,last,G,h⟩:=h.is;exact IT h x hx
theorem Rb(h:Rd N w s R n){i:Nat}(I:R x=some ws)(hi:i<ws.length):
 Calls prog 121 #[.pointer (some ⟨s,0,none⟩), .int .u64 x, .int .i64 i] w λe w' =>e= .returned (.tuple #[.int .u64 (ws[i]:Nat), .int .i64 0])/\w=w' :=by
 obtain⟨F,H,P,q,most,last,G,h⟩:=h.is;exact XN h I hi
theorem Tm(h:Rd N w s R n):
 Calls prog 25 #[.pointer (some ⟨s,0,none⟩)] w λe w' =>e= .returned (.int .i64 n)/\Below w.heap.size w w' :=by
 obtain⟨F,H,P,q,most,last,G,a,ha,t,v,L,mem,sl,Fh,h,rfl,_⟩:=h;have hN:=Zh (Gd h);have aa:=h.ca;obtain⟨⟨mb,D,k1,rfl⟩,I,U⟩:=h.heap;obtain⟨V,_⟩:=Ymp;generalize (runs L).length=n at*;clear h k1 I U;go_enter func25,ntmps25;go_wp2_with fail;refine hN.mono ?_;rintro e w' ⟨rfl,rfl⟩;go_wp2_with fail;refine V.mono ?_;rintro e w1 ⟨v,rfl,J,O⟩;obtain⟨A,c,rfl⟩:=Bs J;have Z:=Zh O;clear J O;go_wp2;go_ret;exact⟨by rw [show((64*n:Nat):Int)=(n:Int)*64 by push_cast;omega];rfl,Z⟩
end
