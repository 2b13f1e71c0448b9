/- A part. -/
import Derived.Test.YtiopopoohglepaaGreatDoorVMj
import Derived.Defers
set_option linter.all false
set_option maxRecDepth 100000
set_option maxHeartbeats 2000000
namespace Go.Proofs.YtiopopoohglepaaGreatDoor
open Go.Proofs.Tryz
open Go.RowKit Go.Shelf
variable {Cs F Fh:Nat->Prop}{a addr ha last most q t x:Nat}{mem:Nat->Nat}{v:Value}{w w':World}{ws:List Nat}
theorem T7{L:HL}(h:Bl w ha a F L q mem)(n:Nat)(O:1<=n)(J:n<=4000):
 Calls prog 54 #[.pointer (some ⟨ha,0,none⟩), .int .i64 n] w λe w' =>
  (∃addr F' L' mem',e= .returned (.tuple #[.int .i64 (addr:Nat), .int .i64 0])/\Bl w' ha a F' L' q mem' /\Ad w F w' F' /\TC L mem addr n L' mem' /\addr<40000000)\/
  (e= .returned (.tuple #[.int .i64 0, .int .i64 3])/\Below w.heap.size w w' /\q<((runs L).length+CC n)*64):=by
 by_cases d:n<=28
 . refine(QR h n O d).mono λe w' hh=> ?_
   rw [show CC n=1 from if_pos d];exact hh
 . rw [show CC n=(n+65)/64 from if_neg d]
   by_cases U:((runs L).length+(n+65)/64)*64<=q
   . exact(QQ h n (by omega) J U).mono λe w' ⟨addr,F',L',mem',h1,I,V,Z,aa⟩=> .inl ⟨addr,F',L',mem',h1,I,V,Z,by omega⟩
   . exact(KJ h n (by omega) J (by omega)).mono λe w' ⟨h1,I⟩=> .inr ⟨h1,I,by omega⟩
def K3(Q:Exit->Act->World->Prop):Exit->Act->World->Prop
 | .panic _,_,_=>False
 |e,a,w=>Q e a w
theorem Mn{P:Program}{c:Code}{Q:Exit->Act->World->Prop}{a:Act}(h:c.wp P (K3 Q) a w):c.wp P Q a w:=
 wp_mono h (λe a w hh=>by cases e<;>first|exact hh|exact hh.elim)
def XL(w:World)(t:Nat)(v:Value)(most last:Nat)(sl:List Sl)(addr hv er:Nat)(w' :World):Prop:=
 (er=0/\ ∃k g v' sl',GZ sl addr k g sl' /\hv=Bc g k/\BV w' t v' most last sl' /\Ad w (A6 t v) w' (A6 t v'))\/
 (er=10/\hv=0/\sl.length=most/\(∀s∈sl,s.is≠0)/\w=w')
theorem S5{sl:List Sl}(I:BV w t v most last sl)(addr:Nat)(ha:addr<1099511627776):
 Calls prog 57 #[.pointer (some ⟨t,0,none⟩), .int .i64 addr] w λe w' => ∃d er:Nat,e= .returned (.tuple #[.int .u64 d, .int .i64 er])/\XL w t v most last sl addr d er w' :=by
 refine(WD I addr ha).mono ?_;rintro e w' (⟨k,g,v',sl',h1,rfl,J,O⟩|⟨h1,U,rfl,rfl⟩)
 . exact⟨Bc g k,0,rfl, .inl ⟨rfl,k,g,v',sl',h1,rfl,J,O⟩⟩
 . exact⟨0,10,rfl, .inr ⟨rfl,rfl,h1,U,rfl⟩⟩
theorem Rc{sl:List Sl}{U er:Nat}(h:XL w t v most last sl addr U er w'){b:Nat}{x:Value}(I: ¬A6 t v b)(d:w.cell? ⟨b,0,none⟩=some x)(J:w.frozen? ⟨b,0,none⟩=false):
 w'.cell? ⟨b,0,none⟩=some x/\w'.frozen? ⟨b,0,none⟩=false:=by
 rcases h with ⟨_,k,g,v',sl',_,_,_,O⟩|⟨_,_,_,_,rfl⟩
 . exact⟨O.cell d I,(World.frozen?_of_block (a:=⟨b,0,none⟩) (O.keep b (Al d) I)).trans J⟩
 . exact⟨d,J⟩
theorem Wu(E S A:Addr)(u:FrameMode)(w:World)(I:w.cell? E=some (.int .i64 0)):
 CallsD prog 55 #[.pointer (some E), .pointer (some S), .pointer (some A)] u w λe d w' =>d =u/\(e= .returned (.tuple #[])/\w=w'):=by
 go_enter_d func55,ntmps55
 go_wp2;go_end0;exact⟨rfl,rfl⟩
theorem UK(E S A:Addr)(u:FrameMode)(w:World)(er:Nat)(aa:er≠0)(ab:w.cell? E=some (.int .i64 er)){s:Nat}(J:w.cell? S=some (.pointer (some ⟨s,0,none⟩)))(O:w.cell? A=some (.int .i64 addr))
 (hh:w.cell? ⟨s,3,none⟩=some (.pointer (some ⟨ha,0,none⟩))) {Q:World->Prop} (d: ∀X:BL w,Calls prog 56 #[.pointer (some ⟨ha,0,none⟩), .int .i64 addr] X.W λe w' => ∃z,e= .returned z/\Q w'):
 CallsD prog 55 #[.pointer (some E), .pointer (some S), .pointer (some A)] u w λe U w' =>U =u/\(e= .returned (.tuple #[])/\Q w'):=by
 have d1:((er:Int) !=0)=true:=by simp;omega
 have ac:=λX:BL w=>X.cell J
 have ae:=λX:BL w=>X.cell O
 have af:=λX:BL w=>X.cell hh
 have V:=Zh d;clear d
 go_enter_d func55,ntmps55
 go_wp2_with fail;refine CW 5 (by kernel_rfl) (by kernel_rfl) ?_;simp only [List.take_succ_cons,List.take_zero,List.drop_succ_cons,List.drop_zero]
 repeat (go_big_quiet_step (fail))
 refine wpQuiet_nil ?_;rintro _ ⟨X,rfl⟩;go_wp2_with fail;refine(V X).mono ?_;rintro e w' ⟨z,rfl,I⟩;have Z:=Zh I;clear I;go_wp2;go_end0;exact⟨rfl,Z⟩
theorem Ad.N8{W W':World}{A d G G' :Nat->Prop}(h:Ad w A W d)(g:Ad W G W' G')(J: ∀b,G b->w.heap.size<=b):Ad w A W' d :=
 ⟨g.os.trans h.os,g.tape.trans h.tape,g.output.trans h.output,Nat.le_trans h.size g.size,λk I O=>(g.keep k (Nat.lt_of_lt_of_le I h.size) (λU=>by have:=J k U;omega)).trans (h.keep k I O),h.grow⟩
structure MK(W:World)(s a ha t:Nat)(v:Value)(most last q:Nat)(Fh:Nat->Prop)(L:HL)(mem:Nat->Nat)(sl:List Sl)(E A:Nat)(er addr:Nat):Prop where
 ca:W.cell? ⟨s,2,none⟩=some (.pointer (some ⟨a,0,none⟩))
 ch:W.cell? ⟨s,3,none⟩=some (.pointer (some ⟨ha,0,none⟩))
 ct:W.cell? ⟨s,4,none⟩=some (.pointer (some ⟨t,0,none⟩))
 heap:Bl W ha a Fh L q mem
 tab:BV W t v most last sl
 cS: ∃S,E=S+1/\W.cell? ⟨S,0,none⟩=some (.pointer (some ⟨s,0,none⟩))
 cE:W.cell? ⟨E,0,none⟩=some (.int .i64 er)
 fE:W.frozen? ⟨E,0,none⟩=false
 cA:W.cell? ⟨A,0,none⟩=some (.int .i64 addr)
 nE: ¬Fh E/\ ¬A6 t v E/\E≠s/\E≠ha/\E≠A/\1<E
 nA: ¬Fh A/\ ¬A6 t v A
 nS: ¬Fh (E-1)/\ ¬A6 t v (E-1)
 ns: ¬Fh s/\ ¬A6 t v s
 ap: ∀b,Fh b-> ¬A6 t v b
 hh: ¬A6 t v ha
 tb: ∀b,A6 t v b->1<b
section
variable {W W':World} {s:Nat} {v':Value}  {Fh':Nat->Prop} {L L':HL} {mem':Nat->Nat} {sl sl':List Sl} {E A er:Nat}
theorem MK.below(h:MK W s a ha t v most last q Fh L mem sl E A er addr)(d:Below W.heap.size W W'):MK W' s a ha t v most last q Fh L mem sl E A er addr:=
 { h with
   ca:=(d.cell (p:=⟨s,2,none⟩) (Al h.ca)).trans h.ca
   ch:=(d.cell (p:=⟨s,3,none⟩) (Al h.ch)).trans h.ch
   ct:=(d.cell (p:=⟨s,4,none⟩) (Al h.ct)).trans h.ct
   heap:=h.heap.below d
   tab:=h.tab.below d
   cS:=by obtain⟨S,h1,I⟩:=h.cS;exact⟨S,h1,(d.cell (p:=⟨S,0,none⟩) (Al I)).trans I⟩
   cE:=(d.cell (p:=⟨E,0,none⟩) (Al h.cE)).trans h.cE
   fE:=(d.frozen (p:=⟨E,0,none⟩) (Al h.cE)).trans h.fE
   cA:=(d.cell (p:=⟨A,0,none⟩) (Al h.cA)).trans h.cA }
theorem MK.RE(h:MK W s a ha t v most last q Fh L mem sl E A er addr)(I :Nat):MK (W.setCell ⟨E,0,none⟩ (.int .i64 (I :Nat))) s a ha t v most last q Fh L mem sl E A I addr:=by
 have d:Ad W (λb=>b=E) (W.setCell ⟨E,0,none⟩ (.int .i64 (I :Nat))) (λb=>b=E):=BK _ _ rfl;obtain⟨n1,n2,n3,O,n5,n6⟩:=h.nE
 exact { h with
  ca:=d.cell h.ca (λe=>n3 e.symm)
  ch:=d.cell h.ch (λe=>n3 e.symm)
  ct:=d.cell h.ct (λe=>n3 e.symm)
  heap:=h.heap.Ar d (λb J e=>n1 (e▸J)) (λe=>O e.symm) (λe=>by omega)
  tab:=h.tab.Ar d (λb J e=>n2 (e▸J))
  cS:=by obtain⟨S,h1,U⟩:=h.cS;exact⟨S,h1,d.cell U (λe=>by simp only at e;omega)⟩
  cE:=World.cell?_setCell_same' _ _ _ (by rw [h.cE];rfl)
  fE:=by simpa using h.fE
  cA:=d.cell h.cA (λe=>n5 e.symm) }
theorem MK.Jr(h:MK W s a ha t v most last q Fh L mem sl E A er addr)(hh:Bl W' ha a Fh' L' q mem')(d:Ad W Fh W' Fh'):MK W' s a ha t v most last q Fh' L' mem' sl E A er addr:=by
 have O:=Al h.cE;have aa:=Al h.cA;have ab:=Al h.ca;obtain⟨S,e,U⟩:=h.cS;have ac:=Al U;have V: ¬Fh S:=by have:=h.nS.1;rwa [e,Nat.add_sub_cancel] at this
 exact { h with
  ca:=d.cell h.ca h.ns.1
  ch:=d.cell h.ch h.ns.1
  ct:=d.cell h.ct h.ns.1
  heap:=hh
  tab:=h.tab.Ar d (λb I J=>h.ap b J I)
  cS:=⟨S,e,d.cell U V⟩
  cE:=d.cell h.cE h.nE.1
  fE:=(World.frozen?_of_block (a:=⟨E,0,none⟩) (d.keep E O h.nE.1)).trans h.fE
  cA:=d.cell h.cA h.nA.1
  nE:=⟨d.not O h.nE.1,h.nE.2⟩
  nA:=⟨d.not aa h.nA.1,h.nA.2⟩
  nS:=⟨by rw [e,Nat.add_sub_cancel];exact d.not ac V,h.nS.2⟩
  ns:=⟨d.not ab h.ns.1,h.ns.2⟩
  ap:=λb I Z=>d.not (h.tab.lt Z) (λJ=>h.ap b J Z) I }
theorem MK.XH(h:MK W s a ha t v most last q Fh L mem sl E A er addr)(Z:BV W' t v' most last sl')(d:Ad W (A6 t v) W' (A6 t v')):MK W' s a ha t v' most last q Fh L mem sl' E A er addr:=by
 have O:=Al h.cE;have aa:=Al h.cA;have ab:=Al h.ca;obtain⟨S,e,U⟩:=h.cS;have ac:=Al U;have V: ¬A6 t v S:=by have:=h.nS.2;rwa [e,Nat.add_sub_cancel] at this
 have I:=h.heap.off;have ag:1<W.heap.size:=Nat.lt_trans (I.2.2.2 a I.2.2.1) (h.heap.lt I.2.2.1);have ae : ∀b,Fh b-> ¬A6 t v' b:=λb J=>d.not (h.heap.lt J) (h.ap b J)
 exact { h with
  ca:=d.cell h.ca h.ns.2
  ch:=d.cell h.ch h.ns.2
  ct:=d.cell h.ct h.ns.2
  heap:=h.heap.Ar d h.ap h.hh (λaf=>Nat.lt_irrefl _ (h.tb _ af))
  tab:=Z
  cS:=⟨S,e,d.cell U V⟩
  cE:=d.cell h.cE h.nE.2.1
  fE:=(World.frozen?_of_block (a:=⟨E,0,none⟩) (d.keep E O h.nE.2.1)).trans h.fE
  cA:=d.cell h.cA h.nA.2
  nE:=⟨h.nE.1,d.not O h.nE.2.1,h.nE.2.2⟩
  nA:=⟨h.nA.1,d.not aa h.nA.2⟩
  nS:=⟨h.nS.1,by rw [e,Nat.add_sub_cancel];exact d.not ac V⟩
  ns:=⟨h.ns.1,d.not ab h.ns.2⟩
  ap:=ae
  hh:=d.not I.2.1 h.hh
  tb:=λb J=>(d.grow b J).elim (λh1=>h.tb b h1) (λh1=>by omega) }
end
section
variable  {s:Nat}  {R:Zr} {H:List Nat} {P G:Nat}
theorem I6{α:Type} [DecidableEq α]: ∀(l H:List α),l.Nodup->(∀x∈l,x∈H)->l.length<=H.length
 | [],H,_,_=>Nat.zero_le _
 |x::t,H,hn,hs=>by
  have hx:=hs x List.mem_cons_self;rw [List.nodup_cons] at hn;have h1:=I6 t (H.erase x) hn.2 (λy d=>(List.mem_erase_of_ne (λ(e:y=x)=>hn.1 (e▸d))).2 (hs y (List.mem_cons_of_mem _ d)));rw [List.length_erase_of_mem hx] at h1;have:=List.length_pos_of_mem hx;simp only [List.length_cons];omega
theorem Ch.Sx{L:HL}{sl:List Sl}(h:Ch w s F R H P q most last G a ha t v L mem sl Fh)(ab:sl.length=most)(O: ∀x∈sl,x.is≠0):most<=H.length\/last<=G:=by
 by_cases I: ∃x∈sl,x.is=2
 . obtain⟨x,hx,U⟩:=I
   right
   rw [<-h.ret x hx U];exact h.Jw x hx
 . left
   have h1: ∀k (d:k<sl.length),Names sl (Bc sl[k].gen k) k:=λk d=>by
    refine⟨d,λ_=> ?_,λ_=>rfl⟩;have ac:=(h.tab.ok _ (List.getElem_mem d)).is;have a2:=O _ (List.getElem_mem d);have a3:sl[k].is≠2:=(λe=>I ⟨_,List.getElem_mem d,e⟩);omega
   have V:=I6 ((List.range sl.length).map λk=>Bc ((sl[k]?).getD ⟨0,0,0⟩).gen k) H ?_ ?_
   . rw [List.length_map,List.length_range] at V;omega
   . refine List.pairwise_map.2 (List.Pairwise.imp_of_mem (R:=λa b=>a<b) (λ{a b} ha Z ae=> ?_) List.pairwise_lt_range)
     intro e;have:=HK (h.SE (by simpa using ha)) (h.SE (by simpa using Z)) e;omega
   . intro y aa
     obtain⟨k,d,rfl⟩:=List.mem_map.1 aa;have J :k<sl.length:=(by simpa using d);rw [List.getElem?_eq_getElem J];exact(h.LC _).2 ⟨k,h1 k J⟩
def Abf(w:World)(s:Nat)(F:Nat->Prop)(R:Zr)(H:List Nat)(P q most last G n:Nat)(e:Ending)(w' :World):Prop:=
 (∃x F',R x=none/\x≠0/\x<18446744073709551616/\e= .returned (.tuple #[.int .u64 (x:Nat), .int .i64 0])/\Am w' s F' (AT R x (some (List.replicate n 0))) (x::H) (P+CC (n+2)) q most last (G+1)/\Ad w F w' F')\/
 (∃er F',e= .returned (.tuple #[.int .u64 0, .int .i64 (er:Nat)])/\((er=3/\q<(P+CC (n+2))*64)\/(er=10/\(most<=H.length\/last<=G)))/\Am w' s F' R H (P+CC (n+2)) q most last G/\Ad w F w' F')
def Yol{P}(h:P:=by
 have I:(addr,Dp (n+2))∈blocks L1:=d.perm.mem_iff.2 List.mem_cons_self;exact I):=h
theorem Lr(h:Am w s F R H P q most last G)(n:Nat)(bs:n<=3998):
 Calls prog 19 #[.pointer (some ⟨s,0,none⟩), .int .i64 n] w (Abf w s F R H P q most last G n):=by
 obtain⟨a,ha,t,v,L,mem,sl,Fh,h⟩:=h;have O:=Zh h;have bu:=YI;have d1:decide ((n:Int)<0)=false:=by simp
 have d2:decide ((3998:Int)<(n:Int))=false:=by simp;omega
 clear h
 go_enter_defers func19,ntmps19
 go_wp2_with fail;have az:Below w.heap.size w ((w.alloc (Obj.cells #[Value.pointer (some { block:=s,off:=0 })] 24)).alloc (Obj.cells #[Value.int IntKind.i64 0] 25)):=((Below.refl _ w).alloc (Nat.le_refl _) _).alloc (by simp) _;have a0:((w.alloc (Obj.cells #[Value.pointer (some { block:=s,off:=0 })] 24)).alloc (Obj.cells #[Value.int IntKind.i64 0] 25)).cell? ⟨w.heap.size,0,none⟩=some (.pointer (some ⟨s,0,none⟩)):=by go_simp
 have an:((w.alloc (Obj.cells #[Value.pointer (some { block:=s,off:=0 })] 24)).alloc (Obj.cells #[Value.int IntKind.i64 0] 25)).cell? ⟨w.heap.size+1,0,none⟩=some (.int .i64 0):=by go_simp
 have aA:((w.alloc (Obj.cells #[Value.pointer (some { block:=s,off:=0 })] 24)).alloc (Obj.cells #[Value.int IntKind.i64 0] 25)).frozen? ⟨w.heap.size+1,0,none⟩=false:=by go_simp
 have bY:((w.alloc (Obj.cells #[Value.pointer (some { block:=s,off:=0 })] 24)).alloc (Obj.cells #[Value.int IntKind.i64 0] 25)).heap.size>=w.heap.size+2:=by simp
 generalize ((w.alloc (Obj.cells #[Value.pointer (some { block:=s,off:=0 })] 24)).alloc (Obj.cells #[Value.int IntKind.i64 0] 25))=W0 at*;have ae:=Zh (O.below az);have bZ:=Zh (Ad.below (F:=F) az);have ac:=Zh az;clear az;refine(Ga ae.out).mono ?_;rintro e w' ⟨rfl,rfl⟩;have aH:=ae.ch;have aI:=ae.ct;have aJ:=ae.ca;go_wp2_with fail;rw [show((n:Int)+2)=((n+2:Nat):Int) by push_cast;rfl];refine(T7 ae.heap (n+2) (by omega) (by omega)).mono ?_;rintro e w1 (⟨addr,aa,L1,aB,rfl,aK,t1,a1,b3⟩|⟨rfl,I,a2⟩)
 . have a3: ∀b,w.heap.size<=b-> ¬F b:=λb J U=>by have:=O.lt U;omega
   have bv:=O.Gu;subst bv;have af: ∀b,w.heap.size<=b-> ¬Fh b:=(λb J U=>a3 b J (.inl U));have aL: ∀b,w.heap.size<=b-> ¬A6 t v b:=(λb J U=>a3 b J (.inr U));have b4:=t1.size;have aM:=O.heap.off;have b5:1<w.heap.size:=Nat.lt_trans (aM.2.2.2 a aM.2.2.1) (O.heap.lt aM.2.2.1);have aN:w.heap.size+1<w1.heap.size:=(by omega);have a4 :w.heap.size<w1.heap.size:=(by omega);have ag: ¬Fh s:=(λU=>O.Hg (.inl U));have bw: ¬A6 t v s:=λU=>O.Hg (.inr U)
   have m0: ∀W,Below w1.heap.size w1 W->W.cell? ⟨w1.heap.size,0,none⟩=some (.int .i64 addr)->MK W s a ha t v most last q aa L1 aB sl (w.heap.size+1) w1.heap.size 0 addr:=λW J bz=>{
    ca:=(J.cell (p:=⟨s,2,none⟩) (Al (t1.cell aJ ag))).trans (t1.cell aJ ag)
    ch:=(J.cell (p:=⟨s,3,none⟩) (Al (t1.cell aH ag))).trans (t1.cell aH ag)
    ct:=(J.cell (p:=⟨s,4,none⟩) (Al (t1.cell aI ag))).trans (t1.cell aI ag)
    heap:=aK.below J
    tab:=(ae.tab.Ar t1 (λb J U=>O.apart b U J)).below J
    cS:=⟨w.heap.size,rfl,(J.cell (p:=⟨w.heap.size,0,none⟩) a4).trans (t1.cell a0 (af _ (Nat.le_refl _)))⟩
    cE:=(J.cell (p:=⟨w.heap.size+1,0,none⟩) aN).trans (t1.cell an (af _ (by simp)))
    fE:=(J.frozen (p:=⟨w.heap.size+1,0,none⟩) aN).trans ((World.frozen?_of_block (a:=⟨w.heap.size+1,0,none⟩) (t1.keep (w.heap.size+1) (by omega) (af (w.heap.size+1) (by omega)))).trans aA)
    cA:=bz
    nE:=⟨t1.not (by omega) (af _ (by omega)),aL _ (by omega),by omega,by omega,by omega,by omega⟩
    nA:=⟨λU=>Nat.lt_irrefl _ (aK.lt U),aL _ (by omega)⟩
    nS:=by rw [Nat.add_sub_cancel];exact⟨t1.not (by omega) (af _ (Nat.le_refl _)),aL _ (Nat.le_refl _)⟩
    ns:=⟨t1.not (Nat.lt_of_lt_of_le bu ac.size) ag,bw⟩
    ap:=λb J a5=>t1.not (ae.tab.lt a5) (λU=>O.apart b U a5) J
    hh:=O.Oo
    tb:=O.Ns }
   have aO :=t1.cell an (af _ (by simp));have aP :=(World.frozen?_of_block (a:=⟨w.heap.size+1,0,none⟩) (t1.keep (w.heap.size+1) (by omega) (af _ (by omega)))).trans aA;have bA:=Zh (Ad.trans (Ad.below (F:=Fh) ac) t1);have bB:=Zh m0;have d:=Zh a1;clear m0 aK t1 a1 aJ aH aI a0 an aA;go_wp2_with fail;obtain⟨V,aC⟩: ∃V,V=(w1.setCell { block:=w.heap.size+1,off:=0 } (Value.int IntKind.i64 0)).alloc (Obj.cells #[Value.int IntKind.i64 addr] 3):=⟨_,rfl⟩;have ah:MK V s a ha t v most last q aa L1 aB sl (w.heap.size+1) w1.heap.size 0 addr:=by
    have ao:=(bB (w1.alloc (Obj.cells #[Value.int IntKind.i64 addr] 3)) ((Below.refl _ _).alloc (Nat.le_refl _) _) (by go_simp)).RE 0;have bC:((w1.alloc (Obj.cells #[Value.int IntKind.i64 addr] 3)).setCell ⟨w.heap.size+1,0,none⟩ (.int .i64 ((0:Nat):Int)))=V:=by
     rw [aC];exact World.setCell_alloc_past _ _ _ _ (by omega)
    rwa [bC] at ao
   have a6:Ad w Fh V aa:=by
    rw [aC];exact(bA.N8 (BK (F:=λb=>b=w.heap.size+1) ⟨w.heap.size+1,0,none⟩ (.int .i64 0) rfl) (λb J=>by omega)).N8 (Ad.below (F:=λ_=>False) ((Below.refl _ _).alloc (Nat.le_refl _) _)) (λ_ h=>h.elim)
   rw [<-aC];have aw:=Zh ah;have a7:=Zh a6;have a8:=ah.ct;have a9:=ah.cA;have aq:=ah.cE;have aD:=ah.fE;obtain⟨S,ar,Z⟩:=ah.cS;have ai:S=w.heap.size:=(by omega);subst ai;clear aO aP aC ah a6 ar;refine Mn ?_
   go_region_with (go_at_call 57;refine(S5 (aw.below (AL V 1)).tab addr (by omega)).mono ?_;rintro e w3 ⟨b8,er,rfl,aQ⟩;obtain⟨ba,z2⟩:=Rc aQ aw.nE.2.1 aq aD;have aR:=Zh aQ;clear aQ)
   all_goals
    dsimp only [K3];rcases aR.out with ⟨rfl,k,g,v',sl',aS,rfl,aj,t3⟩|⟨rfl,rfl,bD,bE,rfl⟩
    . have ab:=(((aw.below (AL V 1)).XH aj t3).RE 0)
      have bF:=Zh aj;have bG:=Zh t3;have bH:=Zh aS;have bI:Bc g k<18446744073709551616/\Bc g k≠0:=by
       obtain⟨bJ,he⟩:=H8 aS;have h1:=(aj.ok _ (List.getElem_mem bJ)).hi;rw [he] at h1;have b9:=aj.l2;have cb:=aj.len;have cc:=aj.m2;unfold Bc;simp only at h1;omega
      obtain⟨bb,bK⟩:=bI;generalize hx:Bc g k=x at*;have bc:=Zh hx;have bd:Ad w3 (λb=>aa b\/b=w.heap.size+1) (w3.setCell ⟨w.heap.size+1,0,none⟩ (.int .i64 ((0:Nat):Int))) (λb=>aa b\/b=w.heap.size+1):=BK _ _ (.inr rfl);have be:=Zh bd;have bL:=Zh ab.nE.2.1;clear aR a8 a9 aq aD Z ba z2 aS aj t3 hx bd;obtain⟨al,au⟩:=Zx (w3.setCell ⟨w.heap.size+1,0,none⟩ (.int .i64 ((0:Nat):Int)));have ax:Hid (MK al s a ha t v' most last q aa L1 aB sl' (w.heap.size+1) w1.heap.size 0 addr):=Zh (au▸ab);rw [<-au] at be ⊢;clear au ab;have aq:=ax.cE;go_wp2_with fail;have aT:=(λX:BL al=>X.cell ax.ca);have aU:=(λX:BL al=>X.cell ax.cA);obtain⟨S,ar,Z⟩:=ax.cS;have ai:S=w.heap.size:=(by omega);subst ai;have aV:=(λX:BL al=>X.cell Z);clear aq Z ar;refine CW 6 (by kernel_rfl) (by kernel_rfl) ?_;simp only [List.take_succ_cons,List.take_zero,List.drop_succ_cons,List.drop_zero]
      repeat (go_big_quiet_step (fail))
      refine wpQuiet_nil ?_;rintro _ ⟨X,rfl⟩;have ay:=Zh (ax.below X.h);have aW:=Zh (Ad.trans be (.below X.h));clear aT aU aV;generalize X.W=cd at*;go_wp2_with fail;have aE:=Yol;have ce:=Fs (n+2);refine(Lu ay.heap aE addr x (Nat.le_refl _) (by simp only;omega) bb).mono ?_;rintro e aX ⟨rfl,bf,t6⟩;have aF:=Zh (ay.Jr bf t6);have bM:=Zh (aW.trans t6.left);clear bf t6;have aT:=(λX:BL aX=>X.cell aF.ca);have aU:=(λX:BL aX=>X.cell aF.cA);obtain⟨S,ar,Z⟩:=aF.cS;have ai:S=w.heap.size:=(by omega);subst ai;have aV:=(λX:BL aX=>X.cell Z);clear Z ar;go_wp2_with fail;refine CW 8 (by kernel_rfl) (by kernel_rfl) ?_;simp only [List.take_succ_cons,List.take_zero,List.drop_succ_cons,List.drop_zero]
      repeat (go_big_quiet_step (fail))
      refine wpQuiet_nil ?_;rintro _ ⟨X,rfl⟩;have aG:=Zh (aF.below X.h);have bN:=Zh (bM.trans (.below X.h));clear aT aU aV;generalize X.W=cf at*;go_wp2_with fail;rw [show((addr:Int)+1)=((addr+1:Nat):Int) by push_cast;rfl];refine(Lu aG.heap aE (addr+1) n (by simp) (by simp only;omega) (by omega)).mono ?_;rintro e bO ⟨rfl,ao,t8⟩;have aY:=Zh ((aG.Jr ao t8).RE 0);have aq:=(aG.Jr ao t8).cE;have aD:=(aG.Jr ao t8).fE;have bP:=Zh ((bN.trans t8.left).trans (BK (F:=λb=>aa b\/b=w.heap.size+1) ⟨w.heap.size+1,0,none⟩ (.int .i64 ((0:Nat):Int)) (.inr rfl)));clear ao t8;go_wp2_with fail;have bQ:=Zh (O.make (X:=λb=>b=w.heap.size+1) bs (a7.N8 (Ad.below (F:=λ_=>False) (AL V 1)) (λ_ h=>h.elim)) d bH bF bG bP (λb J=>by subst J;exact⟨by omega,bL⟩) (by rw [bc.out];exact aY.heap) (λb J=>aw.heap.lt J));refine leaves_cons (f:=55) (args:= #[.pointer (some ⟨w.heap.size+1,0,none⟩), .pointer (some ⟨w.heap.size,0,none⟩), .pointer (some ⟨w1.heap.size,0,none⟩)]) (by simp) (by simp [go_sem]) ?_;refine(Wu ⟨w.heap.size+1,0,none⟩ _ _ .returning _ aY.cE).mono ?_;rintro e bR bg ⟨rfl,rfl,rfl⟩;refine⟨.tuple #[.int .u64 x, .int .i64 0], ?_, ?_⟩
      . have aZ:(bO.setCell ⟨w.heap.size+1,0,none⟩ (.int .i64 0)).cell? ⟨w.heap.size+1,0,none⟩=some (.int .i64 0):=aY.cE
        simp [results,f19,go_sem,aZ]
      . obtain⟨u1,u2,u3⟩:=bQ.out
        rw [bc.out] at u1 u3;exact .inl ⟨x,_,u3,bK,bb,rfl,⟨_,_,_,_,_,_,_,_,u1⟩,u2⟩
    . have ab:=((aw.below (AL V 1)).RE 10)
      have bh:=ab.cE;have bi:=ab.fE;have bj:=Zh ((a7.N8 (Ad.below (F:=λ_=>False) (AL V 1)) (λ_ h=>h.elim)).N8 (BK (F:=λb=>b=w.heap.size+1) ⟨w.heap.size+1,0,none⟩ (.int .i64 ((10:Nat):Int)) rfl) (λb J=>by omega));have bk:=Zh ab;clear aR a8 a9 aq aD Z ba z2 ab;obtain⟨al,au⟩:=Zx ((V.drewN 1).setCell ⟨w.heap.size+1,0,none⟩ (.int .i64 ((10:Nat):Int)));rw [<-au] at bh bi bj bk ⊢;clear au;go_wp2_with fail;refine Mn ?_
      go_region
      all_goals
       dsimp only [K3];have ay:=((bk.RE 10).below (W' :=(al.setCell ⟨w.heap.size+1,0,none⟩ (.int .i64 ((10:Nat):Int))).drew) (AL _ 1));have aW:=Zh ((bj.N8 (BK (F:=λb=>b=w.heap.size+1) ⟨w.heap.size+1,0,none⟩ (.int .i64 ((10:Nat):Int)) rfl) (λb J=>by omega)).N8 (Ad.below (F:=λ_=>False) (AL _ 1)) (λ_ h=>h.elim));have am:=Zh ay;clear ay bh bi;go_wp2_with fail;obtain⟨S,ar,Z⟩:=am.cS;have ai:S=w.heap.size:=(by omega);subst ai;have aE:=Yol;refine leaves_cons (f:=55) (args:= #[.pointer (some ⟨w.heap.size+1,0,none⟩), .pointer (some ⟨w.heap.size,0,none⟩), .pointer (some ⟨w1.heap.size,0,none⟩)]) (by simp) (by simp [go_sem]) ?_;refine(UK ⟨w.heap.size+1,0,none⟩ ⟨w.heap.size,0,none⟩ ⟨w1.heap.size,0,none⟩ .returning _ 10 (by omega) am.cE Z am.cA am.ch (Q:=λw' => ∃F' L' mem',Bl w' ha a F' L' q mem' /\Ad (al.setCell ⟨w.heap.size+1,0,none⟩ (.int .i64 ((10:Nat):Int))).drew aa w' F' /\TQ L1 aB (addr,Dp (n+2)) L' mem') (λX=> ?_)).mono ?_
       . refine(Rh (am.heap.below X.h) (addr,Dp (n+2)) aE).mono ?_
         rintro e w' ⟨F',L',mem',rfl,g1,g2,g3⟩;exact⟨_,rfl,F',L',mem',g1,(Ad.below X.h).trans g2,g3⟩
       . rintro e bR bg ⟨rfl,rfl,F',L',mem',g1,g2,g3⟩
         have bS:=g2.cell am.cE am.nE.1;refine⟨.tuple #[.int .u64 0, .int .i64 10], ?_, ?_⟩
         . have aZ:bg.cell? ⟨w.heap.size+1,0,none⟩=some (.int .i64 10):=bS
           simp [results,f19,go_sem,aZ]
         . have bm:(blocks L').Perm (blocks L):=(g3.perm.symm.trans d.perm).cons_inv
           have cg:=O.Cc;have ci:=d.Cc;have cj:=g3.Cc;obtain⟨u1,u2⟩:=O.YY (P' :=P+CC (n+2)) g1 (aW.trans g2) bm (λc bo i bp bq=>(g3.same c (bm.mem_iff.2 bo) i bp bq).trans (d.same c bo i bp bq)) (by omega);exact .inr ⟨10,_,rfl, .inr ⟨rfl,O.Sx bD bE⟩,⟨_,_,_,_,_,_,_,_,u1⟩,u2⟩
 . have bT:=DR
   have aO :=(I.cell (p:=⟨w.heap.size+1,0,none⟩) (Al an)).trans an;have aP :=(I.frozen (p:=⟨w.heap.size+1,0,none⟩) (Al an)).trans aA;have bU:=Zh a2;have aN:w.heap.size+1<w1.heap.size:=(by have:=I.size;omega);have a4 :w.heap.size<w1.heap.size:=(by omega);clear I a2;go_wp2_with fail;have bV:((w1.setCell { block:=w.heap.size+1,off:=0 } (Value.int IntKind.i64 3)).alloc (Obj.cells #[Value.int IntKind.i64 0] 3)).cell? ⟨w.heap.size+1,0,none⟩=some (.int .i64 3):=(by go_simp);have ck:((w1.setCell { block:=w.heap.size+1,off:=0 } (Value.int IntKind.i64 3)).alloc (Obj.cells #[Value.int IntKind.i64 0] 3)).frozen? ⟨w.heap.size+1,0,none⟩=false:=(by go_simp);have bW:=Zh ((bT.setCell (p:=⟨w.heap.size+1,0,none⟩) (by simp) (.int .i64 3)).alloc (by simp;omega) (Obj.cells #[Value.int IntKind.i64 0] 3));clear aO aP;generalize ((w1.setCell { block:=w.heap.size+1,off:=0 } (Value.int IntKind.i64 3)).alloc (Obj.cells #[Value.int IntKind.i64 0] 3))=W3 at*
   go_region
   all_goals
    go_wp2;refine⟨.tuple #[.int .u64 0, .int .i64 3], ?_, ?_⟩
    . simp [results,f19,go_sem,bV]
    . have br:=(bW.setCell (p:=⟨w.heap.size+1,0,none⟩) (by simp) (.int .i64 3)).drew
      have bX:=O.Cc;exact .inr ⟨3,F,rfl, .inl ⟨rfl,by have:=bU.out;have:=Nat.mul_le_mul_right 64 (Nat.add_le_add_right bX (CC (n+2)));omega⟩,⟨_,_,_,_,_,_,_,_,{ O.below br with Cc:=by omega }⟩, .below br⟩
end
section
variable  {s:Nat}  {R:Zr} {H:List Nat} {P G:Nat}
theorem LQ(h:Am w s F R H P q most last G)(O:R x=some ws):
 Calls prog 40 #[.pointer (some ⟨s,0,none⟩), .int .u64 x] w λe w' => ∃F',e= .returned (.int .i64 0)/\Am w' s F' (AT R x none) (H.erase x) P q most last G/\Ad w F w' F' :=by
 obtain⟨a,ha,t,v,L,mem,sl,Fh,h⟩:=h;obtain⟨k,n,d⟩:=h.record O;have aa:=Zh (Ob h n d);have I:=Zh h;have ab:=Zh d;have ag:=Zh O;have au:=h.ch;have ah:=h.Gu;subst ah;have ac:=Zh (λw' (U:Below w.heap.size w w')=>Rh (h.heap.below U) _ d.Az);have ai: ¬Fh s:=λV=>h.Hg (.inl V)
 clear h d O;obtain⟨addr,Z⟩: ∃addr,(sl[k]'n.lt).addr=addr:=⟨_,rfl⟩;rw [Z] at aa ab ac;have ae:=Zh Z;have J:=Zh n;clear Z;go_enter func40,ntmps40;go_wp2_with fail;refine aa.mono ?_;rintro e w' ⟨rfl,rfl⟩;go_wp2_with fail;refine(ac _ (Below.refl _ _)).mono ?_;rintro e w1 ⟨F',L',mem',rfl,g1,g2,g3⟩;have aw:=g2.cell I.ct ai;have af:=I.tab.Ar g2 (λb U V=>I.apart b V U);have aj:=Zh (λX:BL w1=>Ri (af.below X.h) J J.lt);have al:=Zh g1;have am:=Zh g2;have an:=Zh g3;clear g1 g2 g3 af;go_wp2_with fail;refine(aj ⟨w1,Below.refl _ _⟩).mono ?_;rintro e w2 ⟨rfl,t1,t2⟩;have ao:=Zh t1;have aq:=Zh t2;clear t1 t2;go_wp2;go_ret;have ar:FL L mem x (sl[k]'J.lt).addr ws:=by rw [ae.out];exact ab.out
 obtain⟨u1,u2⟩:=I.drop J ag ar al.out am (by rw [ae.out];exact an.out) ao aq.out;exact⟨_,rfl,⟨_,_,_,_,_,_,_,_,u1⟩,u2⟩
theorem G2{α β:Type}{f:α->β}: ∀{l:List α},(l.map f).Nodup-> ∀{x y:α},x∈l->y∈l->f x=f y->x=y
 | [],_,x,y,hx,_,_=>by simp at hx
 |z::t,hn,x,y,hx,hy,he=>by
  rw [List.map_cons,List.nodup_cons] at hn;rcases List.mem_cons.1 hx with J|h1
  . rcases List.mem_cons.1 hy with d|I
    . rw [J,d]
    . exact absurd (List.mem_map.2 ⟨y,I,by rw [<-he,J]⟩) hn.1
  . rcases List.mem_cons.1 hy with d|I
    . exact absurd (List.mem_map.2 ⟨x,h1,by rw [he,d]⟩) hn.1
    . exact G2 hn.2 h1 I he
def Jl(R:Zr)(H:List Nat)(P n:Nat):Prop:= ∃p,n=64*p/\p<=P/\(H= []->p=0)/\(H.map λx=>((R x).getD []).length+2).sum<=64*p
theorem Ju{L:HL}(d:Lay L)(h:blocks L= []):runs L= []:=by
 cases L with
 |nil=>rfl
 |cons x t=>
  exfalso
  have I:=d.ok x List.mem_cons_self;obtain⟨p,hd⟩:=x;have:A7 (p,hd)= []:=by
   have:=(List.append_eq_nil_iff.1 (show A7 (p,hd)++blocks t= [] from h)).1;exact this
  cases hd with
  |Bz w=>simp [A7] at this
  |small c m=>
   obtain⟨h1,J,O⟩:=I;apply J;apply Nat.eq_of_testBit_eq;intro j;rw [Nat.zero_testBit];by_cases U:j<AX c
   . cases V:m.testBit j with
     |false=>rfl
     |true=>
      have hm:j∈slotsOf c m:=FT.2 ⟨U,V⟩;simp only [A7,List.map_eq_nil_iff] at this;rw [this] at hm;simp at hm
   . exact Nat.testBit_lt_two_pow (Nat.lt_of_lt_of_le O (Nat.pow_le_pow_right (by omega) (by omega)))
theorem WH{l l' :List Nat}(h:l.Perm l'):l.sum=l'.sum:=h.sum_nat
theorem Ch.words{L:HL}{sl:List Sl}(h:Ch w s F R H P q most last G a ha t v L mem sl Fh):Jl R H P (64*(runs L).length):=by
 refine⟨(runs L).length,rfl,h.Cc,λO=> ?_, ?_⟩
 . have h1:=h.perm.length_eq
   rw [O,List.length_map] at h1;rw [Ju h.heap.lay (List.eq_nil_of_length_eq_zero h1.symm)];rfl
 . refine Nat.le_trans ?_ (LP (L:=L) h.heap.lay.ok)
   rw [WH (h.perm.map _),List.map_map];obtain⟨g,hg⟩: ∃g:Nat × Nat->Nat,g=λb=>((R (mem b.1)).getD []).length+2:=⟨_,rfl⟩
   have hle: ∀l:List (Nat × Nat),(∀b∈l,b∈blocks L)->(l.map g).sum<=(l.map (·.2)).sum:=by
    intro l
    induction l with
    |nil=>intro _;simp
    |cons b t ih=>
     intro d;have h1:=ih (λc U=>d c (List.mem_cons_of_mem _ U));have I:=d b List.mem_cons_self;have hx:mem b.1∈H:=h.perm.mem_iff.2 (List.mem_map.2 ⟨b,I,rfl⟩);obtain⟨k,n⟩:=(h.LC _).1 hx;obtain⟨ws,V,J⟩:=h.link _ k n;have ab:=Fs (ws.length+2);have Z:((blocks L).map λb=>mem b.1).Nodup:=h.perm.nodup_iff.1 h.nodup;have aa:b=((sl[k]'n.lt).addr,Dp (ws.length+2)):=G2 Z I J.Az J.h0.symm;have ac:b.2=Dp (ws.length+2):=congrArg Prod.snd aa;have ae:g b=ws.length+2:=(by rw [hg];simp only;rw [V];rfl);simp only [List.map_cons,List.sum_cons];omega
   rw [show((λx=>((R x).getD []).length+2) ∘ λb:Nat × Nat=>mem b.1)=g from hg.symm];exact hle _ (λb d=>d)
end
section
variable  {s:Nat}  {R:Zr} {H:List Nat} {P G:Nat}
def Ymd{P}(h:P:=by
 have I:=Zh (J9 k1.sl (JR d));have hle:64*(runs L).length<=262144:=by have h1:=k1.sl.room;have J:=k1.sl.Dw;rw [k1.sl.count] at h1;omega
 exact And.intro I hle):=h
theorem TJ(h:Am w s F R H P q most last G):
 Calls prog 25 #[.pointer (some ⟨s,0,none⟩)] w λe w' => ∃n:Nat,e= .returned (.int .i64 n)/\Jl R H P n/\n<=262144/\Below w.heap.size w w' :=by
 obtain⟨a,ha,t,v,L,mem,sl,Fh,h⟩:=h;have hN:=Zh (Ga h);have O:=Zh h.words;have aa:=h.ca;obtain⟨⟨mb,D,k1,rfl⟩,d,U⟩:=h.heap;obtain⟨V,hle⟩:=Ymd;generalize (runs L).length=n at*;clear h k1 d U;go_enter func25,ntmps25;go_wp2_with fail;refine hN.mono ?_;rintro e w' ⟨rfl,rfl⟩;go_wp2_with fail;refine V.mono ?_;rintro e w1 ⟨v,rfl,I,J⟩;obtain⟨A,c,rfl⟩:=Bu I;have Z:=Zh J;clear I J;go_wp2;go_ret;exact⟨64*n,by rw [show((64*n:Nat):Int)=(n:Int)*64 by push_cast;omega];rfl,O,hle,Z⟩
end
theorem CU(h:Hc w):1<w.heap.size:=Al (a:=⟨1,0,none⟩) (h 0 (by decide))
theorem MZ(Z:Hc w)(q most last:Nat)(am:q<=262144)(h1:1<=most)(J:most<=65536)(an:1<=last)(ao:last<4294967296):
 Calls prog 8 #[.int .i64 q, .int .i64 most, .int .u32 last] w λe w' => ∃s F,e= .returned (.tuple #[.pointer (some ⟨s,0,none⟩), .int .i64 0])/\Am w' s F (λ_=>none) [] 0 q most last 0/\w.heap.size<=s/\(∀b,F b->w.heap.size<=b)/\Below w.heap.size w w' :=by
 have aq:=CU Z;have ar:=Zh Z;clear Z;go_enter func8,ntmps8;go_wp2_with fail;refine(QY q am _).mono ?_;rintro e w1 ⟨a,mb,rfl,ae,az,aA,af⟩;have V:=Zh ae;have ac:=Zh af;clear ae af;go_wp2_with fail;refine(Xh most last h1 J an ao _).mono ?_;rintro e w2 ⟨t,rfl,ag,aB,I⟩;have ah:=Zh ag;have au:=Zh I;have aw:=Zh (V.below I (λb d=>V.lt d));have ai:=DR;clear ag I;go_wp2_with fail;refine(Ry aw.out (ar.below ai aq) (λb d=> ?_)).mono ?_
 . rcases d with rfl|rfl|⟨p,hp⟩
   . omega
   . omega
   . cases hp
 rintro e w3 ⟨ha,rfl,aj,aC,aa⟩;have ax:=Zh aj;have al:=Zh aa;have ay:=Zh (ah.below aa);clear aj aa;go_wp2
 go_ret2
 have J5:Below w3.heap.size w3 (w3.alloc (.cells #[.int .i64 most, .int .u32 last, .pointer (some ⟨a,0,none⟩), .pointer (some ⟨ha,0,none⟩), .pointer (some ⟨t,0,none⟩)] 75)):=(Below.refl _ _).alloc (Nat.le_refl _) _;have aD:=au.size;have aE:=al.size;have aF:=V.lt (.inl rfl:Bo a mb (.map []) a);have aG:=V.lt (.inr (.inl rfl):Bo a mb (.map []) mb);have aH:=ah.lt (.inl rfl:A6 t (.slice none 0 0) t);have ab: ∀b,Bo a mb (.map []) b->b=a\/b=mb:=λb d=>by
  rcases d with h|h|⟨p,hp⟩
  . exact .inl h
  . exact .inr h
  . cases hp
 have U: ∀b,A6 t (.slice none 0 0) b->b=t:=λb d=>by
  rcases d with h|h
  . exact h
  . simp [Value.ownBlock] at h
 refine⟨w3.heap.size,λb=>Bo a mb (.map []) b\/A6 t (.slice none 0 0) b,rfl,⟨a,ha,t, .slice none 0 0,[],λ_=>0,[],Bo a mb (.map []),{
  ca:=by go_simp
  ch:=by go_simp
  ct:=by go_simp
  heap:=ax.below J5
  tab:=ay.below J5
  Gu:=rfl
  apart:=λb d hg=>by have h1:=U b hg;rcases ab b d with J|J<;>omega
  Hg:=λO=>by
   rcases O with O|O
   . rcases ab _ O with J|J<;>omega
   . have:=U _ O;omega
  Oo:=λO=>by have:=U _ O;omega
  Ns:=λb d=>by have:=U b d;omega
  link:=λh k n=>absurd n.lt (by simp)
  LC:=λh=>⟨λhm=>by simp at hm,λ⟨k,n⟩=>absurd n.lt (by simp)⟩
  Gt :=λ_ _=>rfl
  perm:=List.Perm.refl _
  nodup:=List.Pairwise.nil
  Cc:=by simp [runs]
  Jw:=λx hx=>by simp at hx
  ret:=λx hx=>by simp at hx }⟩,by omega,λb d=>by
   rcases d with d|d
   . rcases ab b d with J|J<;>omega
   . have:=U b d;omega, ?_⟩
 exact ai.trans ((al.mono (by omega)).trans (J5.mono (by omega)))
theorem BV.kb{sl:List Sl}(h:BV w t v most last sl)(I:KB Cs w w')(Z: ∀b,A6 t v b-> ¬Cs b):BV w' t v most last sl:=
 h.same λb d=>by
  have J:=Z b d;rcases d with rfl|d
  . obtain⟨o,O,U⟩:=Hn h.c0
    exact(I.same _ o O (.inl U) J).trans O.symm
  . rcases h.row.2 with ⟨h1,_⟩|⟨g,cap,cur,h1,aa,V,U⟩
    . rw [h1] at d;simp [Value.ownBlock] at d
    . rw [h1] at d
      have:g=b:=(by simpa [Value.ownBlock] using d);subst this;exact(I.same _ _ V (.inl rfl) J).trans V.symm
theorem Bl.kb{L:HL}(h:Bl w ha a F L q mem)(d:KB Cs w w')(h1: ∀k,F k-> ¬Cs k)(I: ¬Cs ha)(J: ¬Cs 1):Bl w' ha a F L q mem:=by
 obtain⟨⟨mb,D,k1,rfl⟩,k2,O⟩:=h;exact⟨⟨mb,D,k1.kb d (λk U V=>h1 k V U) I J,rfl⟩,k2,O⟩
def Rd(N:Nat)(w:World)(s:Nat)(R:Zr)(n:Nat):Prop:=
 ∃F H P q most last G a ha t v L mem sl Fh,Ch w s F R H P q most last G a ha t v L mem sl Fh/\n=64*(runs L).length/\(∀b,F b->b<N)/\s<N/\ha<N/\1<N
section
variable  {s N:Nat}  {R:Zr} {H:List Nat} {P G n:Nat}
theorem Rd.below(h:Rd N w s R n)(d:Below w.heap.size w w'):Rd N w' s R n:=by
 obtain⟨F,H,P,q,most,last,G,a,ha,t,v,L,mem,sl,Fh,h,I⟩:=h;exact⟨F,H,P,q,most,last,G,a,ha,t,v,L,mem,sl,Fh,h.below d,I⟩
theorem Rd.mono{d :Nat}(h:Rd N w s R n)(hN:N<=d):Rd d w s R n:=by
 obtain⟨F,H,P,q,most,last,G,a,ha,t,v,L,mem,sl,Fh,h,I,h1,O,U,V⟩:=h;exact⟨F,H,P,q,most,last,G,a,ha,t,v,L,mem,sl,Fh,h,I,λb J=>Nat.lt_of_lt_of_le (h1 b J) hN,by omega,by omega,by omega⟩
theorem Rd.kb(h:Rd N w s R n)(I:KB Cs w w')(aa: ∀k,Cs k->N<=k):Rd N w' s R n:=by
 obtain⟨F,H,P,q,most,last,G,a,ha,t,v,L,mem,sl,Fh,h,ab,h1,J,U,V⟩:=h;have d: ∀b,b<N-> ¬Cs b:=λb ae ac=>by have:=aa b ac;omega
 have Z:=h.Gu
 refine⟨F,H,P,q,most,last,G,a,ha,t,v,L,mem,sl,Fh,{ h with
  ca:=I.cell h.ca (d _ J)
  ch:=I.cell h.ch (d _ J)
  ct:=I.cell h.ct (d _ J)
  heap:=h.heap.kb I (λk O=>d k (h1 k (by rw [Z];exact .inl O))) (d _ U) (d _ V)
  tab:=h.tab.kb I (λk O=>d k (h1 k (by rw [Z];exact .inr O))) },ab,h1,J,U,V⟩
def Ycl{P}(h:P:=by
 obtain⟨⟨mb,D,k1,rfl⟩,k2,d⟩:=h.heap;exact Al (a:=⟨1,0,none⟩) (k1.tab 0 (by decide))):=h
def Z7{P}(h:P:=by
 obtain⟨⟨mb,D,k1,rfl⟩,k2,d⟩:=h.heap;exact Al k1.hs):=h
theorem Am.rd(h:Am w s F R H P q most last G): ∃n,Rd w.heap.size w s R n/\Jl R H P n:=by
 obtain⟨a,ha,t,v,L,mem,sl,Fh,h⟩:=h;refine⟨_,⟨F,H,P,q,most,last,G,a,ha,t,v,L,mem,sl,Fh,h,rfl,λb d=>h.lt d,Al (a:=⟨s,2,none⟩) h.ca, ?_, ?_⟩,h.words⟩
 . exact Z7
 . exact Ycl
theorem Rd.is(h:Rd N w s R n): ∃F H P q most last G,Am w s F R H P q most last G:=by
 obtain⟨F,H,P,q,most,last,G,a,ha,t,v,L,mem,sl,Fh,h,_⟩:=h;exact⟨F,H,P,q,most,last,G,a,ha,t,v,L,mem,sl,Fh,h⟩
theorem Rd.here(h:Rd N w s R n):Rd w.heap.size w s R n:=by
 obtain⟨F,H,P,q,most,last,G,a,ha,t,v,L,mem,sl,Fh,h,d,h1,J,O,U⟩:=h;refine⟨F,H,P,q,most,last,G,a,ha,t,v,L,mem,sl,Fh,h,d,λb I=>h.lt I,Al (a:=⟨s,2,none⟩) h.ca, ?_, ?_⟩
 . exact Z7
 . exact Ycl
theorem Rd.le(h:Rd N w s R n):n<=262144:=by
 obtain⟨F,H,P,q,most,last,G,a,ha,t,v,L,mem,sl,Fh,h,rfl,_⟩:=h;obtain⟨⟨mb,D,k1,rfl⟩,d,I⟩:=h.heap;have h1:=k1.sl.room;have J:=k1.sl.Dw;rw [k1.sl.count] at h1;omega
theorem Rd.u64(h:Rd N w s R n)(d:R x=some ws):x<18446744073709551616/\ws.length<=3998/\ ∀i (hi:i<ws.length),ws[i]<18446744073709551616:=by
 obtain⟨F,H,P,q,most,last,G,a,ha,t,v,L,mem,sl,Fh,h,_⟩:=h;obtain⟨k,J,I⟩:=h.record d;obtain⟨⟨mb,D,k1,rfl⟩,O,U⟩:=h.heap;exact⟨h.R64 d,I.len,λi hi=>I.wd i hi▸k1.sl.word _⟩
theorem HF(h:Rd N w s R n)(x:Nat)(hx:x<18446744073709551616):
 Calls prog 67 #[.pointer (some ⟨s,0,none⟩), .int .u64 x] w λe w' =>e= .returned (KX R x)/\w=w' :=by
 obtain⟨F,H,P,q,most,last,G,h⟩:=h.is;exact IX h x hx
theorem Q2(h:Rd N w s R n){i:Nat}(d:R x=some ws)(hi:i<ws.length):
 Calls prog 121 #[.pointer (some ⟨s,0,none⟩), .int .u64 x, .int .i64 i] w λe w' =>e= .returned (.tuple #[.int .u64 (ws[i]:Nat), .int .i64 0])/\w=w' :=by
 obtain⟨F,H,P,q,most,last,G,h⟩:=h.is;exact Xn h d hi
theorem S3(h:Rd N w s R n):
 Calls prog 25 #[.pointer (some ⟨s,0,none⟩)] w λe w' =>e= .returned (.int .i64 n)/\Below w.heap.size w w' :=by
 obtain⟨F,H,P,q,most,last,G,a,ha,t,v,L,mem,sl,Fh,h,rfl,_⟩:=h;have hN:=Zh (Ga h);have Z:=h.ca;obtain⟨⟨mb,D,k1,rfl⟩,d,O⟩:=h.heap;obtain⟨U,_⟩:=Ymd;generalize (runs L).length=n at*;clear h k1 d O;go_enter func25,ntmps25;go_wp2_with fail;refine hN.mono ?_;rintro e w' ⟨rfl,rfl⟩;go_wp2_with fail;refine U.mono ?_;rintro e w1 ⟨v,rfl,I,J⟩;obtain⟨A,c,rfl⟩:=Bu I;have V:=Zh J;clear I J;go_wp2;go_ret;exact⟨by rw [show((64*n:Nat):Int)=(n:Int)*64 by push_cast;omega];rfl,V⟩
end
