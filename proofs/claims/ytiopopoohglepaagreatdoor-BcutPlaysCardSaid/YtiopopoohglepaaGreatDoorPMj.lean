/- A part. -/
import Derived.Test.YtiopopoohglepaaGreatDoorPMi
import Derived.Maps.AppendAt
set_option linter.all false
set_option maxRecDepth 100000
set_option maxHeartbeats 2000000
namespace Go.Proofs.YtiopopoohglepaaGreatDoor
open Go.Proofs.Tryz
open Go.RowKit Go.Shelf
variable {A B:Nat->Prop}{addr b c g h i k k' last most n t u x y:Nat}{mem:Nat->Nat}{v:Value}{w w' w1 w2:World}{ws:List Nat}
theorem Tryz.P2:Tryz.prog.underlying 127=some (.slice 182):=by kernel_rfl
theorem Tryz.Ty:(Tryz.prog.info? 182).map (λi=>(i.zero,i.size,i.bytes))=some (some (.agg #[.int .i64 0, .int .u32 0, .int .i64 0]),3,24):=by kernel_rfl
structure GX(sl:List Sl)(addr k g:Nat)(sl' :List Sl):Prop where
 Gk:(∃hk:k<sl.length,sl[k].is=0/\g=sl[k].gen+1/\sl' =sl.set k ⟨1,g,addr⟩)\/(k=sl.length/\g=1/\sl' =sl++ [⟨1,1,addr⟩])
theorem BV.Vg{sl:List Sl}(h:BV w t v most last sl){sl0:List Sl}(I:k<sl0.length)(s:Sl)(hs:s.Ok last)(O: ∀x∈sl0,x∈sl\/x=⟨0,0,0⟩)(h0: ∀x∈(sl0.set k s),x∈sl\/x=s)(hlen:sl0.length<=most)
 (c0:w'.cell? ⟨t,0,none⟩=w.cell? ⟨t,0,none⟩) (c1:w'.cell? ⟨t,1,none⟩=w.cell? ⟨t,1,none⟩) (c2:w'.cell? ⟨t,2,none⟩=some (.slice (some ⟨g,0,none⟩) sl0.length c)) (f2:w'.frozen? ⟨t,2,none⟩=false) (Iw:g≠t)
 (J:w'.ownsRow 0 182 3 (.slice (some ⟨g,0,none⟩) sl0.length c) sl0.length ((((BP sl0).set (k*3) (.int .i64 s.is)).set (k*3+1) (.int .u32 s.gen)).set (k*3+2) (.int .i64 s.addr))):
 BV w' t (.slice (some ⟨g,0,none⟩) sl0.length c) most last (sl0.set k s) where
 c0:=c0.trans h.c0
 c1:=c1.trans h.c1
 c2:=c2
 f2:=f2
 row:=by rw [List.length_set,OP sl0 k I s];exact J
 off:=by simp [Value.ownBlock,Iw]
 m1:=h.m1
 m2:=h.m2
 l1:=h.l1
 l2:=h.l2
 len:=by rw [List.length_set];exact hlen
 ok:=λx hx=>by
  rcases h0 x hx with h1|h1
  . exact h.ok x h1
  . rw [h1];exact hs
theorem Ot{gen:Nat}(h:gen<last)(ha:addr<1099511627776):(⟨1,gen+1,addr⟩:Sl).Ok last:=⟨(show(1:Nat)<=2 by omega),Nat.le_add_left 1 gen,h,(λe=>by cases e),ha⟩
theorem Og{F:Nat->Prop}(d g i j k:Nat)(u v x:Value)(I:F g):Ad w F ((((w.drewN d).setCell ⟨g,i,none⟩ u).setCell ⟨g,j,none⟩ v).setCell ⟨g,k,none⟩ x) F:=
 (((Ad.below (AL w d)).trans (BJ _ _ I)).trans (BJ _ _ I)).trans (BJ _ _ I)
theorem Mc(d g t i j k:Nat)(u v x:Value)(h:t≠g):((((w.drewN d).setCell ⟨g,i,none⟩ u).setCell ⟨g,j,none⟩ v).setCell ⟨g,k,none⟩ x).heap[t]? =w.heap[t]? :=
 (Below.heap_setCell _ _ _ t h).trans ((Below.heap_setCell _ _ _ t h).trans (Below.heap_setCell (w.drewN d) _ _ t h))
theorem PH{e:TypeId}{xs:List Value}(I:w.ownsRow 0 e 3 (.slice (some ⟨g,0,none⟩) n c) n xs)(d i j k:Nat)(u v x:Value):
 ((((w.drewN d).setCell ⟨g,i,none⟩ u).setCell ⟨g,j,none⟩ v).setCell ⟨g,k,none⟩ x).ownsRow 0 e 3 (.slice (some ⟨g,0,none⟩) n c) n (((xs.set i u).set j v).set k x):=
 ((((Gj I d).stored i u).1.stored j v).1.stored k x).1
theorem Ss(w:World)(u v x:Value)(T:TypeId): ∀(j:Nat) (y:Value),[u,v,x][j]? =some y->(w.alloc (.cells #[u,v,x] T)).cell? ((⟨w.heap.size,0,none⟩:Addr).add j)=some y:=by
 intro j y h;have I:j<3:=by
  by_cases hh:j<3
  . exact hh
  . rw [List.getElem?_eq_none (by simp;omega)] at h;cases h
 have:j=0\/j=1\/j=2:=by omega
 rcases this with rfl|rfl|rfl<;>(simp at h;subst h;simp only [Addr.add];go_simp)
theorem JV (W:World)(b o:Nat)(v:Value):W.grownBy (W.setCell ⟨b,o,none⟩ v) (some b):=
 ⟨rfl,rfl,rfl,by simp,λk _ I=>Below.heap_setCell _ _ _ k (λe=>I (by rw [e]))⟩
theorem QO{tmp:Obj}(O:t<w.heap.size)(I:v.ownBlock≠some t)(hg:(w.alloc tmp).grownBy w1 v.ownBlock)(J:(Value.slice (some ⟨g,0,none⟩) n c).ownBlock=v.ownBlock\/(Value.slice (some ⟨g,0,none⟩) n c).ownBlock=some (w.alloc tmp).heap.size):
 w1.heap[t]? =w.heap[t]? /\g≠t:=by
 refine⟨(hg.block t (by simp;omega) (λe=>I e.symm)).trans (Below.heap_alloc w tmp t O), ?_⟩;rintro rfl;have e:(Value.slice (some ⟨g,0,none⟩) n c).ownBlock=some g:=rfl;rw [e] at J;rcases J with h1|h1
 . exact I h1.symm
 . simp at h1;omega
theorem RF{u:Value}{tmp:Obj}(Z:t<w.heap.size)(hg:(w.alloc tmp).grownBy w1 v.ownBlock)(J:(Value.slice (some ⟨g,0,none⟩) n c).ownBlock=v.ownBlock\/(Value.slice (some ⟨g,0,none⟩) n c).ownBlock=some (w.alloc tmp).heap.size):
 Ad w (A7 t v) (w1.setCell ⟨t,2,none⟩ u) (A7 t (.slice (some ⟨g,0,none⟩) n c)):=by
 have U:=hg.size;simp at U;refine⟨hg.os,hg.tape,hg.output,by simp;omega,λk I O=> ?_,λk I=> ?_⟩
 . have h1:k≠t:=λe=>O (.inl e)
   have V:some k≠v.ownBlock:=(λe=>O (.inr e.symm));exact(Below.heap_setCell _ _ _ k h1).trans ((hg.block k (by simp;omega) V).trans (Below.heap_alloc w tmp k I))
 . rcases I with rfl|I
   . exact .inl (.inl rfl)
   . rw [I] at J
     rcases J with h1|h1
     . exact .inl (.inr h1.symm)
     . simp at h1;exact .inr (by omega)
theorem WZ{sl:List Sl}(V:BV w t v most last sl)(addr:Nat)(ha:addr<1099511627776):
 Calls prog 57 #[.pointer (some ⟨t,0,none⟩), .int .i64 addr] w λe w' =>
  (∃k g v' sl',GX sl addr k g sl' /\e= .returned (.tuple #[.int .u64 (Bd g k:Nat), .int .i64 0])/\BV w' t v' most last sl' /\Ad w (A7 t v) w' (A7 t v'))\/
  (sl.length=most/\(∀s∈sl,s.is≠0)/\e= .returned (.tuple #[.int .u64 0, .int .i64 10])/\w=w'):=by
 obtain⟨i0,hi,aR,aS,aT⟩:=info_parts Tryz.Ty;have hN:=Zh (Ll V);have O:=Zh V;have h0:=V.c0;have aH:=V.c2;have hlen:=V.len;have bd:=V.m2;have be:=V.l2;obtain⟨A,c,rfl⟩:=V.Pg;clear V;go_enter func57,ntmps57;go_wp2_with fail;refine hN.mono ?_;rintro e w' ⟨rfl,rfl⟩;go_wp2_with fail
 go_loop [6] (λan=> ∃k:Nat,k<=sl.length/\an= .int .i64 k/\Hid (∀j (ac:j<sl.length),j<k->sl[j].is≠0)) (λan=>sl.length+1-(intOf an).toNat)
 case atStart=>exact⟨0,by omega,rfl,Zh (by intro j ac h;omega)⟩
 case round=>
  obtain⟨k,bf,rfl,aI⟩:=hrel;by_cases ae:k<sl.length
  . obtain⟨g,bg,aU,hg,aV,s1,s2,f0,f1,f2,ao⟩:=O.slot ae
    cases aU
    have aq:=O.ok _ (List.getElem_mem ae);have al:=aq.free;obtain⟨is,af⟩: ∃is,sl[k].is=is:=⟨_,rfl⟩;rw [af] at aV al;by_cases ar:is=0
    . subst ar
      have aJ:=al rfl;have d1:decide ((sl.length:Int)=(most:Int))=decide ((sl.length:Int)=(most:Int)):=rfl;have aW:((k:Int)==(most:Int))=false:=(by simp;omega);have aX:((k:Int)==(sl.length:Int))=false:=(by simp;omega);obtain⟨gen,au⟩: ∃gen,sl[k].gen=gen:=⟨_,rfl⟩;rw [au] at s1 aJ;have Iw:g≠t:=(λe=>O.off (by rw [e];rfl));have aK:A7 t (.slice (some ⟨g,0,none⟩) sl.length c) g:= .inr rfl
      have ag:Hid (∀W:World,W.heap[t]? =w.heap[t]? ->W.ownsRow 0 182 3 (.slice (some ⟨g,0,none⟩) sl.length c) sl.length ((((BP sl).set (k*3) (.int .i64 (1:Nat))).set (k*3+1) (.int .u32 (gen+1:Nat))).set (k*3+2) (.int .i64 addr))->
       BV W t (.slice (some ⟨g,0,none⟩) sl.length c) most last (sl.set k ⟨1,gen+1,addr⟩)):=Zh (λW U aw=>by
       refine O.Vg ae ⟨1,gen+1,addr⟩ (Ot aJ ha) (λx hx=> .inl hx) (λx hx=> ?_) hlen (World.cell?_of_block (a:=⟨t,0,none⟩) U) (World.cell?_of_block (a:=⟨t,1,none⟩) U) ((World.cell?_of_block (a:=⟨t,2,none⟩) U).trans O.c2) ((World.frozen?_of_block (a:=⟨t,2,none⟩) U).trans O.f2) Iw aw;exact List.mem_or_eq_of_mem_set hx)
      have aY:=Zh au;have ax:=Zh af;have ay:=Zh ao;clear au af al aq ao d1;go_wp2_with fail;refine Cj 17 (by kernel_rfl) (by kernel_rfl) ?_;simp only [List.take_succ_cons,List.take_zero,List.drop_succ_cons,List.drop_zero]
      repeat (go_big_quiet_step (fail))
      refine wpQuiet_nil ?_;rintro _ ⟨aa,rfl⟩;have ah:=Zh (ag _ (Mc aa g t (k*3) (k*3+1) (k*3+2) (.int .i64 1) (.int .u32 ((gen:Int)+1)) (.int .i64 addr) (Ne.symm Iw)) (PH ay aa (k*3) (k*3+1) (k*3+2) (.int .i64 1) (.int .u32 ((gen:Int)+1)) (.int .i64 addr)));have az:=Zh (Og (w:=w) aa g (k*3) (k*3+1) (k*3+2) (.int .i64 1) (.int .u32 ((gen:Int)+1)) (.int .i64 addr) aK);have ab:=Ry ah.out (k:=k) (by rw [List.length_set];exact ae);rw [List.getElem_set_self] at ab;have aA:=Zh ab;clear ab ag;go_wp2_with fail;refine aA.mono ?_;rintro e w' ⟨rfl,rfl⟩;go_wp2
      go_ret2
      exact .inl ⟨k,gen+1,_,_,⟨.inl ⟨ae,ax,by rw [aY.out],rfl⟩⟩,rfl,ah,az⟩
    . have d1:((is:Int) !=0)=true:=by simp;omega
      have ax:Hid (sl[k].is≠0):=Zh (by rw [af];exact ar);clear ar af aq al ao;go_wp2
      go_round
      case rel=>exact⟨k+1,by omega,by go_num,Zh (λj ac aZ=>by
       rcases Nat.lt_succ_iff_lt_or_eq.1 aZ with a0|rfl
       . exact aI.out j ac a0
       . exact ax.out)⟩
      case measure=>simp [intOf];omega
  . obtain rfl:k=sl.length:=by omega
    by_cases ai:sl.length=most
    . have d1:((sl.length:Int)==(most:Int))=true:=by simp [ai]
      have aB:=Zh ai;clear ai;go_wp2
      go_ret2
      exact .inr ⟨aB,λs hs=>by
       obtain⟨j,ac,rfl⟩:=List.getElem_of_mem hs;exact aI.out j ac ac,rfl,rfl⟩
    . have aW:((sl.length:Int)==(most:Int))=false:=by simp;omega
      have aX:((sl.length:Int)==(sl.length:Int))=true:=(by simp);have a1:=O.f2;have ay:=Zh O.row;have aB:=Zh ai;have aL:t<w.heap.size:=O.lt (.inl rfl);clear ai;have a2:=Zh O.off;have aK:Hid (∀b,(Value.slice A sl.length c).ownBlock=some b->A7 t (.slice A sl.length c) b):=Zh (λb U=> .inr U);go_wp2_with (at_builtin;go_must (refine wpList_append_own_at _ rfl _ _ 127 rfl 0 182 i0 (.agg #[.int .i64 0, .int .u32 0, .int .i64 0]) 3 24 Tryz.P2 hi aR aS aT rfl (by decide) _ _ _ rfl (ay.alloc _) ⟨w.heap.size,0,none⟩ 1 1 [.int .i64 0, .int .u32 0, .int .i64 0] rfl rfl (Ss w _ _ _ _) (by simp [Value.oneCell']) (by unfold maxLen;omega) (by omega) (by omega) ?_);intro v' w1 aC aD _ aE;obtain⟨I,J,rfl⟩:=ownsRow_succ aC;obtain⟨am,aF⟩:=QO aL a2 aD aE;have aM :=(World.cell?_of_block (a:=⟨t,2,none⟩) am).trans aH;have aN :=(World.frozen?_of_block (a:=⟨t,2,none⟩) am).trans a1;have a3:=Zh aC;have a4:=Zh aD;have a5:=Zh aE;have aG:=Zh am;clear aC aD aE am);have a6:(w1.setCell ⟨t,2,none⟩ (.slice (some ⟨I,0,none⟩) (sl.length+1) J)).cell? ⟨t,0,none⟩=some (.int .i64 most):=(World.cell?_setCell_other _ _ _ _ (by simp)).trans ((World.cell?_of_block (a:=⟨t,0,none⟩) aG).trans h0);have aO:(w1.setCell ⟨t,2,none⟩ (.slice (some ⟨I,0,none⟩) (sl.length+1) J)).cell? ⟨t,1,none⟩=w.cell? ⟨t,1,none⟩:=(World.cell?_setCell_other _ _ _ _ (by simp)).trans (World.cell?_of_block (a:=⟨t,1,none⟩) aG);have a7:(w1.setCell ⟨t,2,none⟩ (.slice (some ⟨I,0,none⟩) (sl.length+1) J)).cell? ⟨t,2,none⟩=some (.slice (some ⟨I,0,none⟩) (sl.length+1) J):=World.cell?_setCell_same' _ _ _ (by rw [aM];rfl);have a8:(w1.setCell ⟨t,2,none⟩ (.slice (some ⟨I,0,none⟩) (sl.length+1) J)).frozen? ⟨t,2,none⟩=false:=(by simpa using aN);have Z:=a3.kept (w' :=w1.setCell ⟨t,2,none⟩ (.slice (some ⟨I,0,none⟩) (sl.length+1) J)) (JV w1 t 2 (.slice (some ⟨I,0,none⟩) (sl.length+1) J)) (.inr (by simp [Value.ownBlock,aF]));rw [show BP sl++ [Value.int IntKind.i64 0,Value.int IntKind.u32 0,Value.int IntKind.i64 0]=BP (sl++ [⟨0,0,0⟩]) from(Ox sl ⟨0,0,0⟩).symm] at Z;have aj:(sl++ [(⟨0,0,0⟩:Sl)]).length=sl.length+1:=(by simp);have aP:Ad w (A7 t (.slice A sl.length c)) (w1.setCell ⟨t,2,none⟩ (.slice (some ⟨I,0,none⟩) (sl.length+1) J)) (A7 t (.slice (some ⟨I,0,none⟩) (sl.length+1) J)):=RF aL a4 a5.out;have a9:=Zh aP;have ba:=Zh Z;have bh:(w1.setCell ⟨t,2,none⟩ (.slice (some ⟨I,0,none⟩) (sl.length+1) J)).cell? ⟨I,sl.length*3+1,none⟩=some (.int .u32 0):=by
       rw [Z.cellAt _ (by omega)];have:=Fz (sl++ [(⟨0,0,0⟩:Sl)]) sl.length (by simp) 1 (by omega);rw [show sl.length*3+1=3*sl.length+1 by omega,this];simp
      have bi:(w1.setCell ⟨t,2,none⟩ (.slice (some ⟨I,0,none⟩) (sl.length+1) J)).cell? ⟨I,sl.length*3,none⟩=some (.int .i64 0):=by
       rw [Z.cellAt _ (by omega)];have:=Fz (sl++ [(⟨0,0,0⟩:Sl)]) sl.length (by simp) 0 (by omega);rw [show sl.length*3=3*sl.length+0 by omega,this];simp
      have bj:(w1.setCell ⟨t,2,none⟩ (.slice (some ⟨I,0,none⟩) (sl.length+1) J)).cell? ⟨I,sl.length*3+2,none⟩=some (.int .i64 0):=by
       rw [Z.cellAt _ (by omega)];have:=Fz (sl++ [(⟨0,0,0⟩:Sl)]) sl.length (by simp) 2 (by omega);rw [show sl.length*3+2=3*sl.length+2 by omega,this];simp
      have z0:=Z.frozenAt (sl.length*3);have bk:=Z.frozenAt (sl.length*3+1);have z2:=Z.frozenAt (sl.length*3+2);have bb:=Zh aO;clear Z aP aM aN aO;generalize (w1.setCell ⟨t,2,none⟩ (.slice (some ⟨I,0,none⟩) (sl.length+1) J))=W2 at*
      have ag:Hid (∀W:World,W.heap[t]? =W2.heap[t]? ->W.ownsRow 0 182 3 (.slice (some ⟨I,0,none⟩) (sl.length+1) J) (sl.length+1) ((((BP (sl++ [⟨0,0,0⟩])).set (sl.length*3) (.int .i64 (1:Nat))).set (sl.length*3+1) (.int .u32 (0+1:Nat))).set (sl.length*3+2) (.int .i64 addr))->
       BV W t (.slice (some ⟨I,0,none⟩) (sl.length+1) J) most last (sl++ [⟨1,0+1,addr⟩])):=Zh (λW U aw=>by
       have bm:=O.l1;have aQ:=O.Vg (w' :=W) (k:=sl.length) (sl0:=sl++ [(⟨0,0,0⟩:Sl)]) (g:=I) (c:=J) (by simp) ⟨1,0+1,addr⟩ (Ot (by omega) ha) (λx hx=>by simpa using hx) (λx hx=>by
        rw [List.set_append_right _ _ (Nat.le_refl _)] at hx
        simpa using hx) (by rw [aj];have:=aB.out;omega) (((World.cell?_of_block (a:=⟨t,0,none⟩) U).trans a6).trans h0.symm) ((World.cell?_of_block (a:=⟨t,1,none⟩) U).trans bb) (by rw [aj];exact(World.cell?_of_block (a:=⟨t,2,none⟩) U).trans a7) ((World.frozen?_of_block (a:=⟨t,2,none⟩) U).trans a8) aF (by rw [aj];exact aw)
       rw [aj,List.set_append_right _ _ (Nat.le_refl _)] at aQ
       simpa using aQ)
      have bc:A7 t (.slice (some ⟨I,0,none⟩) (sl.length+1) J) I := .inr rfl;clear aj aH h0 aG;refine Cj 17 (by kernel_rfl) (by kernel_rfl) ?_;simp only [List.take_succ_cons,List.take_zero,List.drop_succ_cons,List.drop_zero]
      repeat (go_big_quiet_step (fail))
      refine wpQuiet_nil ?_;rintro _ ⟨aa,rfl⟩;have ah:=Zh (ag _ (Mc aa I t (sl.length*3) (sl.length*3+1) (sl.length*3+2) (.int .i64 1) (.int .u32 1) (.int .i64 addr) (Ne.symm aF)) (PH ba aa (sl.length*3) (sl.length*3+1) (sl.length*3+2) (.int .i64 1) (.int .u32 1) (.int .i64 addr)));have az:=Zh (a9.trans (Og (w:=W2) aa I (sl.length*3) (sl.length*3+1) (sl.length*3+2) (.int .i64 1) (.int .u32 1) (.int .i64 addr) bc));have ab:=Ry ah.out (k:=sl.length) (by simp);rw [List.getElem_concat_length (by rfl)] at ab;have aA:=Zh ab;clear ab ag;go_wp2_with fail;refine aA.mono ?_;rintro e w' ⟨rfl,rfl⟩;go_wp2
      go_ret2
      exact .inl ⟨sl.length,1,_,_,⟨.inr ⟨rfl,rfl,rfl⟩⟩,rfl,ah,az⟩
structure FN(L:HL)(mem:Nat->Nat)(h addr:Nat)(ws:List Nat):Prop where
 Az:(addr,Du (ws.length+2))∈blocks L
 h0:mem addr=h
 h1:mem (addr+1)=ws.length
 wd: ∀i (hi:i<ws.length),mem (addr+2+i)=ws[i]
 len:ws.length<=3998
structure Ch(w:World)(s:Nat)(F:Nat->Prop)(R:Zr)(H:List Nat)(P q most last G a ha t:Nat)(v:Value)(L:HL)(mem:Nat->Nat)(sl:List Sl)(Fh:Nat->Prop):Prop where
 ca:w.cell? ⟨s,2,none⟩=some (.pointer (some ⟨a,0,none⟩))
 ch:w.cell? ⟨s,3,none⟩=some (.pointer (some ⟨ha,0,none⟩))
 ct:w.cell? ⟨s,4,none⟩=some (.pointer (some ⟨t,0,none⟩))
 heap:Bm w ha a Fh L q mem
 tab:BV w t v most last sl
 Gu:F=λb=>Fh b\/A7 t v b
 apart: ∀b,Fh b-> ¬A7 t v b
 Hb: ¬F s
 Ov: ¬A7 t v ha
 Nv: ∀b,A7 t v b->1<b
 link: ∀h k (n:Names sl h k),∃ws,R h=some ws/\FN L mem h (sl[k]'n.lt).addr ws
 LJ: ∀h,h∈H↔ ∃k,Names sl h k
 Gt : ∀h,h∉H->R h=none
 perm:H.Perm ((blocks L).map λb=>mem b.1)
 nodup:H.Nodup
 Cb:(runs L).length<=P
 Jv: ∀x∈sl,x.gen<=G
 ret: ∀x∈sl,x.is=2->x.gen=last
def Ah(w:World)(s:Nat)(F:Nat->Prop)(R:Zr)(H:List Nat)(P q most last G:Nat):Prop:=
 ∃a ha t v L mem sl Fh,Ch w s F R H P q most last G a ha t v L mem sl Fh
section
variable  {s:Nat} {F:Nat->Prop} {R:Zr} {H:List Nat} {P q G a ha:Nat}  {L:HL}  {sl:List Sl} {Fh:Nat->Prop}
theorem Ch.below(h:Ch w s F R H P q most last G a ha t v L mem sl Fh)(I:Below w.heap.size w w'):Ch w' s F R H P q most last G a ha t v L mem sl Fh:=
 { h with
   ca:=(I.cell (p:=⟨s,2,none⟩) (Am h.ca)).trans h.ca
   ch:=(I.cell (p:=⟨s,3,none⟩) (Am h.ch)).trans h.ch
   ct:=(I.cell (p:=⟨s,4,none⟩) (Am h.ct)).trans h.ct
   heap:=h.heap.below I
   tab:=h.tab.below I }
theorem Ah.below(h:Ah w s F R H P q most last G)(I:Below w.heap.size w w'):Ah w' s F R H P q most last G:=by
 obtain⟨a,ha,t,v,L,mem,sl,Fh,h⟩:=h;exact⟨a,ha,t,v,L,mem,sl,Fh,h.below I⟩
theorem Ch.lt(h:Ch w s F R H P q most last G a ha t v L mem sl Fh)(I:F b):b<w.heap.size:=by
 have:=h.Gu;subst this;rcases I with h1|h1
 . exact h.heap.lt h1
 . exact h.tab.lt h1
theorem Ah.lt(h:Ah w s F R H P q most last G)(I:F b):b<w.heap.size:=by
 obtain⟨a,ha,t,v,L,mem,sl,Fh,h⟩:=h;exact h.lt I
theorem Ah.FP(h:Ah w s F R H P q most last G):s<w.heap.size:=by
 obtain⟨a,ha,t,v,L,mem,sl,Fh,h⟩:=h;exact Am (a:=⟨s,2,none⟩) h.ca
theorem Ah.Yx(h:Ah w s F R H P q most last G): ¬F s:=by
 obtain⟨a,ha,t,v,L,mem,sl,Fh,h⟩:=h;exact h.Hb
theorem Ch.record(h:Ch w s F R H P q most last G a ha t v L mem sl Fh)(I:R x=some ws): ∃k,∃n:Names sl x k,FN L mem x (sl[k]'n.lt).addr ws:=by
 have hx:x∈H:=by
  by_cases hx:x∈H
  . exact hx
  . rw [h.Gt x hx] at I;cases I
 obtain⟨k,n⟩:=(h.LJ x).1 hx;obtain⟨O,h1,J⟩:=h.link x k n;rw [I] at h1
 cases h1
 exact⟨k,n,J⟩
theorem Ch.no(h:Ch w s F R H P q most last G a ha t v L mem sl Fh)(I:R x=none):MT sl x:=λk n=>by
 obtain⟨ws,h1,_⟩:=h.link x k n;rw [I] at h1;cases h1
theorem Gd(h:Ch w s F R H P q most last G a ha t v L mem sl Fh):Calls prog 51 #[.pointer (some ⟨s,0,none⟩)] w λe w' =>e= .returned (.bool false)/\w=w' :=by
 have I:=h.ca;clear h;go_enter func51,ntmps51;go_wp2;go_ret;exact⟨rfl,rfl⟩
theorem TF(w:World):Calls prog 51 #[.pointer none] w λe w' =>e= .returned (.bool true)/\w=w' :=by
 go_enter func51,ntmps51;go_wp2;go_ret;exact⟨rfl,rfl⟩
theorem Ch.R64(h:Ch w s F R H P q most last G a ha t v L mem sl Fh)(I:R x=some ws):x<18446744073709551616:=by
 obtain⟨k,n,_⟩:=h.record I;have h1:=n.gen n.lt;have J:=(h.tab.ok _ (List.getElem_mem n.lt)).hi;have O:=h.tab.l2;have U:=h.tab.len;have V:=h.tab.m2;have Z:=n.lt;unfold Bd at h1;omega
theorem Oe(h:Ch w s F R H P q most last G a ha t v L mem sl Fh)(n:Names sl x k)(I:FN L mem x (sl[k]'n.lt).addr ws):
 Calls prog 79 #[.pointer (some ⟨s,0,none⟩), .int .u64 x] w λe w' =>e= .returned (.tuple #[.int .i64 ((sl[k]'n.lt).addr:Nat), .int .i64 ws.length, .int .i64 0])/\w=w' :=by
 have hN:=Zh (Gd h);have hA:=Zh (YL h.tab n n.lt);have O:=Fv (ws.length+2);have J:=NM h.heap I.Az ((sl[k]'n.lt).addr+1) (by simp) (by simp only;omega);rw [I.h1] at J;have U:=Zh J;have V:=h.ca;have Z:=h.ct;have aa:=(h.tab.ok _ (List.getElem_mem n.lt)).addr;have ab:=I.len;generalize (sl[k]'n.lt).addr=addr at*;clear h I J O n;go_enter func79,ntmps79;go_wp2_with fail;refine hN.mono ?_;rintro e w' ⟨rfl,rfl⟩;go_wp2_with fail;refine hA.mono ?_;rintro e w' ⟨rfl,rfl⟩;go_wp2_with fail;rw [show((addr:Int)+1)=((addr+1:Nat):Int) by push_cast;rfl];refine U.mono ?_;rintro e w' ⟨rfl,rfl⟩;go_wp2
 go_ret3
 exact⟨rfl,rfl⟩
theorem PL(h:Ch w s F R H P q most last G a ha t v L mem sl Fh)(hx:x<18446744073709551616)(I:MT sl x):
 Calls prog 79 #[.pointer (some ⟨s,0,none⟩), .int .u64 x] w λe w' =>e= .returned (.tuple #[.int .i64 0, .int .i64 0, .int .i64 7])/\w=w' :=by
 have hN:=Zh (Gd h);have hA:=Zh (VU h.tab hx I);have J:=h.ct;clear h I hx;go_enter func79,ntmps79;go_wp2_with fail;refine hN.mono ?_;rintro e w' ⟨rfl,rfl⟩;go_wp2_with fail;refine hA.mono ?_;rintro e w' ⟨rfl,rfl⟩;go_wp2
 go_ret3
 exact⟨rfl,rfl⟩
theorem Yd(x:Nat)(w:World):
 Calls prog 79 #[.pointer none, .int .u64 x] w λe w' =>e= .returned (.tuple #[.int .i64 0, .int .i64 0, .int .i64 1])/\w=w' :=by
 go_enter func79,ntmps79;go_wp2_with (go_at_call 51;refine(TF _).mono ?_;rintro e w' ⟨rfl,rfl⟩)
 go_ret3
 exact⟨rfl,rfl⟩
theorem Pj(x:Nat)(w:World):
 Calls prog 67 #[.pointer none, .int .u64 x] w λe w' =>e= .returned (.tuple #[.int .i64 0, .int .i64 1])/\w=w' :=by
 go_enter func67,ntmps67;go_wp2_with (go_at_call 79;refine(Yd _ _).mono ?_;rintro e w' ⟨rfl,rfl⟩)
 go_ret2
 exact⟨rfl,rfl⟩
def KZ(R:Zr)(x:Nat):Value:=
 match R x with
 |some ws=> .tuple #[.int .i64 ws.length, .int .i64 0]
 |none=> .tuple #[.int .i64 0, .int .i64 7]
def Yeb{P}(h:P:=by
 go_enter func67,ntmps67;go_wp2_with (go_at_call 79;refine hA.mono ?_;rintro e w' ⟨rfl,rfl⟩)
 go_ret2
 exact⟨rfl,rfl⟩):=h
theorem IT(h:Ah w s F R H P q most last G)(x:Nat)(hx:x<18446744073709551616):
 Calls prog 67 #[.pointer (some ⟨s,0,none⟩), .int .u64 x] w λe w' =>e= .returned (KZ R x)/\w=w' :=by
 obtain⟨a,ha,t,v,L,mem,sl,Fh,h⟩:=h;unfold KZ
 cases I:R x with
 |none=>
  have hA:=Zh (PL h hx (h.no I));clear h I hx;exact Yeb
 |some ws=>
  obtain⟨k,n,J⟩:=h.record I;have hA:=Zh (Oe h n J);generalize (sl[k]'n.lt).addr=addr at hA;clear h J n I hx;exact Yeb
theorem Oa(h:Ch w s F R H P q most last G a ha t v L mem sl Fh)(n:Names sl x k)(I:FN L mem x (sl[k]'n.lt).addr ws)(hi:i<ws.length):
 Calls prog 140 #[.pointer (some ⟨s,0,none⟩), .int .u64 x, .int .i64 i] w λe w' =>e= .returned (.tuple #[.int .i64 ((sl[k]'n.lt).addr+2+i:Nat), .int .i64 0])/\w=w' :=by
 have hA:=Zh (Oe h n I);have J:=(h.tab.ok _ (List.getElem_mem n.lt)).addr;have O:=I.len;generalize (sl[k]'n.lt).addr=addr at*;clear h I n;go_enter func140,ntmps140;go_wp2_with (go_at_call 79;refine hA.mono ?_;rintro e w' ⟨rfl,rfl⟩)
 go_ret2
 exact⟨by rw [show((addr+2+i:Nat):Int)=(addr:Int)+2+(i:Int) by push_cast;rfl];rfl,rfl⟩
theorem XN(h:Ah w s F R H P q most last G)(U:R x=some ws)(hi:i<ws.length):
 Calls prog 121 #[.pointer (some ⟨s,0,none⟩), .int .u64 x, .int .i64 i] w λe w' =>e= .returned (.tuple #[.int .u64 (ws[i]:Nat), .int .i64 0])/\w=w' :=by
 obtain⟨a,ha,t,v,L,mem,sl,Fh,h⟩:=h;obtain⟨k,n,J⟩:=h.record U;have hA:=Zh (Oa h n J hi);have V:=Fv (ws.length+2);have O:=NM h.heap J.Az ((sl[k]'n.lt).addr+2+i) (by simp only;omega) (by simp only;omega);rw [J.wd i hi] at O;have I:=Zh O;have Z:=h.ca;generalize (sl[k]'n.lt).addr=addr at*;generalize ws[i]=word at*;clear h J n U O V;go_enter func121,ntmps121;go_wp2_with fail;refine hA.mono ?_;rintro e w' ⟨rfl,rfl⟩;exact Yfi
end
def AQ(R:Zr)(x:Nat)(o:Option (List Nat)):Zr:=λy=>if y=x then o else R y
theorem AT(R:Zr)(x:Nat)(o:Option (List Nat)):AQ R x o x=o:=if_pos rfl
theorem Aw{R:Zr}{o:Option (List Nat)}(h:y≠x):AQ R x o y=R y:=if_neg h
theorem FN.same{L L' :HL}{mem':Nat->Nat}(r:FN L mem h addr ws)(I:(addr,Du (ws.length+2))∈blocks L')(hm: ∀i,addr<=i->i<addr+Du (ws.length+2)->mem' i=mem i):FN L' mem' h addr ws:=by
 have J:=Fv (ws.length+2);refine⟨I, ?_, ?_,λi hi=> ?_,r.len⟩
 . rw [hm _ (Nat.le_refl _) (by omega),r.h0]
 . rw [hm _ (by omega) (by omega),r.h1]
 . rw [hm _ (by omega) (by omega),r.wd i hi]
theorem C4{L:HL}(I:Lay L){b:Nat × Nat}(J:b∈blocks L):2<=b.2:=by
 obtain⟨y,O,U⟩:=Ey.1 J;exact(CJ (I.ok y O) U).2.2
theorem SJ{L:HL}(V:Lay L){J I:Nat}{O:List Nat}(r:FN L mem h addr ws)(U :FN L mem J I O)(Z:h≠J):
 addr+Du (ws.length+2)<=I \/I +Du (O.length+2)<=addr:=by
 rcases Fe V r.Az U.Az with h1|h1|h1
 . have:addr=I :=congrArg Prod.fst h1
   exact absurd (r.h0.symm.trans (by rw [this];exact U.h0)) Z
 . exact .inl h1
 . exact .inr h1
section
variable  {s:Nat} {F:Nat->Prop} {R:Zr} {H:List Nat} {P q G a ha:Nat}  {L:HL}  {sl:List Sl} {Fh:Nat->Prop}
theorem HG{I:Nat}(J:k<65536)(O :k' <65536)(h:Bd g k=Bd I k'):g=I /\k=k' :=by
 unfold Bd at h;omega
theorem Ch.SY(h:Ch w s F R H P q most last G a ha t v L mem sl Fh)(I:k<sl.length):k<65536:=by
 have:=h.tab.len;have:=h.tab.m2;omega
theorem Ch.PD(h:Ch w s F R H P q most last G a ha t v L mem sl Fh)(n:Names sl x k)(n' :Names sl x k'):k=k' :=
 (HG (h.SY n.lt) (h.SY n'.lt) ((n.gen n.lt).symm.trans (n'.gen n'.lt))).2
theorem Ch.put(h:Ch w s F R H P q most last G a ha t v L mem sl Fh)(n:Names sl x k)(ac:R x=some ws)(O:FN L mem x (sl[k]'n.lt).addr ws)(hi:i<ws.length)
 (hh:Bm w' ha a Fh L q (B7 mem ((sl[k]'n.lt).addr+2+i) u)) (I:Ad w Fh w' Fh):
 Ch w' s F (AQ R x (some (ws.set i u))) H P q most last G a ha t v L (B7 mem ((sl[k]'n.lt).addr+2+i) u) sl Fh/\Ad w F w' F:=by
 have ah:=h.Gu;subst ah;have aa: ¬Fh s:=λV=>h.Hb (.inl V)
 have al:=Fv (ws.length+2)
 refine⟨{ h with
  ca:=I.cell h.ca aa
  ch:=I.cell h.ch aa
  ct:=I.cell h.ct aa
  heap:=hh
  tab:=h.tab.Aq I (λb J V=>h.apart b V J)
  Gu:=rfl
  link:=λy k' n' => ?_
  Gt :=λy ae=> ?_
  perm:= ?_ },⟨I.os,I.tape,I.output,I.size,λb J V=>I.keep b J (λai =>V (.inl ai)),λb J=> .inl J⟩⟩
 . by_cases U:y=x
   . subst U
     obtain rfl:=h.PD n n';refine⟨ws.set i u,AT _ _ _, ?_, ?_, ?_,λj af=> ?_, ?_⟩
     . rw [List.length_set];exact O.Az
     . simp only [B7];rw [if_neg (by omega)];exact O.h0
     . simp only [B7];rw [if_neg (by omega),List.length_set];exact O.h1
     . rw [List.length_set] at af
       simp only [B7];rw [List.getElem_set];by_cases ag:i=j
       . rw [if_pos (by omega),if_pos ag]
       . rw [if_neg (by omega),if_neg ag];exact O.wd j af
     . rw [List.length_set];exact O.len
   . obtain⟨aj,h1,ab⟩:=h.link y k' n'
     refine⟨aj,(Aw U).trans h1,ab.same ab.Az (λj am an=> ?_)⟩;have:=SJ h.heap.lay ab O U;simp only [B7];rw [if_neg (by omega)]
 . by_cases U:y=x
   . subst U
     rw [h.Gt y ae] at ac;cases ac
   . exact(Aw U).trans (h.Gt y ae)
 . have:((blocks L).map λb=>B7 mem ((sl[k]'n.lt).addr+2+i) u b.1)=(blocks L).map λb=>mem b.1:=by
    apply List.map_congr_left;intro b J;simp only [B7];rw [if_neg];intro e;have ao:=C4 h.heap.lay J;rcases Fe h.heap.lay J O.Az with Z|Z|Z
    . have:=congrArg Prod.fst Z;simp only at this;omega
    . simp only at Z;omega
    . simp only at Z;omega
   rw [this];exact h.perm
theorem Sd(h:Ah w s F R H P q most last G)(O:R x=some ws)(hi:i<ws.length)(hu:u<18446744073709551616):
 Calls prog 90 #[.pointer (some ⟨s,0,none⟩), .int .u64 x, .int .i64 i, .int .u64 u] w λe w' =>e= .returned (.int .i64 0)/\Ah w' s F (AQ R x (some (ws.set i u))) H P q most last G/\Ad w F w' F:=by
 obtain⟨a,ha,t,v,L,mem,sl,Fh,h⟩:=h;obtain⟨k,n,I⟩:=h.record O;have hA:=Zh (Oa h n I hi);have V:=Fv (ws.length+2);have Z:=Zh (LD h.heap I.Az ((sl[k]'n.lt).addr+2+i) u (by simp only;omega) (by simp only;omega) hu);have aa:=Zh (λw' hh J=>h.put (w' :=w') (u:=u) n O I hi hh J);have ae:=h.ca;generalize (sl[k]'n.lt).addr=addr at*;clear h I n O V;go_enter func90,ntmps90;go_wp2_with fail;refine hA.mono ?_;rintro e w' ⟨rfl,rfl⟩;go_wp2_with fail;refine Z.mono ?_;rintro e w' ⟨rfl,hh,J⟩;obtain⟨h1,U⟩:=aa.out w' hh J;have ab:=Zh h1;have ac:=Zh U;clear h1 U hh J;go_wp2;go_ret;exact⟨rfl,⟨_,_,_,_,_,_,_,_,ab⟩,ac⟩
end
theorem Ad.left{O:Nat->Prop}(h:Ad w A w' O):Ad w (λb=>A b\/B b) w' (λb=>O b\/B b):=
 ⟨h.os,h.tape,h.output,h.size,λk I U=>h.keep k I (λha=>U (.inl ha)),λk I=>by
  rcases I with h1|h1
  . rcases h.grow k h1 with J|J
    . exact .inl (.inl J)
    . exact .inr J
  . exact .inl (.inr h1)⟩
theorem Ad.right{B':Nat->Prop}(h:Ad w B w' B'):Ad w (λb=>A b\/B b) w' (λb=>A b\/B' b):=
 ⟨h.os,h.tape,h.output,h.size,λk I O=>h.keep k I (λha=>O (.inr ha)),λk I=>by
  rcases I with h1|h1
  . exact .inl (.inl h1)
  . rcases h.grow k h1 with J|J
    . exact .inl (.inr J)
    . exact .inr J⟩
theorem NT{sl:List Sl}{O :Sl}(U:k<sl.length)(I:k' ≠k):Names (sl.set k O) y k' ↔Names sl y k' :=by
 constructor
 . intro n
   have J:=n.lt;rw [List.length_set] at J;refine⟨J,λh=> ?_,λh=> ?_⟩
   . have:=n.is n.lt;rwa [List.getElem_set_ne (Ne.symm I)] at this
   . have:=n.gen n.lt;rwa [List.getElem_set_ne (Ne.symm I)] at this
 . intro n
   refine⟨by rw [List.length_set];exact n.lt,λh=> ?_,λh=> ?_⟩
   . rw [List.getElem_set_ne (Ne.symm I)];exact n.is n.lt
   . rw [List.getElem_set_ne (Ne.symm I)];exact n.gen n.lt
theorem OB{sl:List Sl}{J :Sl}(O:k<sl.length)(hs:J.is≠1):Names (sl.set k J) y k' ↔Names sl y k' /\k' ≠k:=by
 by_cases I:k' =k
 . subst I
   constructor
   . intro n
     have:=n.is n.lt;rw [List.getElem_set_self] at this;exact absurd this hs
   . intro h;exact absurd rfl h.2
 . rw [NT O I]
   exact⟨λh=>⟨h,I⟩,λh=>h.1⟩
theorem OJ{sl:List Sl}{J :Sl}(I:k' <sl.length):Names (sl++ [J]) y k' ↔Names sl y k' :=by
 constructor
 . intro n
   refine⟨I,λh=> ?_,λh=> ?_⟩
   . have:=n.is n.lt;rwa [List.getElem_append_left I] at this
   . have:=n.gen n.lt;rwa [List.getElem_append_left I] at this
 . intro n
   refine⟨by rw [List.length_append];omega,λh=> ?_,λh=> ?_⟩
   . rw [List.getElem_append_left I];exact n.is I
   . rw [List.getElem_append_left I];exact n.gen I
theorem Fi{sl sl' :List Sl}(o:GX sl addr k g sl'):Names sl' y k' ↔Names sl y k' \/(k' =k/\y=Bd g k):=by
 rcases o.Gk with ⟨J,h0,rfl,rfl⟩|⟨rfl,rfl,rfl⟩
 . by_cases I:k' =k
   . subst I
     constructor
     . intro n
       have:=n.gen n.lt;rw [List.getElem_set_self] at this;exact .inr ⟨rfl,this⟩
     . rintro(n|⟨_,rfl⟩)
       . have:=n.is n.lt;omega
       . refine⟨by rw [List.length_set];exact J,λh=> ?_,λh=> ?_⟩<;>rw [List.getElem_set_self]
   . rw [NT J I]
     exact⟨.inl,λh=>h.resolve_right (λh=>I h.1)⟩
 . by_cases O:k' <sl.length
   . rw [OJ O]
     exact⟨.inl,λh=>h.resolve_right (λh=>by omega)⟩
   . constructor
     . intro n
       have U:=n.lt;rw [List.length_append] at U;simp at U;have V :k' =sl.length:=(by omega);subst V;have:=n.gen n.lt;rw [List.getElem_concat_length (by rfl)] at this;exact .inr ⟨rfl,this⟩
     . rintro(n|⟨rfl,rfl⟩)
       . exact absurd n.lt O
       . refine⟨by simp,λh=> ?_,λh=> ?_⟩<;>rw [List.getElem_concat_length (by rfl)]
theorem H7{sl sl' :List Sl}(o:GX sl addr k g sl'): ∃h:k<sl'.length,sl'[k]=⟨1,g,addr⟩:=by
 rcases o.Gk with ⟨I,h0,rfl,rfl⟩|⟨rfl,rfl,rfl⟩
 . exact⟨by rw [List.length_set];exact I,List.getElem_set_self _⟩
 . exact⟨by simp,List.getElem_concat_length (by rfl) _⟩
theorem RM{sl sl' :List Sl}(o:GX sl addr k g sl')(n:Names sl y k'): ∃h:k' <sl'.length,sl'[k']=sl[k']'n.lt:=by
 have I:=n.lt;rcases o.Gk with ⟨O,h0,rfl,rfl⟩|⟨rfl,rfl,rfl⟩
 . have J:k≠k' :=by rintro rfl;have:=n.is n.lt;omega
   exact⟨by rw [List.length_set];exact I,List.getElem_set_ne J _⟩
 . exact⟨by rw [List.length_append];omega,List.getElem_append_left I⟩
theorem Mm{sl sl' :List Sl}(o:GX sl addr k g sl'){x:Sl}(hx:x∈sl'):x∈sl\/x=⟨1,g,addr⟩:=by
 rcases o.Gk with ⟨I,h0,rfl,rfl⟩|⟨rfl,rfl,rfl⟩
 . exact List.mem_or_eq_of_mem_set hx
 . simpa using hx
theorem RQ{sl sl' :List Sl}{G:Nat}(o:GX sl addr k g sl')(I: ∀x∈sl,x.gen<=G):g<=G+1:=by
 rcases o.Gk with ⟨J,h0,rfl,rfl⟩|⟨rfl,rfl,rfl⟩
 . have:=I _ (List.getElem_mem J);omega
 . omega
section
variable  {s:Nat} {F:Nat->Prop} {R:Zr} {H:List Nat} {P q G a ha:Nat} {v':Value} {L L':HL} {mem':Nat->Nat} {sl sl':List Sl} {Fh Fh':Nat->Prop}
def ZC{P}(h:P:=by
 have I:s<w.heap.size:=Am (a:=⟨s,2,none⟩) h.ca;exact I):=h
theorem Ch.Zp(h:Ch w s F R H P q most last G a ha t v L mem sl Fh)(hh:Bm w' ha a Fh' L' q mem')(J:Ad w Fh w' Fh')(hp:(blocks L').Perm (blocks L))(hm: ∀c∈blocks L,∀i,c.1<=i->i<c.1+c.2->mem' i=mem i){P' :Nat}(aa:(runs L').length<=P'):
 Ch w' s (λb=>Fh' b\/A7 t v b) R H P' q most last G a ha t v L' mem' sl Fh' /\Ad w F w' (λb=>Fh' b\/A7 t v b):=by
 have ab:=h.Gu;subst ab;have V: ¬Fh s:=λI=>h.Hb (.inl I)
 have ac:=ZC
 refine⟨{ h with
  ca:=J.cell h.ca V
  ch:=J.cell h.ch V
  ct:=J.cell h.ct V
  heap:=hh
  tab:=h.tab.Aq J (λb O I=>h.apart b I O)
  Gu:=rfl
  apart:=λb O Z =>J.not (h.tab.lt Z) (λI=>h.apart b I Z) O
  Hb:=λI=>I.elim (λI=>J.not ac V I) (λI=>h.Hb (.inr I))
  link:=λy k n=> ?_
  perm:= ?_
  Cb:=aa },J.left⟩
 . obtain⟨ws,h1,U⟩:=h.link y k n
   exact⟨ws,h1,U.same (hp.mem_iff.2 U.Az) (hm _ U.Az)⟩
 . have h1:((blocks L').map λb=>mem' b.1).Perm ((blocks L).map λb=>mem' b.1):=hp.map _
   have U:((blocks L).map λb=>mem' b.1)=(blocks L).map λb=>mem b.1:=(List.map_congr_left λb O=>hm b O b.1 (Nat.le_refl _) (by have:=C4 h.heap.lay O;omega));rw [U] at h1;exact h.perm.trans h1.symm
def Ygd{P}(h:P:=by
 simp only at J;rw [V i (by omega) (by omega)];exact O.same c U i h1 I):=h
def Ypj{P}(h:P:=by
 have J: ¬Fh s:=λI=>h.Hb (.inl I)
 have O: ¬A7 t v s:=λI=>h.Hb (.inr I)
 exact And.intro J O):=h
theorem Ch.make{X:Nat->Prop}(h:Ch w s F R H P q most last G a ha t v L mem sl Fh){w3:World}{aa:Nat->Nat}(ag:n<=3998)
 (t1:Ad w Fh w1 Fh') (O:TU L mem addr (n+2) L' aa) (o:GX sl addr k g sl') (aj:BV w2 t v' most last sl') (t2:Ad w1 (A7 t v) w2 (A7 t v'))
 (t3:Ad w2 (λb=>Fh' b\/X b) w3 (λb=>Fh' b\/X b)) (al: ∀b,X b->w.heap.size<=b/\ ¬A7 t v' b) (hh:Bm w3 ha a Fh' L' q (B7 (B7 aa addr (Bd g k)) (addr+1) n)) (aB: ∀b,Fh' b->b<w1.heap.size):
 Ch w3 s (λb=>Fh' b\/A7 t v' b) (AQ R (Bd g k) (some (List.replicate n 0))) (Bd g k::H) (P+CD (n+2)) q most last (G+1) a ha t v' L' (B7 (B7 aa addr (Bd g k)) (addr+1) n) sl' Fh' /\
 Ad w F w3 (λb=>Fh' b\/A7 t v' b)/\R (Bd g k)=none:=by
 have aC:=h.Gu;subst aC;obtain⟨ah,ai⟩:=Ypj;have ao:=ZC;have aq: ¬Fh' s:=t1.not ao ah;have aD: ¬A7 t v' s:=t2.not (Nat.lt_of_lt_of_le ao t1.size) ai;have ar: ∀b,Fh' b-> ¬A7 t v' b:=λb Z ab=>by
  rcases t2.grow b ab with h1|h1
  . exact t1.not (h.tab.lt h1) (λZ=>h.apart b Z h1) Z
  . have:=aB b Z;omega
 have am: ¬(Fh' s\/X s):=λZ=>Z.elim aq (λhx=>by have:=(al s hx).1;omega)
 have ac:=t1.left.trans t2.right;have aE:Ad w (λb=>Fh b\/A7 t v b) w3 (λb=>Fh' b\/A7 t v' b):=
  ⟨t3.os.trans ac.os,t3.tape.trans ac.tape,t3.output.trans ac.output,Nat.le_trans ac.size t3.size,λk ae ag=>by
   refine(t3.keep k (Nat.lt_of_lt_of_le ae ac.size) (λZ=> ?_)).trans (ac.keep k ae ag);rcases Z with Z|Z
   . exact t1.not ae (λhh=>ag (.inl hh)) Z
   . have:=(al k Z).1;omega,ac.grow⟩
 have aH:=Fv (n+2);have V: ∀i,i≠addr->i≠addr+1->B7 (B7 aa addr (Bd g k)) (addr+1) n i=aa i:=λi h1 I=>by
  simp only [B7];rw [if_neg I,if_neg h1]
 have au:(addr,Du (n+2))∈blocks L' :=O.perm.mem_iff.2 List.mem_cons_self;have aw:=O.perm.nodup_iff.1 (G5 hh.lay);rw [List.nodup_cons] at aw;have hold: ∀c∈blocks L,c∈blocks L' /\ ∀i,c.1<=i->i<c.1+c.2->B7 (B7 aa addr (Bd g k)) (addr+1) n i=mem i:=λc U=>by
  have ax :c∈blocks L' :=O.perm.mem_iff.2 (List.mem_cons_of_mem _ U);refine⟨ax,λi h1 I=> ?_⟩;have:=Fe hh.lay ax au;have an:c≠(addr,Du (n+2)):=λe=>aw.1 (e▸U)
  rcases this with J|J|J
  . exact absurd J an
  . exact Ygd
  . exact Ygd
 have aF:k<65536:=by
  obtain⟨ae,_⟩:=H7 o;have:=aj.len;have:=aj.m2;omega
 have ay: ∀k',¬Names sl (Bd g k) k' :=λk' n' =>by
  have J:=HG aF (h.SY n'.lt) (n'.gen n'.lt);have az:=J.2;subst az;rcases o.Gk with ⟨ae,h0,_,_⟩|⟨rfl,_,_⟩
  . have:=n'.is n'.lt;omega
  . exact absurd n'.lt (Nat.lt_irrefl _)
 have aA:Bd g k∉H:=λhm=>by
  obtain⟨k',n'⟩:=(h.LJ _).1 hm;exact ay k' n'
 refine⟨{
  ca:=t3.cell (t2.cell (t1.cell h.ca ah) ai) am
  ch:=t3.cell (t2.cell (t1.cell h.ch ah) ai) am
  ct:=t3.cell (t2.cell (t1.cell h.ct ah) ai) am
  heap:=hh
  tab:=aj.Aq t3 (λb ab Z=>Z.elim (λZ=>ar b Z ab) (λZ=>(al b Z).2 ab))
  Gu:=rfl
  apart:=ar
  Hb:=λZ=>Z.elim aq aD
  Ov:=t2.not (Nat.lt_of_lt_of_le h.heap.off.2.1 t1.size) h.Ov
  Nv:=λb ab=> ?_
  link:=λy k' n' => ?_
  LJ:=λy=> ?_
  Gt :=λy af=> ?_
  perm:= ?_
  nodup:=List.nodup_cons.2 ⟨aA,h.nodup⟩
  Cb:=by have:=O.Cb;have:=h.Cb;omega
  Jv:=λx hx=> ?_
  ret:=λx hx I=> ?_ },aE,h.Gt _ aA⟩
 . rcases t2.grow b ab with h1|h1
   . exact h.Nv b h1
   . have I:=h.heap.off
     have J:=I.2.2.2 a I.2.2.1;have az:=h.heap.lt I.2.2.1;have:=t1.size;omega
 . rcases(Fi o).1 n' with n1|⟨rfl,rfl⟩
   . have an:y≠Bd g k:=λe=>ay k' (e▸n1)
     obtain⟨ws,h1,I⟩:=h.link y k' n1;obtain⟨aG,he⟩:=RM o n1;refine⟨ws,(Aw an).trans h1, ?_⟩;rw [he];exact I.same (hold _ I.Az).1 (hold _ I.Az).2
   . obtain⟨aG,he⟩:=H7 o
     refine⟨List.replicate n 0,AT _ _ _, ?_⟩;rw [he];refine⟨by rw [List.length_replicate];exact au, ?_, ?_,λi hi=> ?_,by rw [List.length_replicate];exact ag⟩
     . simp only [B7];rw [if_neg (by omega),if_pos trivial]
     . simp only [B7];rw [if_pos trivial,List.length_replicate]
     . rw [List.length_replicate] at hi
       rw [V _ (by simp only;omega) (by simp only;omega),List.getElem_replicate];exact O.zero _ (by simp only;omega) (by simp only;omega)
 . rw [List.mem_cons]
   constructor
   . rintro(rfl|af)
     . exact⟨k,(Fi o).2 (.inr ⟨rfl,rfl⟩)⟩
     . obtain⟨k',n'⟩:=(h.LJ y).1 af
       exact⟨k',(Fi o).2 (.inl n')⟩
   . rintro⟨k',n'⟩
     rcases(Fi o).1 n' with n1|⟨rfl,rfl⟩
     . exact .inr ((h.LJ y).2 ⟨k',n1⟩)
     . exact .inl rfl
 . rw [List.mem_cons,not_or] at af
   exact(Aw af.1).trans (h.Gt y af.2)
 . have h1:((blocks L').map λb=>B7 (B7 aa addr (Bd g k)) (addr+1) n b.1).Perm (((addr,Du (n+2))::blocks L).map λb=>B7 (B7 aa addr (Bd g k)) (addr+1) n b.1):=O.perm.map _
   rw [List.map_cons] at h1;have I:((blocks L).map λb=>B7 (B7 aa addr (Bd g k)) (addr+1) n b.1)=(blocks L).map λb=>mem b.1:=
    List.map_congr_left λb ab=>(hold b ab).2 b.1 (Nat.le_refl _) (by have:=C4 h.heap.lay ab;omega)
   have J:B7 (B7 aa addr (Bd g k)) (addr+1) n addr=Bd g k:=(by simp only [B7];rw [if_neg (by omega),if_pos trivial]);rw [I] at h1;simp only [J] at h1;exact(h.perm.cons _).trans h1.symm
 . rcases Mm o hx with h1|rfl
   . have:=h.Jv x h1;omega
   . exact RQ o h.Jv
 . rcases Mm o hx with h1|rfl
   . exact h.ret x h1 I
   . cases I
theorem Ch.drop(h:Ch w s F R H P q most last G a ha t v L mem sl Fh)(n:Names sl x k)(ay:R x=some ws)(ah:FN L mem x (sl[k]'n.lt).addr ws)
 (hh:Bm w1 ha a Fh' L' q mem') (t1:Ad w Fh w1 Fh') (I:T8 L mem ((sl[k]'n.lt).addr,Du (ws.length+2)) L' mem')
 (an:BV w2 t v most last (sl.set k { (sl[k]'n.lt) with is:=D3 (sl[k]'n.lt).gen last })) (t2:Ad w1 (A7 t v) w2 (A7 t v)):
 Ch w2 s (λb=>Fh' b\/A7 t v b) (AQ R x none) (H.erase x) P q most last G a ha t v L' mem' (sl.set k { (sl[k]'n.lt) with is:=D3 (sl[k]'n.lt).gen last }) Fh' /\Ad w F w2 (λb=>Fh' b\/A7 t v b):=by
 have ao:=h.Gu;subst ao;obtain⟨V,Z⟩:=Ypj;have aq:=ZC;have ar: ¬Fh' s:=t1.not aq V;have ai: ∀b,Fh' b-> ¬A7 t v b:=λb aa aj =>t1.not (h.tab.lt aj) (λI=>h.apart b I aj) aa
 have au:D3 (sl[k]'n.lt).gen last≠1:=by unfold D3;split<;>omega
 have az:x∈H:=(h.LJ x).2 ⟨k,n⟩;have ac: ∀{y k' :Nat},Names (sl.set k { (sl[k]'n.lt) with is:=D3 (sl[k]'n.lt).gen last }) y k' ↔Names sl y k' /\k' ≠k:=OB n.lt au;have ae: ∀{y k' :Nat},Names sl y k' ->(k' ≠k↔y≠x):=λ{y k'} n' =>by
  constructor
  . intro h1 e;subst e;exact h1 (h.PD n' n)
  . intro h1 e;subst e;exact h1 ((n'.gen n'.lt).trans (n.gen n.lt).symm)
 refine⟨{ h with
  ca:=t2.cell (t1.cell h.ca V) Z
  ch:=t2.cell (t1.cell h.ch V) Z
  ct:=t2.cell (t1.cell h.ct V) Z
  heap:=hh.Aq t2 ai (λI=> ?_) (λI=> ?_)
  tab:=an
  Gu:=rfl
  apart:=ai
  Hb:=λI=>I.elim ar Z
  link:=λy k' n' => ?_
  LJ:=λy=> ?_
  Gt :=λy O=> ?_
  perm:= ?_
  nodup:=h.nodup.erase x
  Cb:=Nat.le_trans I.Cb h.Cb
  Jv:=λz af=> ?_
  ret:=λz af J=> ?_ },t1.left.trans t2.right⟩
 . exact h.Ov I
 . exact Nat.lt_irrefl _ (h.Nv _ I)
 . obtain⟨n1,ab⟩:=ac.1 n'
   have O:=(ae n1).1 ab;obtain⟨al,h1,J⟩:=h.link y k' n1;refine⟨al,(Aw O).trans h1, ?_⟩;rw [List.getElem_set_ne (Ne.symm ab)];have am :((sl[k']'n1.lt).addr,Du (al.length+2))∈blocks L' :=by
    rcases List.mem_cons.1 (I.perm.mem_iff.1 J.Az) with U|U
    . have:=congrArg Prod.fst U
      simp only at this;exact absurd (J.h0.symm.trans (by rw [this];exact ah.h0)) O
    . exact U
   exact J.same am (I.same _ am)
 . rw [h.nodup.mem_erase_iff]
   constructor
   . rintro⟨O,hm⟩
     obtain⟨k',n'⟩:=(h.LJ y).1 hm;exact⟨k',ac.2 ⟨n',(ae n').2 O⟩⟩
   . rintro⟨k',n'⟩
     obtain⟨n1,ab⟩:=ac.1 n';exact⟨(ae n1).1 ab,(h.LJ y).2 ⟨k',n1⟩⟩
 . by_cases ag :y=x
   . rw [ag,AT]
   . refine(Aw ag).trans (h.Gt y (λhm=>O ?_))
     exact(h.nodup.mem_erase_iff).2 ⟨ag,hm⟩
 . have h1:((blocks L).map λb=>mem b.1).Perm (x::((blocks L').map λb=>mem' b.1)):=by
    have J:=I.perm.map (λb:Nat × Nat=>mem b.1);rw [List.map_cons] at J;have U:((blocks L').map λb=>mem' b.1)=(blocks L').map λb=>mem b.1:=(List.map_congr_left λb aa=>I.same b aa b.1 (Nat.le_refl _) (by have:=C4 hh.lay aa;omega));rw [U];simp only [ah.h0] at J;exact J
   have aw:=h.perm.trans h1;have ax:=aw.erase x
   rwa [List.erase_cons_head] at ax
 . rcases List.mem_or_eq_of_mem_set af with h1|rfl
   . exact h.Jv z h1
   . exact h.Jv (sl[k]'n.lt) (List.getElem_mem n.lt)
 . rcases List.mem_or_eq_of_mem_set af with h1|rfl
   . exact h.ret z h1 J
   . simp only at J
     unfold D3 at J
     split at J
     . assumption
     . cases J
end
