/- A part. -/
import Derived.Test.YtiopopoohglepaaGreatDoorVMi
import Derived.Maps.AppendAt
set_option linter.all false
set_option maxRecDepth 100000
set_option maxHeartbeats 2000000
namespace Go.Proofs.YtiopopoohglepaaGreatDoor
open Go.Proofs.Tryz
open Go.RowKit Go.Shelf
variable {A B:Nat->Prop}{addr b c g h i k k' last most n t u x y:Nat}{mem:Nat->Nat}{v:Value}{w w' w1 w2:World}{ws:List Nat}
theorem Tryz.PT:Tryz.prog.underlying 127=some (.slice 182):=by kernel_rfl
theorem Tryz.Tc:(Tryz.prog.info? 182).map (λi=>(i.zero,i.size,i.bytes))=some (some (.agg #[.int .i64 0, .int .u32 0, .int .i64 0]),3,24):=by kernel_rfl
structure GZ(sl:List Sl)(addr k g:Nat)(sl' :List Sl):Prop where
 DF:(∃hk:k<sl.length,sl[k].is=0/\g=sl[k].gen+1/\sl' =sl.set k ⟨1,g,addr⟩)\/(k=sl.length/\g=1/\sl' =sl++ [⟨1,1,addr⟩])
theorem BV.US{sl:List Sl}(h:BV w t v most last sl){sl0:List Sl}(d:k<sl0.length)(s:Sl)(hs:s.Ok last)(J: ∀x∈sl0,x∈sl\/x=⟨0,0,0⟩)(h0: ∀x∈(sl0.set k s),x∈sl\/x=s)(hlen:sl0.length<=most)
 (c0:w'.cell? ⟨t,0,none⟩=w.cell? ⟨t,0,none⟩) (c1:w'.cell? ⟨t,1,none⟩=w.cell? ⟨t,1,none⟩) (c2:w'.cell? ⟨t,2,none⟩=some (.slice (some ⟨g,0,none⟩) sl0.length c)) (f2:w'.frozen? ⟨t,2,none⟩=false) (ID:g≠t)
 (I:w'.ownsRow 0 182 3 (.slice (some ⟨g,0,none⟩) sl0.length c) sl0.length ((((BP sl0).set (k*3) (.int .i64 s.is)).set (k*3+1) (.int .u32 s.gen)).set (k*3+2) (.int .i64 s.addr))):
 BV w' t (.slice (some ⟨g,0,none⟩) sl0.length c) most last (sl0.set k s) where
 c0:=c0.trans h.c0
 c1:=c1.trans h.c1
 c2:=c2
 f2:=f2
 row:=by rw [List.length_set,ON sl0 k d s];exact I
 off:=by simp [Value.ownBlock,ID]
 m1:=h.m1
 m2:=h.m2
 l1:=h.l1
 l2:=h.l2
 len:=by rw [List.length_set];exact hlen
 ok:=λx hx=>by
  rcases h0 x hx with h1|h1
  . exact h.ok x h1
  . rw [h1];exact hs
theorem Om{gen:Nat}(h:gen<last)(ha:addr<1099511627776):(⟨1,gen+1,addr⟩:Sl).Ok last:=⟨(show(1:Nat)<=2 by omega),Nat.le_add_left 1 gen,h,(λe=>by cases e),ha⟩
theorem Od{F:Nat->Prop}(d g i j k:Nat)(u v x:Value)(I:F g):Ad w F ((((w.drewN d).setCell ⟨g,i,none⟩ u).setCell ⟨g,j,none⟩ v).setCell ⟨g,k,none⟩ x) F:=
 (((Ad.below (AL w d)).trans (BK _ _ I)).trans (BK _ _ I)).trans (BK _ _ I)
theorem L7(d g t i j k:Nat)(u v x:Value)(h:t≠g):((((w.drewN d).setCell ⟨g,i,none⟩ u).setCell ⟨g,j,none⟩ v).setCell ⟨g,k,none⟩ x).heap[t]? =w.heap[t]? :=
 (Below.heap_setCell _ _ _ t h).trans ((Below.heap_setCell _ _ _ t h).trans (Below.heap_setCell (w.drewN d) _ _ t h))
theorem PB{e:TypeId}{xs:List Value}(I:w.ownsRow 0 e 3 (.slice (some ⟨g,0,none⟩) n c) n xs)(d i j k:Nat)(u v x:Value):
 ((((w.drewN d).setCell ⟨g,i,none⟩ u).setCell ⟨g,j,none⟩ v).setCell ⟨g,k,none⟩ x).ownsRow 0 e 3 (.slice (some ⟨g,0,none⟩) n c) n (((xs.set i u).set j v).set k x):=
 ((((Gg I d).stored i u).1.stored j v).1.stored k x).1
theorem RZ(w:World)(u v x:Value)(T:TypeId): ∀(j:Nat) (y:Value),[u,v,x][j]? =some y->(w.alloc (.cells #[u,v,x] T)).cell? ((⟨w.heap.size,0,none⟩:Addr).add j)=some y:=by
 intro j y h;have d:j<3:=by
  by_cases hh:j<3
  . exact hh
  . rw [List.getElem?_eq_none (by simp;omega)] at h;cases h
 have:j=0\/j=1\/j=2:=by omega
 rcases this with rfl|rfl|rfl<;>(simp at h;subst h;simp only [Addr.add];go_simp)
theorem JV (W:World)(b o:Nat)(v:Value):W.grownBy (W.setCell ⟨b,o,none⟩ v) (some b):=
 ⟨rfl,rfl,rfl,by simp,λk _ d=>Below.heap_setCell _ _ _ k (λe=>d (by rw [e]))⟩
theorem QG{tmp:Obj}(J:t<w.heap.size)(d:v.ownBlock≠some t)(hg:(w.alloc tmp).grownBy w1 v.ownBlock)(I:(Value.slice (some ⟨g,0,none⟩) n c).ownBlock=v.ownBlock\/(Value.slice (some ⟨g,0,none⟩) n c).ownBlock=some (w.alloc tmp).heap.size):
 w1.heap[t]? =w.heap[t]? /\g≠t:=by
 refine⟨(hg.block t (by simp;omega) (λe=>d e.symm)).trans (Below.heap_alloc w tmp t J), ?_⟩;rintro rfl;have e:(Value.slice (some ⟨g,0,none⟩) n c).ownBlock=some g:=rfl;rw [e] at I;rcases I with h1|h1
 . exact d h1.symm
 . simp at h1;omega
theorem Rr{u:Value}{tmp:Obj}(V:t<w.heap.size)(hg:(w.alloc tmp).grownBy w1 v.ownBlock)(I:(Value.slice (some ⟨g,0,none⟩) n c).ownBlock=v.ownBlock\/(Value.slice (some ⟨g,0,none⟩) n c).ownBlock=some (w.alloc tmp).heap.size):
 Ad w (A6 t v) (w1.setCell ⟨t,2,none⟩ u) (A6 t (.slice (some ⟨g,0,none⟩) n c)):=by
 have O:=hg.size;simp at O;refine⟨hg.os,hg.tape,hg.output,by simp;omega,λk d J=> ?_,λk d=> ?_⟩
 . have h1:k≠t:=λe=>J (.inl e)
   have U:some k≠v.ownBlock:=(λe=>J (.inr e.symm));exact(Below.heap_setCell _ _ _ k h1).trans ((hg.block k (by simp;omega) U).trans (Below.heap_alloc w tmp k d))
 . rcases d with rfl|d
   . exact .inl (.inl rfl)
   . rw [d] at I
     rcases I with h1|h1
     . exact .inl (.inr h1.symm)
     . simp at h1;exact .inr (by omega)
theorem WD{sl:List Sl}(U:BV w t v most last sl)(addr:Nat)(ha:addr<1099511627776):
 Calls prog 57 #[.pointer (some ⟨t,0,none⟩), .int .i64 addr] w λe w' =>
  (∃k g v' sl',GZ sl addr k g sl' /\e= .returned (.tuple #[.int .u64 (Bc g k:Nat), .int .i64 0])/\BV w' t v' most last sl' /\Ad w (A6 t v) w' (A6 t v'))\/
  (sl.length=most/\(∀s∈sl,s.is≠0)/\e= .returned (.tuple #[.int .u64 0, .int .i64 10])/\w=w'):=by
 obtain⟨i0,hi,aQ,aR,aS⟩:=info_parts Tryz.Tc;have hN:=Zh (Lf U);have J:=Zh U;have h0:=U.c0;have aG:=U.c2;have hlen:=U.len;have bc:=U.m2;have bd:=U.l2;obtain⟨A,c,rfl⟩:=U.Pe;clear U;go_enter func57,ntmps57;go_wp2_with fail;refine hN.mono ?_;rintro e w' ⟨rfl,rfl⟩;go_wp2_with fail
 go_loop [6] (λam=> ∃k:Nat,k<=sl.length/\am= .int .i64 k/\Hid (∀j (ab:j<sl.length),j<k->sl[j].is≠0)) (λam=>sl.length+1-(intOf am).toNat)
 case atStart=>exact⟨0,by omega,rfl,Zh (by intro j ab h;omega)⟩
 case round=>
  obtain⟨k,be,rfl,aH⟩:=hrel;by_cases ac:k<sl.length
  . obtain⟨g,bf,aT,hg,aU,s1,s2,f0,f1,f2,an⟩:=J.slot ac
    cases aT
    have ao:=J.ok _ (List.getElem_mem ac);have aj:=ao.free;obtain⟨is,ae⟩: ∃is,sl[k].is=is:=⟨_,rfl⟩;rw [ae] at aU aj;by_cases aq:is=0
    . subst aq
      have aI:=aj rfl;have d1:decide ((sl.length:Int)=(most:Int))=decide ((sl.length:Int)=(most:Int)):=rfl;have aV:((k:Int)==(most:Int))=false:=(by simp;omega);have aW:((k:Int)==(sl.length:Int))=false:=(by simp;omega);obtain⟨gen,ar⟩: ∃gen,sl[k].gen=gen:=⟨_,rfl⟩;rw [ar] at s1 aI;have ID:g≠t:=(λe=>J.off (by rw [e];rfl));have aJ:A6 t (.slice (some ⟨g,0,none⟩) sl.length c) g:= .inr rfl
      have af:Hid (∀W:World,W.heap[t]? =w.heap[t]? ->W.ownsRow 0 182 3 (.slice (some ⟨g,0,none⟩) sl.length c) sl.length ((((BP sl).set (k*3) (.int .i64 (1:Nat))).set (k*3+1) (.int .u32 (gen+1:Nat))).set (k*3+2) (.int .i64 addr))->
       BV W t (.slice (some ⟨g,0,none⟩) sl.length c) most last (sl.set k ⟨1,gen+1,addr⟩)):=Zh (λW O au=>by
       refine J.US ac ⟨1,gen+1,addr⟩ (Om aI ha) (λx hx=> .inl hx) (λx hx=> ?_) hlen (World.cell?_of_block (a:=⟨t,0,none⟩) O) (World.cell?_of_block (a:=⟨t,1,none⟩) O) ((World.cell?_of_block (a:=⟨t,2,none⟩) O).trans J.c2) ((World.frozen?_of_block (a:=⟨t,2,none⟩) O).trans J.f2) ID au;exact List.mem_or_eq_of_mem_set hx)
      have aX:=Zh ar;have aw:=Zh ae;have ax:=Zh an;clear ar ae aj ao an d1;go_wp2_with fail;refine Ck 17 (by kernel_rfl) (by kernel_rfl) ?_;simp only [List.take_succ_cons,List.take_zero,List.drop_succ_cons,List.drop_zero]
      repeat (go_big_quiet_step (fail))
      refine wpQuiet_nil ?_;rintro _ ⟨Z,rfl⟩;have ag:=Zh (af _ (L7 Z g t (k*3) (k*3+1) (k*3+2) (.int .i64 1) (.int .u32 ((gen:Int)+1)) (.int .i64 addr) (Ne.symm ID)) (PB ax Z (k*3) (k*3+1) (k*3+2) (.int .i64 1) (.int .u32 ((gen:Int)+1)) (.int .i64 addr)));have ay:=Zh (Od (w:=w) Z g (k*3) (k*3+1) (k*3+2) (.int .i64 1) (.int .u32 ((gen:Int)+1)) (.int .i64 addr) aJ);have aa:=Rk ag.out (k:=k) (by rw [List.length_set];exact ac);rw [List.getElem_set_self] at aa;have az:=Zh aa;clear aa af;go_wp2_with fail;refine az.mono ?_;rintro e w' ⟨rfl,rfl⟩;go_wp2
      go_ret2
      exact .inl ⟨k,gen+1,_,_,⟨.inl ⟨ac,aw,by rw [aX.out],rfl⟩⟩,rfl,ag,ay⟩
    . have d1:((is:Int) !=0)=true:=by simp;omega
      have aw:Hid (sl[k].is≠0):=Zh (by rw [ae];exact aq);clear aq ae ao aj an;go_wp2
      go_round
      case rel=>exact⟨k+1,by omega,by go_num,Zh (λj ab aY=>by
       rcases Nat.lt_succ_iff_lt_or_eq.1 aY with aZ|rfl
       . exact aH.out j ab aZ
       . exact aw.out)⟩
      case measure=>simp [intOf];omega
  . obtain rfl:k=sl.length:=by omega
    by_cases ah:sl.length=most
    . have d1:((sl.length:Int)==(most:Int))=true:=by simp [ah]
      have aA:=Zh ah;clear ah;go_wp2
      go_ret2
      exact .inr ⟨aA,λs hs=>by
       obtain⟨j,ab,rfl⟩:=List.getElem_of_mem hs;exact aH.out j ab ab,rfl,rfl⟩
    . have aV:((sl.length:Int)==(most:Int))=false:=by simp;omega
      have aW:((sl.length:Int)==(sl.length:Int))=true:=(by simp);have a0:=J.f2;have ax:=Zh J.row;have aA:=Zh ah;have aK:t<w.heap.size:=J.lt (.inl rfl);clear ah;have a1:=Zh J.off;have aJ:Hid (∀b,(Value.slice A sl.length c).ownBlock=some b->A6 t (.slice A sl.length c) b):=Zh (λb O=> .inr O);go_wp2_with (at_builtin;go_must (refine wpList_append_own_at _ rfl _ _ 127 rfl 0 182 i0 (.agg #[.int .i64 0, .int .u32 0, .int .i64 0]) 3 24 Tryz.PT hi aQ aR aS rfl (by decide) _ _ _ rfl (ax.alloc _) ⟨w.heap.size,0,none⟩ 1 1 [.int .i64 0, .int .u32 0, .int .i64 0] rfl rfl (RZ w _ _ _ _) (by simp [Value.oneCell']) (by unfold maxLen;omega) (by omega) (by omega) ?_);intro v' w1 aB aC _ aD;obtain⟨d,I,rfl⟩:=ownsRow_succ aB;obtain⟨al,aE⟩:=QG aK a1 aC aD;have aL :=(World.cell?_of_block (a:=⟨t,2,none⟩) al).trans aG;have aM :=(World.frozen?_of_block (a:=⟨t,2,none⟩) al).trans a0;have a2:=Zh aB;have a3:=Zh aC;have a4:=Zh aD;have aF:=Zh al;clear aB aC aD al);have a5:(w1.setCell ⟨t,2,none⟩ (.slice (some ⟨d,0,none⟩) (sl.length+1) I)).cell? ⟨t,0,none⟩=some (.int .i64 most):=(World.cell?_setCell_other _ _ _ _ (by simp)).trans ((World.cell?_of_block (a:=⟨t,0,none⟩) aF).trans h0);have aN:(w1.setCell ⟨t,2,none⟩ (.slice (some ⟨d,0,none⟩) (sl.length+1) I)).cell? ⟨t,1,none⟩=w.cell? ⟨t,1,none⟩:=(World.cell?_setCell_other _ _ _ _ (by simp)).trans (World.cell?_of_block (a:=⟨t,1,none⟩) aF);have a6:(w1.setCell ⟨t,2,none⟩ (.slice (some ⟨d,0,none⟩) (sl.length+1) I)).cell? ⟨t,2,none⟩=some (.slice (some ⟨d,0,none⟩) (sl.length+1) I):=World.cell?_setCell_same' _ _ _ (by rw [aL];rfl);have a7:(w1.setCell ⟨t,2,none⟩ (.slice (some ⟨d,0,none⟩) (sl.length+1) I)).frozen? ⟨t,2,none⟩=false:=(by simpa using aM);have V:=a2.kept (w' :=w1.setCell ⟨t,2,none⟩ (.slice (some ⟨d,0,none⟩) (sl.length+1) I)) (JV w1 t 2 (.slice (some ⟨d,0,none⟩) (sl.length+1) I)) (.inr (by simp [Value.ownBlock,aE]));rw [show BP sl++ [Value.int IntKind.i64 0,Value.int IntKind.u32 0,Value.int IntKind.i64 0]=BP (sl++ [⟨0,0,0⟩]) from(Ot sl ⟨0,0,0⟩).symm] at V;have ai:(sl++ [(⟨0,0,0⟩:Sl)]).length=sl.length+1:=(by simp);have aO:Ad w (A6 t (.slice A sl.length c)) (w1.setCell ⟨t,2,none⟩ (.slice (some ⟨d,0,none⟩) (sl.length+1) I)) (A6 t (.slice (some ⟨d,0,none⟩) (sl.length+1) I)):=Rr aK a3 a4.out;have a8:=Zh aO;have a9:=Zh V;have bg:(w1.setCell ⟨t,2,none⟩ (.slice (some ⟨d,0,none⟩) (sl.length+1) I)).cell? ⟨d,sl.length*3+1,none⟩=some (.int .u32 0):=by
       rw [V.cellAt _ (by omega)];have:=Fw (sl++ [(⟨0,0,0⟩:Sl)]) sl.length (by simp) 1 (by omega);rw [show sl.length*3+1=3*sl.length+1 by omega,this];simp
      have bh:(w1.setCell ⟨t,2,none⟩ (.slice (some ⟨d,0,none⟩) (sl.length+1) I)).cell? ⟨d,sl.length*3,none⟩=some (.int .i64 0):=by
       rw [V.cellAt _ (by omega)];have:=Fw (sl++ [(⟨0,0,0⟩:Sl)]) sl.length (by simp) 0 (by omega);rw [show sl.length*3=3*sl.length+0 by omega,this];simp
      have bi:(w1.setCell ⟨t,2,none⟩ (.slice (some ⟨d,0,none⟩) (sl.length+1) I)).cell? ⟨d,sl.length*3+2,none⟩=some (.int .i64 0):=by
       rw [V.cellAt _ (by omega)];have:=Fw (sl++ [(⟨0,0,0⟩:Sl)]) sl.length (by simp) 2 (by omega);rw [show sl.length*3+2=3*sl.length+2 by omega,this];simp
      have z0:=V.frozenAt (sl.length*3);have bj:=V.frozenAt (sl.length*3+1);have z2:=V.frozenAt (sl.length*3+2);have ba:=Zh aN;clear V aO aL aM aN;generalize (w1.setCell ⟨t,2,none⟩ (.slice (some ⟨d,0,none⟩) (sl.length+1) I))=W2 at*
      have af:Hid (∀W:World,W.heap[t]? =W2.heap[t]? ->W.ownsRow 0 182 3 (.slice (some ⟨d,0,none⟩) (sl.length+1) I) (sl.length+1) ((((BP (sl++ [⟨0,0,0⟩])).set (sl.length*3) (.int .i64 (1:Nat))).set (sl.length*3+1) (.int .u32 (0+1:Nat))).set (sl.length*3+2) (.int .i64 addr))->
       BV W t (.slice (some ⟨d,0,none⟩) (sl.length+1) I) most last (sl++ [⟨1,0+1,addr⟩])):=Zh (λW O au=>by
       have bk:=J.l1;have aP:=J.US (w' :=W) (k:=sl.length) (sl0:=sl++ [(⟨0,0,0⟩:Sl)]) (g:=d) (c:=I) (by simp) ⟨1,0+1,addr⟩ (Om (by omega) ha) (λx hx=>by simpa using hx) (λx hx=>by
        rw [List.set_append_right _ _ (Nat.le_refl _)] at hx
        simpa using hx) (by rw [ai];have:=aA.out;omega) (((World.cell?_of_block (a:=⟨t,0,none⟩) O).trans a5).trans h0.symm) ((World.cell?_of_block (a:=⟨t,1,none⟩) O).trans ba) (by rw [ai];exact(World.cell?_of_block (a:=⟨t,2,none⟩) O).trans a6) ((World.frozen?_of_block (a:=⟨t,2,none⟩) O).trans a7) aE (by rw [ai];exact au)
       rw [ai,List.set_append_right _ _ (Nat.le_refl _)] at aP
       simpa using aP)
      have bb:A6 t (.slice (some ⟨d,0,none⟩) (sl.length+1) I) d := .inr rfl;clear ai aG h0 aF;refine Ck 17 (by kernel_rfl) (by kernel_rfl) ?_;simp only [List.take_succ_cons,List.take_zero,List.drop_succ_cons,List.drop_zero]
      repeat (go_big_quiet_step (fail))
      refine wpQuiet_nil ?_;rintro _ ⟨Z,rfl⟩;have ag:=Zh (af _ (L7 Z d t (sl.length*3) (sl.length*3+1) (sl.length*3+2) (.int .i64 1) (.int .u32 1) (.int .i64 addr) (Ne.symm aE)) (PB a9 Z (sl.length*3) (sl.length*3+1) (sl.length*3+2) (.int .i64 1) (.int .u32 1) (.int .i64 addr)));have ay:=Zh (a8.trans (Od (w:=W2) Z d (sl.length*3) (sl.length*3+1) (sl.length*3+2) (.int .i64 1) (.int .u32 1) (.int .i64 addr) bb));have aa:=Rk ag.out (k:=sl.length) (by simp);rw [List.getElem_concat_length (by rfl)] at aa;have az:=Zh aa;clear aa af;go_wp2_with fail;refine az.mono ?_;rintro e w' ⟨rfl,rfl⟩;go_wp2
      go_ret2
      exact .inl ⟨sl.length,1,_,_,⟨.inr ⟨rfl,rfl,rfl⟩⟩,rfl,ag,ay⟩
structure FL(L:HL)(mem:Nat->Nat)(h addr:Nat)(ws:List Nat):Prop where
 Az:(addr,Dp (ws.length+2))∈blocks L
 h0:mem addr=h
 h1:mem (addr+1)=ws.length
 wd: ∀i (hi:i<ws.length),mem (addr+2+i)=ws[i]
 len:ws.length<=3998
structure Ch(w:World)(s:Nat)(F:Nat->Prop)(R:Zr)(H:List Nat)(P q most last G a ha t:Nat)(v:Value)(L:HL)(mem:Nat->Nat)(sl:List Sl)(Fh:Nat->Prop):Prop where
 ca:w.cell? ⟨s,2,none⟩=some (.pointer (some ⟨a,0,none⟩))
 ch:w.cell? ⟨s,3,none⟩=some (.pointer (some ⟨ha,0,none⟩))
 ct:w.cell? ⟨s,4,none⟩=some (.pointer (some ⟨t,0,none⟩))
 heap:Bl w ha a Fh L q mem
 tab:BV w t v most last sl
 Gu:F=λb=>Fh b\/A6 t v b
 apart: ∀b,Fh b-> ¬A6 t v b
 Hg: ¬F s
 Oo: ¬A6 t v ha
 Ns: ∀b,A6 t v b->1<b
 link: ∀h k (n:Names sl h k),∃ws,R h=some ws/\FL L mem h (sl[k]'n.lt).addr ws
 LC: ∀h,h∈H↔ ∃k,Names sl h k
 Gt : ∀h,h∉H->R h=none
 perm:H.Perm ((blocks L).map λb=>mem b.1)
 nodup:H.Nodup
 Cc:(runs L).length<=P
 Jw: ∀x∈sl,x.gen<=G
 ret: ∀x∈sl,x.is=2->x.gen=last
def Am(w:World)(s:Nat)(F:Nat->Prop)(R:Zr)(H:List Nat)(P q most last G:Nat):Prop:=
 ∃a ha t v L mem sl Fh,Ch w s F R H P q most last G a ha t v L mem sl Fh
section
variable  {s:Nat} {F:Nat->Prop} {R:Zr} {H:List Nat} {P q G a ha:Nat}  {L:HL}  {sl:List Sl} {Fh:Nat->Prop}
theorem Ch.below(h:Ch w s F R H P q most last G a ha t v L mem sl Fh)(d:Below w.heap.size w w'):Ch w' s F R H P q most last G a ha t v L mem sl Fh:=
 { h with
   ca:=(d.cell (p:=⟨s,2,none⟩) (Al h.ca)).trans h.ca
   ch:=(d.cell (p:=⟨s,3,none⟩) (Al h.ch)).trans h.ch
   ct:=(d.cell (p:=⟨s,4,none⟩) (Al h.ct)).trans h.ct
   heap:=h.heap.below d
   tab:=h.tab.below d }
theorem Am.below(h:Am w s F R H P q most last G)(d:Below w.heap.size w w'):Am w' s F R H P q most last G:=by
 obtain⟨a,ha,t,v,L,mem,sl,Fh,h⟩:=h;exact⟨a,ha,t,v,L,mem,sl,Fh,h.below d⟩
theorem Ch.lt(h:Ch w s F R H P q most last G a ha t v L mem sl Fh)(d:F b):b<w.heap.size:=by
 have:=h.Gu;subst this;rcases d with h1|h1
 . exact h.heap.lt h1
 . exact h.tab.lt h1
theorem Am.lt(h:Am w s F R H P q most last G)(d:F b):b<w.heap.size:=by
 obtain⟨a,ha,t,v,L,mem,sl,Fh,h⟩:=h;exact h.lt d
theorem Am.FN(h:Am w s F R H P q most last G):s<w.heap.size:=by
 obtain⟨a,ha,t,v,L,mem,sl,Fh,h⟩:=h;exact Al (a:=⟨s,2,none⟩) h.ca
theorem Am.X6(h:Am w s F R H P q most last G): ¬F s:=by
 obtain⟨a,ha,t,v,L,mem,sl,Fh,h⟩:=h;exact h.Hg
theorem Ch.record(h:Ch w s F R H P q most last G a ha t v L mem sl Fh)(d:R x=some ws): ∃k,∃n:Names sl x k,FL L mem x (sl[k]'n.lt).addr ws:=by
 have hx:x∈H:=by
  by_cases hx:x∈H
  . exact hx
  . rw [h.Gt x hx] at d;cases d
 obtain⟨k,n⟩:=(h.LC x).1 hx;obtain⟨J,h1,I⟩:=h.link x k n;rw [d] at h1
 cases h1
 exact⟨k,n,I⟩
theorem Ch.no(h:Ch w s F R H P q most last G a ha t v L mem sl Fh)(d:R x=none):MQ sl x:=λk n=>by
 obtain⟨ws,h1,_⟩:=h.link x k n;rw [d] at h1;cases h1
theorem Ga(h:Ch w s F R H P q most last G a ha t v L mem sl Fh):Calls prog 51 #[.pointer (some ⟨s,0,none⟩)] w λe w' =>e= .returned (.bool false)/\w=w' :=by
 have d:=h.ca;clear h;go_enter func51,ntmps51;go_wp2;go_ret;exact⟨rfl,rfl⟩
theorem Ch.R64(h:Ch w s F R H P q most last G a ha t v L mem sl Fh)(d:R x=some ws):x<18446744073709551616:=by
 obtain⟨k,n,_⟩:=h.record d;have h1:=n.gen n.lt;have I:=(h.tab.ok _ (List.getElem_mem n.lt)).hi;have J:=h.tab.l2;have O:=h.tab.len;have U:=h.tab.m2;have V:=n.lt;unfold Bc at h1;omega
def Yfz{P}(h:P:=by
 refine d.mono ?_;rintro e w' ⟨rfl,rfl⟩;go_wp2
 go_ret3
 exact⟨rfl,rfl⟩):=h
theorem Ob(h:Ch w s F R H P q most last G a ha t v L mem sl Fh)(n:Names sl x k)(I:FL L mem x (sl[k]'n.lt).addr ws):
 Calls prog 79 #[.pointer (some ⟨s,0,none⟩), .int .u64 x] w λe w' =>e= .returned (.tuple #[.int .i64 ((sl[k]'n.lt).addr:Nat), .int .i64 ws.length, .int .i64 0])/\w=w' :=by
 have hN:=Zh (Ga h);have O:=Zh (Yp h.tab n n.lt);have U:=Fs (ws.length+2);have J:=NJ h.heap I.Az ((sl[k]'n.lt).addr+1) (by simp) (by simp only;omega);rw [I.h1] at J;have d:=Zh J;have V:=h.ca;have Z:=h.ct;have aa:=(h.tab.ok _ (List.getElem_mem n.lt)).addr;have ab:=I.len;generalize (sl[k]'n.lt).addr=addr at*;clear h I J U n;go_enter func79,ntmps79;go_wp2_with fail;refine hN.mono ?_;rintro e w' ⟨rfl,rfl⟩;go_wp2_with fail;refine O.mono ?_;rintro e w' ⟨rfl,rfl⟩;go_wp2_with fail;rw [show((addr:Int)+1)=((addr+1:Nat):Int) by push_cast;rfl];exact Yfz
theorem PE(h:Ch w s F R H P q most last G a ha t v L mem sl Fh)(hx:x<18446744073709551616)(I:MQ sl x):
 Calls prog 79 #[.pointer (some ⟨s,0,none⟩), .int .u64 x] w λe w' =>e= .returned (.tuple #[.int .i64 0, .int .i64 0, .int .i64 7])/\w=w' :=by
 have hN:=Zh (Ga h);have d:=Zh (Vy h.tab hx I);have J:=h.ct;clear h I hx;go_enter func79,ntmps79;go_wp2_with fail;refine hN.mono ?_;rintro e w' ⟨rfl,rfl⟩;go_wp2_with fail;exact Yfz
def KX(R:Zr)(x:Nat):Value:=
 match R x with
 |some ws=> .tuple #[.int .i64 ws.length, .int .i64 0]
 |none=> .tuple #[.int .i64 0, .int .i64 7]
def Ydw{P}(h:P:=by
 go_enter func67,ntmps67;go_wp2_with (go_at_call 79;refine d.mono ?_;rintro e w' ⟨rfl,rfl⟩)
 go_ret2
 exact⟨rfl,rfl⟩):=h
theorem IX(h:Am w s F R H P q most last G)(x:Nat)(hx:x<18446744073709551616):
 Calls prog 67 #[.pointer (some ⟨s,0,none⟩), .int .u64 x] w λe w' =>e= .returned (KX R x)/\w=w' :=by
 obtain⟨a,ha,t,v,L,mem,sl,Fh,h⟩:=h;unfold KX
 cases I:R x with
 |none=>
  have d:=Zh (PE h hx (h.no I));clear h I hx;exact Ydw
 |some ws=>
  obtain⟨k,n,J⟩:=h.record I;have d:=Zh (Ob h n J);generalize (sl[k]'n.lt).addr=addr at d;clear h J n I hx;exact Ydw
theorem N7(h:Ch w s F R H P q most last G a ha t v L mem sl Fh)(n:Names sl x k)(d:FL L mem x (sl[k]'n.lt).addr ws)(hi:i<ws.length):
 Calls prog 140 #[.pointer (some ⟨s,0,none⟩), .int .u64 x, .int .i64 i] w λe w' =>e= .returned (.tuple #[.int .i64 ((sl[k]'n.lt).addr+2+i:Nat), .int .i64 0])/\w=w' :=by
 have I:=Zh (Ob h n d);have J:=(h.tab.ok _ (List.getElem_mem n.lt)).addr;have O:=d.len;generalize (sl[k]'n.lt).addr=addr at*;clear h d n;go_enter func140,ntmps140;go_wp2_with (go_at_call 79;refine I.mono ?_;rintro e w' ⟨rfl,rfl⟩)
 go_ret2
 exact⟨by rw [show((addr+2+i:Nat):Int)=(addr:Int)+2+(i:Int) by push_cast;rfl];rfl,rfl⟩
theorem Xn(h:Am w s F R H P q most last G)(O:R x=some ws)(hi:i<ws.length):
 Calls prog 121 #[.pointer (some ⟨s,0,none⟩), .int .u64 x, .int .i64 i] w λe w' =>e= .returned (.tuple #[.int .u64 (ws[i]:Nat), .int .i64 0])/\w=w' :=by
 obtain⟨a,ha,t,v,L,mem,sl,Fh,h⟩:=h;obtain⟨k,n,I⟩:=h.record O;have U:=Zh (N7 h n I hi);have V:=Fs (ws.length+2);have J:=NJ h.heap I.Az ((sl[k]'n.lt).addr+2+i) (by simp only;omega) (by simp only;omega);rw [I.wd i hi] at J;have d:=Zh J;have Z:=h.ca;generalize (sl[k]'n.lt).addr=addr at*;generalize ws[i]=word at*;clear h I n O J V;go_enter func121,ntmps121;go_wp2_with fail;refine U.mono ?_;rintro e w' ⟨rfl,rfl⟩;exact Yfd
end
def AT(R:Zr)(x:Nat)(o:Option (List Nat)):Zr:=λy=>if y=x then o else R y
theorem AR(R:Zr)(x:Nat)(o:Option (List Nat)):AT R x o x=o:=if_pos rfl
theorem As{R:Zr}{o:Option (List Nat)}(h:y≠x):AT R x o y=R y:=if_neg h
theorem FL.same{L L' :HL}{mem':Nat->Nat}(r:FL L mem h addr ws)(d:(addr,Dp (ws.length+2))∈blocks L')(hm: ∀i,addr<=i->i<addr+Dp (ws.length+2)->mem' i=mem i):FL L' mem' h addr ws:=by
 have I:=Fs (ws.length+2);refine⟨d, ?_, ?_,λi hi=> ?_,r.len⟩
 . rw [hm _ (Nat.le_refl _) (by omega),r.h0]
 . rw [hm _ (by omega) (by omega),r.h1]
 . rw [hm _ (by omega) (by omega),r.wd i hi]
theorem CY{L:HL}(d:Lay L){b:Nat × Nat}(I:b∈blocks L):2<=b.2:=by
 obtain⟨y,J,O⟩:=Ex.1 I;exact(CI (d.ok y J) O).2.2
theorem Sm{L:HL}(U:Lay L){I d:Nat}{J:List Nat}(r:FL L mem h addr ws)(O :FL L mem I d J)(V:h≠I):
 addr+Dp (ws.length+2)<=d \/d +Dp (J.length+2)<=addr:=by
 rcases Fb U r.Az O.Az with h1|h1|h1
 . have:addr=d :=congrArg Prod.fst h1
   exact absurd (r.h0.symm.trans (by rw [this];exact O.h0)) V
 . exact .inl h1
 . exact .inr h1
section
variable  {s:Nat} {F:Nat->Prop} {R:Zr} {H:List Nat} {P q G a ha:Nat}  {L:HL}  {sl:List Sl} {Fh:Nat->Prop}
theorem HK{d:Nat}(I:k<65536)(J :k' <65536)(h:Bc g k=Bc d k'):g=d /\k=k' :=by
 unfold Bc at h;omega
theorem Ch.SE(h:Ch w s F R H P q most last G a ha t v L mem sl Fh)(d:k<sl.length):k<65536:=by
 have:=h.tab.len;have:=h.tab.m2;omega
theorem Ch.Px(h:Ch w s F R H P q most last G a ha t v L mem sl Fh)(n:Names sl x k)(n' :Names sl x k'):k=k' :=
 (HK (h.SE n.lt) (h.SE n'.lt) ((n.gen n.lt).symm.trans (n'.gen n'.lt))).2
theorem Ch.put(h:Ch w s F R H P q most last G a ha t v L mem sl Fh)(n:Names sl x k)(ab:R x=some ws)(J:FL L mem x (sl[k]'n.lt).addr ws)(hi:i<ws.length)
 (hh:Bl w' ha a Fh L q (B5 mem ((sl[k]'n.lt).addr+2+i) u)) (d:Ad w Fh w' Fh):
 Ch w' s F (AT R x (some (ws.set i u))) H P q most last G a ha t v L (B5 mem ((sl[k]'n.lt).addr+2+i) u) sl Fh/\Ad w F w' F:=by
 have ag:=h.Gu;subst ag;have Z: ¬Fh s:=λU=>h.Hg (.inl U)
 have aj:=Fs (ws.length+2)
 refine⟨{ h with
  ca:=d.cell h.ca Z
  ch:=d.cell h.ch Z
  ct:=d.cell h.ct Z
  heap:=hh
  tab:=h.tab.Ar d (λb I U=>h.apart b U I)
  Gu:=rfl
  link:=λy k' n' => ?_
  Gt :=λy ac=> ?_
  perm:= ?_ },⟨d.os,d.tape,d.output,d.size,λb I U=>d.keep b I (λah =>U (.inl ah)),λb I=> .inl I⟩⟩
 . by_cases O:y=x
   . subst O
     obtain rfl:=h.Px n n';refine⟨ws.set i u,AR _ _ _, ?_, ?_, ?_,λj ae=> ?_, ?_⟩
     . rw [List.length_set];exact J.Az
     . simp only [B5];rw [if_neg (by omega)];exact J.h0
     . simp only [B5];rw [if_neg (by omega),List.length_set];exact J.h1
     . rw [List.length_set] at ae
       simp only [B5];rw [List.getElem_set];by_cases af:i=j
       . rw [if_pos (by omega),if_pos af]
       . rw [if_neg (by omega),if_neg af];exact J.wd j ae
     . rw [List.length_set];exact J.len
   . obtain⟨ai,h1,aa⟩:=h.link y k' n'
     refine⟨ai,(As O).trans h1,aa.same aa.Az (λj al am=> ?_)⟩;have:=Sm h.heap.lay aa J O;simp only [B5];rw [if_neg (by omega)]
 . by_cases O:y=x
   . subst O
     rw [h.Gt y ac] at ab;cases ab
   . exact(As O).trans (h.Gt y ac)
 . have:((blocks L).map λb=>B5 mem ((sl[k]'n.lt).addr+2+i) u b.1)=(blocks L).map λb=>mem b.1:=by
    apply List.map_congr_left;intro b I;simp only [B5];rw [if_neg];intro e;have an:=CY h.heap.lay I;rcases Fb h.heap.lay I J.Az with V|V|V
    . have:=congrArg Prod.fst V;simp only at this;omega
    . simp only at V;omega
    . simp only at V;omega
   rw [this];exact h.perm
theorem RR(h:Am w s F R H P q most last G)(J:R x=some ws)(hi:i<ws.length)(hu:u<18446744073709551616):
 Calls prog 90 #[.pointer (some ⟨s,0,none⟩), .int .u64 x, .int .i64 i, .int .u64 u] w λe w' =>e= .returned (.int .i64 0)/\Am w' s F (AT R x (some (ws.set i u))) H P q most last G/\Ad w F w' F:=by
 obtain⟨a,ha,t,v,L,mem,sl,Fh,h⟩:=h;obtain⟨k,n,d⟩:=h.record J;have U:=Zh (N7 h n d hi);have V:=Fs (ws.length+2);have Z:=Zh (Lu h.heap d.Az ((sl[k]'n.lt).addr+2+i) u (by simp only;omega) (by simp only;omega) hu);have aa:=Zh (λw' hh I=>h.put (w' :=w') (u:=u) n J d hi hh I);have ae:=h.ca;generalize (sl[k]'n.lt).addr=addr at*;clear h d n J V;go_enter func90,ntmps90;go_wp2_with fail;refine U.mono ?_;rintro e w' ⟨rfl,rfl⟩;go_wp2_with fail;refine Z.mono ?_;rintro e w' ⟨rfl,hh,I⟩;obtain⟨h1,O⟩:=aa.out w' hh I;have ab:=Zh h1;have ac:=Zh O;clear h1 O hh I;go_wp2;go_ret;exact⟨rfl,⟨_,_,_,_,_,_,_,_,ab⟩,ac⟩
end
theorem Ad.left{J:Nat->Prop}(h:Ad w A w' J):Ad w (λb=>A b\/B b) w' (λb=>J b\/B b):=
 ⟨h.os,h.tape,h.output,h.size,λk d O=>h.keep k d (λha=>O (.inl ha)),λk d=>by
  rcases d with h1|h1
  . rcases h.grow k h1 with I|I
    . exact .inl (.inl I)
    . exact .inr I
  . exact .inl (.inr h1)⟩
theorem Ad.right{B':Nat->Prop}(h:Ad w B w' B'):Ad w (λb=>A b\/B b) w' (λb=>A b\/B' b):=
 ⟨h.os,h.tape,h.output,h.size,λk d J=>h.keep k d (λha=>J (.inr ha)),λk d=>by
  rcases d with h1|h1
  . exact .inl (.inl h1)
  . rcases h.grow k h1 with I|I
    . exact .inl (.inr I)
    . exact .inr I⟩
theorem NP{sl:List Sl}{J :Sl}(O:k<sl.length)(d:k' ≠k):Names (sl.set k J) y k' ↔Names sl y k' :=by
 constructor
 . intro n
   have I:=n.lt;rw [List.length_set] at I;refine⟨I,λh=> ?_,λh=> ?_⟩
   . have:=n.is n.lt;rwa [List.getElem_set_ne (Ne.symm d)] at this
   . have:=n.gen n.lt;rwa [List.getElem_set_ne (Ne.symm d)] at this
 . intro n
   refine⟨by rw [List.length_set];exact n.lt,λh=> ?_,λh=> ?_⟩
   . rw [List.getElem_set_ne (Ne.symm d)];exact n.is n.lt
   . rw [List.getElem_set_ne (Ne.symm d)];exact n.gen n.lt
theorem Ox{sl:List Sl}{I :Sl}(J:k<sl.length)(hs:I.is≠1):Names (sl.set k I) y k' ↔Names sl y k' /\k' ≠k:=by
 by_cases d:k' =k
 . subst d
   constructor
   . intro n
     have:=n.is n.lt;rw [List.getElem_set_self] at this;exact absurd this hs
   . intro h;exact absurd rfl h.2
 . rw [NP J d]
   exact⟨λh=>⟨h,d⟩,λh=>h.1⟩
theorem OG{sl:List Sl}{I :Sl}(d:k' <sl.length):Names (sl++ [I]) y k' ↔Names sl y k' :=by
 constructor
 . intro n
   refine⟨d,λh=> ?_,λh=> ?_⟩
   . have:=n.is n.lt;rwa [List.getElem_append_left d] at this
   . have:=n.gen n.lt;rwa [List.getElem_append_left d] at this
 . intro n
   refine⟨by rw [List.length_append];omega,λh=> ?_,λh=> ?_⟩
   . rw [List.getElem_append_left d];exact n.is d
   . rw [List.getElem_append_left d];exact n.gen d
theorem Ff{sl sl' :List Sl}(o:GZ sl addr k g sl'):Names sl' y k' ↔Names sl y k' \/(k' =k/\y=Bc g k):=by
 rcases o.DF with ⟨I,h0,rfl,rfl⟩|⟨rfl,rfl,rfl⟩
 . by_cases d:k' =k
   . subst d
     constructor
     . intro n
       have:=n.gen n.lt;rw [List.getElem_set_self] at this;exact .inr ⟨rfl,this⟩
     . rintro(n|⟨_,rfl⟩)
       . have:=n.is n.lt;omega
       . refine⟨by rw [List.length_set];exact I,λh=> ?_,λh=> ?_⟩<;>rw [List.getElem_set_self]
   . rw [NP I d]
     exact⟨.inl,λh=>h.resolve_right (λh=>d h.1)⟩
 . by_cases J:k' <sl.length
   . rw [OG J]
     exact⟨.inl,λh=>h.resolve_right (λh=>by omega)⟩
   . constructor
     . intro n
       have O:=n.lt;rw [List.length_append] at O;simp at O;have U :k' =sl.length:=(by omega);subst U;have:=n.gen n.lt;rw [List.getElem_concat_length (by rfl)] at this;exact .inr ⟨rfl,this⟩
     . rintro(n|⟨rfl,rfl⟩)
       . exact absurd n.lt J
       . refine⟨by simp,λh=> ?_,λh=> ?_⟩<;>rw [List.getElem_concat_length (by rfl)]
theorem H8{sl sl' :List Sl}(o:GZ sl addr k g sl'): ∃h:k<sl'.length,sl'[k]=⟨1,g,addr⟩:=by
 rcases o.DF with ⟨d,h0,rfl,rfl⟩|⟨rfl,rfl,rfl⟩
 . exact⟨by rw [List.length_set];exact d,List.getElem_set_self _⟩
 . exact⟨by simp,List.getElem_concat_length (by rfl) _⟩
theorem Rz{sl sl' :List Sl}(o:GZ sl addr k g sl')(n:Names sl y k'): ∃h:k' <sl'.length,sl'[k']=sl[k']'n.lt:=by
 have d:=n.lt;rcases o.DF with ⟨J,h0,rfl,rfl⟩|⟨rfl,rfl,rfl⟩
 . have I:k≠k' :=by rintro rfl;have:=n.is n.lt;omega
   exact⟨by rw [List.length_set];exact d,List.getElem_set_ne I _⟩
 . exact⟨by rw [List.length_append];omega,List.getElem_append_left d⟩
theorem Mh{sl sl' :List Sl}(o:GZ sl addr k g sl'){x:Sl}(hx:x∈sl'):x∈sl\/x=⟨1,g,addr⟩:=by
 rcases o.DF with ⟨d,h0,rfl,rfl⟩|⟨rfl,rfl,rfl⟩
 . exact List.mem_or_eq_of_mem_set hx
 . simpa using hx
theorem RD{sl sl' :List Sl}{G:Nat}(o:GZ sl addr k g sl')(d: ∀x∈sl,x.gen<=G):g<=G+1:=by
 rcases o.DF with ⟨I,h0,rfl,rfl⟩|⟨rfl,rfl,rfl⟩
 . have:=d _ (List.getElem_mem I);omega
 . omega
section
variable  {s:Nat} {F:Nat->Prop} {R:Zr} {H:List Nat} {P q G a ha:Nat} {v':Value} {L L':HL} {mem':Nat->Nat} {sl sl':List Sl} {Fh Fh':Nat->Prop}
def YI{P}(h:P:=by
 have d:s<w.heap.size:=Al (a:=⟨s,2,none⟩) h.ca;exact d):=h
theorem Ch.YY(h:Ch w s F R H P q most last G a ha t v L mem sl Fh)(hh:Bl w' ha a Fh' L' q mem')(I:Ad w Fh w' Fh')(hp:(blocks L').Perm (blocks L))(hm: ∀c∈blocks L,∀i,c.1<=i->i<c.1+c.2->mem' i=mem i){P' :Nat}(Z:(runs L').length<=P'):
 Ch w' s (λb=>Fh' b\/A6 t v b) R H P' q most last G a ha t v L' mem' sl Fh' /\Ad w F w' (λb=>Fh' b\/A6 t v b):=by
 have aa:=h.Gu;subst aa;have U: ¬Fh s:=λd=>h.Hg (.inl d)
 have ab:=YI
 refine⟨{ h with
  ca:=I.cell h.ca U
  ch:=I.cell h.ch U
  ct:=I.cell h.ct U
  heap:=hh
  tab:=h.tab.Ar I (λb J d=>h.apart b d J)
  Gu:=rfl
  apart:=λb J V =>I.not (h.tab.lt V) (λd=>h.apart b d V) J
  Hg:=λd=>d.elim (λd=>I.not ab U d) (λd=>h.Hg (.inr d))
  link:=λy k n=> ?_
  perm:= ?_
  Cc:=Z },I.left⟩
 . obtain⟨ws,h1,O⟩:=h.link y k n
   exact⟨ws,h1,O.same (hp.mem_iff.2 O.Az) (hm _ O.Az)⟩
 . have h1:((blocks L').map λb=>mem' b.1).Perm ((blocks L).map λb=>mem' b.1):=hp.map _
   have O:((blocks L).map λb=>mem' b.1)=(blocks L).map λb=>mem b.1:=(List.map_congr_left λb J=>hm b J b.1 (Nat.le_refl _) (by have:=CY h.heap.lay J;omega));rw [O] at h1;exact h.perm.trans h1.symm
def Yga{P}(h:P:=by
 simp only at I;rw [U i (by omega) (by omega)];exact J.same c O i h1 d):=h
def Yot{P}(h:P:=by
 have I: ¬Fh s:=λd=>h.Hg (.inl d)
 have J: ¬A6 t v s:=λd=>h.Hg (.inr d)
 exact And.intro I J):=h
theorem Ch.make{X:Nat->Prop}(h:Ch w s F R H P q most last G a ha t v L mem sl Fh){w3:World}{Z:Nat->Nat}(af:n<=3998)
 (t1:Ad w Fh w1 Fh') (J:TC L mem addr (n+2) L' Z) (o:GZ sl addr k g sl') (ai:BV w2 t v' most last sl') (t2:Ad w1 (A6 t v) w2 (A6 t v'))
 (t3:Ad w2 (λb=>Fh' b\/X b) w3 (λb=>Fh' b\/X b)) (aj: ∀b,X b->w.heap.size<=b/\ ¬A6 t v' b) (hh:Bl w3 ha a Fh' L' q (B5 (B5 Z addr (Bc g k)) (addr+1) n)) (aA: ∀b,Fh' b->b<w1.heap.size):
 Ch w3 s (λb=>Fh' b\/A6 t v' b) (AT R (Bc g k) (some (List.replicate n 0))) (Bc g k::H) (P+CC (n+2)) q most last (G+1) a ha t v' L' (B5 (B5 Z addr (Bc g k)) (addr+1) n) sl' Fh' /\
 Ad w F w3 (λb=>Fh' b\/A6 t v' b)/\R (Bc g k)=none:=by
 have aB:=h.Gu;subst aB;obtain⟨ag,ah⟩:=Yot;have an:=YI;have ao: ¬Fh' s:=t1.not an ag;have aC: ¬A6 t v' s:=t2.not (Nat.lt_of_lt_of_le an t1.size) ah;have aq: ∀b,Fh' b-> ¬A6 t v' b:=λb V aa=>by
  rcases t2.grow b aa with h1|h1
  . exact t1.not (h.tab.lt h1) (λV=>h.apart b V h1) V
  . have:=aA b V;omega
 have al: ¬(Fh' s\/X s):=λV=>V.elim ao (λhx=>by have:=(aj s hx).1;omega)
 have ab:=t1.left.trans t2.right;have aD:Ad w (λb=>Fh b\/A6 t v b) w3 (λb=>Fh' b\/A6 t v' b):=
  ⟨t3.os.trans ab.os,t3.tape.trans ab.tape,t3.output.trans ab.output,Nat.le_trans ab.size t3.size,λk ac af=>by
   refine(t3.keep k (Nat.lt_of_lt_of_le ac ab.size) (λV=> ?_)).trans (ab.keep k ac af);rcases V with V|V
   . exact t1.not ac (λhh=>af (.inl hh)) V
   . have:=(aj k V).1;omega,ab.grow⟩
 have aG:=Fs (n+2);have U: ∀i,i≠addr->i≠addr+1->B5 (B5 Z addr (Bc g k)) (addr+1) n i=Z i:=λi h1 d=>by
  simp only [B5];rw [if_neg d,if_neg h1]
 have ar:(addr,Dp (n+2))∈blocks L' :=J.perm.mem_iff.2 List.mem_cons_self;have au:=J.perm.nodup_iff.1 (G7 hh.lay);rw [List.nodup_cons] at au;have hold: ∀c∈blocks L,c∈blocks L' /\ ∀i,c.1<=i->i<c.1+c.2->B5 (B5 Z addr (Bc g k)) (addr+1) n i=mem i:=λc O=>by
  have aw :c∈blocks L' :=J.perm.mem_iff.2 (List.mem_cons_of_mem _ O);refine⟨aw,λi h1 d=> ?_⟩;have:=Fb hh.lay aw ar;have am:c≠(addr,Dp (n+2)):=λe=>au.1 (e▸O)
  rcases this with I|I|I
  . exact absurd I am
  . exact Yga
  . exact Yga
 have aE:k<65536:=by
  obtain⟨ac,_⟩:=H8 o;have:=ai.len;have:=ai.m2;omega
 have ax: ∀k',¬Names sl (Bc g k) k' :=λk' n' =>by
  have I:=HK aE (h.SE n'.lt) (n'.gen n'.lt);have ay:=I.2;subst ay;rcases o.DF with ⟨ac,h0,_,_⟩|⟨rfl,_,_⟩
  . have:=n'.is n'.lt;omega
  . exact absurd n'.lt (Nat.lt_irrefl _)
 have az:Bc g k∉H:=λhm=>by
  obtain⟨k',n'⟩:=(h.LC _).1 hm;exact ax k' n'
 refine⟨{
  ca:=t3.cell (t2.cell (t1.cell h.ca ag) ah) al
  ch:=t3.cell (t2.cell (t1.cell h.ch ag) ah) al
  ct:=t3.cell (t2.cell (t1.cell h.ct ag) ah) al
  heap:=hh
  tab:=ai.Ar t3 (λb aa V=>V.elim (λV=>aq b V aa) (λV=>(aj b V).2 aa))
  Gu:=rfl
  apart:=aq
  Hg:=λV=>V.elim ao aC
  Oo:=t2.not (Nat.lt_of_lt_of_le h.heap.off.2.1 t1.size) h.Oo
  Ns:=λb aa=> ?_
  link:=λy k' n' => ?_
  LC:=λy=> ?_
  Gt :=λy ae=> ?_
  perm:= ?_
  nodup:=List.nodup_cons.2 ⟨az,h.nodup⟩
  Cc:=by have:=J.Cc;have:=h.Cc;omega
  Jw:=λx hx=> ?_
  ret:=λx hx d=> ?_ },aD,h.Gt _ az⟩
 . rcases t2.grow b aa with h1|h1
   . exact h.Ns b h1
   . have d:=h.heap.off
     have I:=d.2.2.2 a d.2.2.1;have ay:=h.heap.lt d.2.2.1;have:=t1.size;omega
 . rcases(Ff o).1 n' with n1|⟨rfl,rfl⟩
   . have am:y≠Bc g k:=λe=>ax k' (e▸n1)
     obtain⟨ws,h1,d⟩:=h.link y k' n1;obtain⟨aF,he⟩:=Rz o n1;refine⟨ws,(As am).trans h1, ?_⟩;rw [he];exact d.same (hold _ d.Az).1 (hold _ d.Az).2
   . obtain⟨aF,he⟩:=H8 o
     refine⟨List.replicate n 0,AR _ _ _, ?_⟩;rw [he];refine⟨by rw [List.length_replicate];exact ar, ?_, ?_,λi hi=> ?_,by rw [List.length_replicate];exact af⟩
     . simp only [B5];rw [if_neg (by omega),if_pos trivial]
     . simp only [B5];rw [if_pos trivial,List.length_replicate]
     . rw [List.length_replicate] at hi
       rw [U _ (by simp only;omega) (by simp only;omega),List.getElem_replicate];exact J.zero _ (by simp only;omega) (by simp only;omega)
 . rw [List.mem_cons]
   constructor
   . rintro(rfl|ae)
     . exact⟨k,(Ff o).2 (.inr ⟨rfl,rfl⟩)⟩
     . obtain⟨k',n'⟩:=(h.LC y).1 ae
       exact⟨k',(Ff o).2 (.inl n')⟩
   . rintro⟨k',n'⟩
     rcases(Ff o).1 n' with n1|⟨rfl,rfl⟩
     . exact .inr ((h.LC y).2 ⟨k',n1⟩)
     . exact .inl rfl
 . rw [List.mem_cons,not_or] at ae
   exact(As ae.1).trans (h.Gt y ae.2)
 . have h1:((blocks L').map λb=>B5 (B5 Z addr (Bc g k)) (addr+1) n b.1).Perm (((addr,Dp (n+2))::blocks L).map λb=>B5 (B5 Z addr (Bc g k)) (addr+1) n b.1):=J.perm.map _
   rw [List.map_cons] at h1;have d:((blocks L).map λb=>B5 (B5 Z addr (Bc g k)) (addr+1) n b.1)=(blocks L).map λb=>mem b.1:=
    List.map_congr_left λb aa=>(hold b aa).2 b.1 (Nat.le_refl _) (by have:=CY h.heap.lay aa;omega)
   have I:B5 (B5 Z addr (Bc g k)) (addr+1) n addr=Bc g k:=(by simp only [B5];rw [if_neg (by omega),if_pos trivial]);rw [d] at h1;simp only [I] at h1;exact(h.perm.cons _).trans h1.symm
 . rcases Mh o hx with h1|rfl
   . have:=h.Jw x h1;omega
   . exact RD o h.Jw
 . rcases Mh o hx with h1|rfl
   . exact h.ret x h1 d
   . cases d
theorem Ch.drop(h:Ch w s F R H P q most last G a ha t v L mem sl Fh)(n:Names sl x k)(ax:R x=some ws)(ag:FL L mem x (sl[k]'n.lt).addr ws)
 (hh:Bl w1 ha a Fh' L' q mem') (t1:Ad w Fh w1 Fh') (d:TQ L mem ((sl[k]'n.lt).addr,Dp (ws.length+2)) L' mem')
 (am:BV w2 t v most last (sl.set k { (sl[k]'n.lt) with is:=DZ (sl[k]'n.lt).gen last })) (t2:Ad w1 (A6 t v) w2 (A6 t v)):
 Ch w2 s (λb=>Fh' b\/A6 t v b) (AT R x none) (H.erase x) P q most last G a ha t v L' mem' (sl.set k { (sl[k]'n.lt) with is:=DZ (sl[k]'n.lt).gen last }) Fh' /\Ad w F w2 (λb=>Fh' b\/A6 t v b):=by
 have an:=h.Gu;subst an;obtain⟨U,V⟩:=Yot;have ao:=YI;have aq: ¬Fh' s:=t1.not ao U;have ah: ∀b,Fh' b-> ¬A6 t v b:=λb Z ai =>t1.not (h.tab.lt ai) (λd=>h.apart b d ai) Z
 have ar:DZ (sl[k]'n.lt).gen last≠1:=by unfold DZ;split<;>omega
 have ay:x∈H:=(h.LC x).2 ⟨k,n⟩;have ab: ∀{y k' :Nat},Names (sl.set k { (sl[k]'n.lt) with is:=DZ (sl[k]'n.lt).gen last }) y k' ↔Names sl y k' /\k' ≠k:=Ox n.lt ar;have ac: ∀{y k' :Nat},Names sl y k' ->(k' ≠k↔y≠x):=λ{y k'} n' =>by
  constructor
  . intro h1 e;subst e;exact h1 (h.Px n' n)
  . intro h1 e;subst e;exact h1 ((n'.gen n'.lt).trans (n.gen n.lt).symm)
 refine⟨{ h with
  ca:=t2.cell (t1.cell h.ca U) V
  ch:=t2.cell (t1.cell h.ch U) V
  ct:=t2.cell (t1.cell h.ct U) V
  heap:=hh.Ar t2 ah (λd=> ?_) (λd=> ?_)
  tab:=am
  Gu:=rfl
  apart:=ah
  Hg:=λd=>d.elim aq V
  link:=λy k' n' => ?_
  LC:=λy=> ?_
  Gt :=λy J=> ?_
  perm:= ?_
  nodup:=h.nodup.erase x
  Cc:=Nat.le_trans d.Cc h.Cc
  Jw:=λz ae=> ?_
  ret:=λz ae I=> ?_ },t1.left.trans t2.right⟩
 . exact h.Oo d
 . exact Nat.lt_irrefl _ (h.Ns _ d)
 . obtain⟨n1,aa⟩:=ab.1 n'
   have J:=(ac n1).1 aa;obtain⟨aj,h1,I⟩:=h.link y k' n1;refine⟨aj,(As J).trans h1, ?_⟩;rw [List.getElem_set_ne (Ne.symm aa)];have al :((sl[k']'n1.lt).addr,Dp (aj.length+2))∈blocks L' :=by
    rcases List.mem_cons.1 (d.perm.mem_iff.1 I.Az) with O|O
    . have:=congrArg Prod.fst O
      simp only at this;exact absurd (I.h0.symm.trans (by rw [this];exact ag.h0)) J
    . exact O
   exact I.same al (d.same _ al)
 . rw [h.nodup.mem_erase_iff]
   constructor
   . rintro⟨J,hm⟩
     obtain⟨k',n'⟩:=(h.LC y).1 hm;exact⟨k',ab.2 ⟨n',(ac n').2 J⟩⟩
   . rintro⟨k',n'⟩
     obtain⟨n1,aa⟩:=ab.1 n';exact⟨(ac n1).1 aa,(h.LC y).2 ⟨k',n1⟩⟩
 . by_cases af :y=x
   . rw [af,AR]
   . refine(As af).trans (h.Gt y (λhm=>J ?_))
     exact(h.nodup.mem_erase_iff).2 ⟨af,hm⟩
 . have h1:((blocks L).map λb=>mem b.1).Perm (x::((blocks L').map λb=>mem' b.1)):=by
    have I:=d.perm.map (λb:Nat × Nat=>mem b.1);rw [List.map_cons] at I;have O:((blocks L').map λb=>mem' b.1)=(blocks L').map λb=>mem b.1:=(List.map_congr_left λb Z=>d.same b Z b.1 (Nat.le_refl _) (by have:=CY hh.lay Z;omega));rw [O];simp only [ag.h0] at I;exact I
   have au:=h.perm.trans h1;have aw:=au.erase x
   rwa [List.erase_cons_head] at aw
 . rcases List.mem_or_eq_of_mem_set ae with h1|rfl
   . exact h.Jw z h1
   . exact h.Jw (sl[k]'n.lt) (List.getElem_mem n.lt)
 . rcases List.mem_or_eq_of_mem_set ae with h1|rfl
   . exact h.ret z h1 I
   . simp only at I
     unfold DZ at I
     split at I
     . assumption
     . cases I
end
