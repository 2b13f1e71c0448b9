/- A part. -/
import Derived.Test.YtiopopoohglepaaGreatDoorVMs
import Derived.Laws.EntriesVeiled
set_option linter.all false
set_option maxRecDepth 100000
set_option maxHeartbeats 8000000
namespace Go.Proofs.YtiopopoohglepaaGreatDoor
open Go.Proofs.Tryz
open Go.RowKit Go.Shelf
variable {B D b b6 b7 er k t x:Nat}{R:Zr}{W w:World}{n:BN}{v1 v2 v3:Value}{ws:List Nat}
attribute [local go_sem] Oper.semAt_some Ea
theorem OA{F:Fence}{n:Nat}{P:Program}{c:Code}{Q:Exit->Act->World->Prop}{a:Act}(h:c.wpIn F n P (K3 Q) a w):c.wpIn F n P Q a w:=
 wpIn_mono h (λe a w hh=>by cases e<;>first|exact hh|exact hh.elim)
def Cj(W:World)(b6 b7:Nat)(v1 v2 v3 v4 e:Value):World:=((((W.setCell ⟨b6,0,none⟩ v1).setCell ⟨b6,1,none⟩ v2).setCell ⟨b6,2,none⟩ v3).setCell ⟨b6,3,none⟩ v4).setCell ⟨b7,0,none⟩ e
theorem DV{I J:TypeId}{u1 u2 u3 O U:Value}(V:An W b6 I [u1,u2,u3,O])(Z:An W b7 J [U])(d:b6≠b7)(v1 v2 v3 v4 e:Value):An (Cj W b6 b7 v1 v2 v3 v4 e) b6 I [v1,v2,v3,v4]/\An (Cj W b6 b7 v1 v2 v3 v4 e) b7 J [e]:=by
 have aa:=((((V.set 0 v1).set 1 v2).set 2 v3).set 3 v4);have a2:=((((Z.other (p:=⟨b6,0,none⟩) (Ne.symm d) v1).other (p:=⟨b6,1,none⟩) (Ne.symm d) v2).other (p:=⟨b6,2,none⟩) (Ne.symm d) v3).other (p:=⟨b6,3,none⟩) (Ne.symm d) v4);exact⟨aa.other (p:=⟨b7,0,none⟩) d e,a2.set 0 e⟩
theorem Gw{m:Nat}(h:Below m w W)(d:m<=b6)(I:m<=b7)(v1 v2 v3 v4 e:Value):Below m w (Cj W b6 b7 v1 v2 v3 v4 e):=
 ((((h.setCell (p:=⟨b6,0,none⟩) d v1).setCell (p:=⟨b6,1,none⟩) d v2).setCell (p:=⟨b6,2,none⟩) d v3).setCell (p:=⟨b6,3,none⟩) d v4).setCell (p:=⟨b7,0,none⟩) I e
def ES(ws:List Nat)(k:Nat):List Nat:=(List.range k).map λi=>ws.getD (2+2*i) 0
def EU(ws:List Nat)(k:Nat):List Nat:=(List.range k).map λi=>ws.getD (2+2*i+1) 0
def FM(t:Nat)(ws:List Nat)(k:Nat):List Nat:=(List.range k).map λi=>ws.getD (4*t+i) 0
theorem Jp(ws:List Nat)(k:Nat):(ES ws k).length=k:=by simp [ES]
theorem Jj(ws:List Nat)(k:Nat):(EU ws k).length=k:=by simp [EU]
theorem Jn(t:Nat)(ws:List Nat)(k:Nat):(FM t ws k).length=k:=by simp [FM]
theorem HA(l:List Nat)(y:Nat):AG (l++ [y])=AG l++ [.int .u64 y]:=by simp [AG]
theorem TX(h:2+2*k<ws.length):ES ws (k+1)=ES ws k++ [ws[2+2*k]]:=by
 unfold ES;rw [List.range_succ,List.map_append];simp [h]
theorem UC(h:2+2*k+1<ws.length):EU ws (k+1)=EU ws k++ [ws[2+2*k+1]]:=by
 unfold EU;rw [List.range_succ,List.map_append];simp [h]
theorem Tb(h:4*t+k<ws.length):FM t ws (k+1)=FM t ws k++ [ws[4*t+k]]:=by
 unfold FM;rw [List.range_succ,List.map_append];simp [h]
def Oa(w:World)(R:Zr)(t x:Nat)(e:Ending)(w' :World):Prop:=
 ∃v1 v2 v3,e= .returned (.tuple #[.agg #[v1,v2,v3, .int .u64 ((Ag R t x).size:Nat)], .int .i64 (Bm R t x:Nat)])/\AQ w' w.heap.size v1 (Ag R t x).keys v2 (Ag R t x).Ab v3 (Ag R t x).kids/\Below w.heap.size w w'
theorem K2{T:TypeId}{vs:List Value}(h:An W b T vs)(d:b≠D)(o:Obj):An (W.putObj D o) b T vs:=h.block (World.putObj_heap_other d)
theorem YC{sz lim kid0:Nat}(h0:ws.getD 0 0=k)(h1:ws.getD 1 0=sz)(d:ws.getD (4*t) 0=kid0)(I:lim=if kid0=0 then 0 else k+1):(⟨ES ws k,EU ws k,FM t ws lim,sz⟩:BN)=BN.Q6 t ws:=by
 unfold BN.Q6 ES EU FM;rw [h0,h1,d,I]
 split<;>simp
theorem Yv(I:ws.length=6*t)(xs:List {z:Nat // z<(n.wd t).length})(J:xs.map (λz=>z.1)=List.range (n.wd t).length)(O: ∀z∈xs,ws.getD z.1 0=(n.wd t)[z.1]'z.2):n.wd t=ws:=by
 refine List.ext_getElem (by rw [BN.B6,I]) (λi h1 U=> ?_);have hm:i∈xs.map (λz=>z.1):=by rw [J];exact List.mem_range.2 h1
 obtain⟨z,V,rfl⟩:=List.mem_map.1 hm;have d:=O z V;rw [List.getD_eq_getElem?_getD,List.getElem?_eq_getElem U] at d;exact d.symm
theorem JG(d:b≠b6)(I:b≠b7)(v1 v2 v3 v4 e:Value):(Cj W b6 b7 v1 v2 v3 v4 e).heap[b]? =W.heap[b]? :=by
 unfold Cj;rw [Below.heap_setCell _ ⟨b7,0,none⟩ _ b I,Below.heap_setCell _ ⟨b6,3,none⟩ _ b d,Below.heap_setCell _ ⟨b6,2,none⟩ _ b d,Below.heap_setCell _ ⟨b6,1,none⟩ _ b d,Below.heap_setCell _ ⟨b6,0,none⟩ _ b d]
theorem NA(W:World)(N b6 b7:Nat)(v1 v2 v3 v4 e:Value):KeepsFrom N W (Cj W b6 b7 v1 v2 v3 v4 e):=
 (((((KeepsOthers.setCell _ _ _).trans (KeepsOthers.setCell _ _ _)).trans (KeepsOthers.setCell _ _ _)).trans (KeepsOthers.setCell _ _ _)).trans (KeepsOthers.setCell _ _ _)).from _
theorem AQ.lower{B':Nat}{l1 l2 l3:List Nat}(h:AQ W B v1 l1 v2 l2 v3 l3)(J:B' <=B):AQ W B' v1 l1 v2 l2 v3 l3:=
 ⟨⟨h.r1.1,h.r1.2.imp id (λ⟨g,cap,cur,h1,d,I⟩=>⟨g,cap,cur,h1,Nat.le_trans J d,I⟩)⟩,⟨h.r2.1,h.r2.2.imp id (λ⟨g,cap,cur,h1,d,I⟩=>⟨g,cap,cur,h1,Nat.le_trans J d,I⟩)⟩,⟨h.r3.1,h.r3.2.imp id (λ⟨g,cap,cur,h1,d,I⟩=>⟨g,cap,cur,h1,Nat.le_trans J d,I⟩)⟩,h.a12,h.Oq,h.a23⟩
theorem T6{w4:World}{o:Obj}(J:Ag R t x=n)(O:Bm R t x=0)(U:AQ w4 B v1 n.keys v2 n.Ab v3 n.kids)(V:w.heap.size<=B)(Z:w.heap.size<=b6)(aa:w.heap.size<=b7)(ac:b6<B)(ae:b7<B)(d:Below w.heap.size w w4)(I:Below w4.heap.size w4 W)(af:w4.heap.size<=D)(ag:D<W.heap.size):
 Oa w R t x (.returned (.tuple #[.agg #[v1,v2,v3, .int .u64 n.size], .int .i64 0])) ((Cj W b6 b7 v1 v2 v3 (.int .u64 n.size) (.int .i64 0)).putObj D o):=by
 unfold Oa;rw [J,O];have hs:=Gw (d.trans (I.mono d.size)) Z aa v1 v2 v3 (.int .u64 n.size) (.int .i64 0);have ah:=d.size;refine⟨v1,v2,v3,rfl, ?_,hs.grown (grownBy_putObj' _ D o) hs.size (λk e=>by cases e;omega)⟩;refine(U.keep λb ai ab=> ?_).lower V;exact(World.putObj_heap_other (show b≠D by omega)).trans ((JG (by omega) (by omega) _ _ _ _ _).trans (I.block b ab))
theorem Wg(d:Ag R t x=BN.zero)(I:Bm R t x=er)(J:Below w.heap.size w W):
 Oa w R t x (.returned (.tuple #[.agg #[.slice none 0 0, .slice none 0 0, .slice none 0 0, .int .u64 0], .int .i64 er])) W:=by
 unfold Oa;rw [d,I];exact⟨_,_,_,rfl,AQ.nil _ _,J⟩
theorem H0(d:Ag R t x=BN.zero)(I:Bm R t x=er)(J:Below w.heap.size w W)(O:w.heap.size<=b6)(U:w.heap.size<=b7):
 Oa w R t x (.returned (.tuple #[.agg #[.slice none 0 0, .slice none 0 0, .slice none 0 0, .int .u64 0], .int .i64 er])) (Cj W b6 b7 (.slice none 0 0) (.slice none 0 0) (.slice none 0 0) (.int .u64 0) (.int .i64 er)):=by
 unfold Oa;rw [d,I];exact⟨_,_,_,rfl,AQ.nil _ _,Gw J O U _ _ _ _ _⟩
section
variable {w':World} {s N:Nat}  {nn:Nat}
def Yad{P}(h:P:=by
 rintro l pre ⟨z,aa⟩ a' W ai ⟨r,al⟩ ⟨I,O⟩ rfl hlen;dsimp only;have U :z<ws.length:=by rw [aL,<-BN.B6 t n];exact aa
 have ab:=aC.trans (I.mono aC.size);have V:=CallsIn.inRound l ((callsIn_wide (n:=6)).2 (UX (bh.below ab) aj U ((u3.below I).at' (i:=0) rfl) ((a6.below I).at' (i:=0) rfl)));have am:=(a5.below I).at' (i:=0) rfl;obtain⟨y,Z⟩: ∃y,ws[z]=y:=⟨_,rfl⟩;rw [Z] at V;have ac:=Zh V;clear V;generalize hd:(n.wd t)[z]=d;have ag:=Zh Z;have ah:=Zh hd;clear Z hd;by_cases aZ:y=d
 . have bE:((y:Int) !=(d:Int))=false:=by simp [aZ]
   have ae:Hid (KeepsFrom w4.heap.size W W/\B0 b bx W W/\Below w4.heap.size w4 W/\ ∀J ∈pre++ [(⟨z,aa⟩:{z:Nat // z<(n.wd t).length})],ws.getD J.1 0=(n.wd t)[J.1]'J.2):=Zh ⟨KeepsFrom.refl _ _,B0.refl _ _ _,I,λJ hm=>by
    rcases List.mem_append.1 hm with af|af
    . exact O J af
    . obtain rfl:=List.mem_singleton.1 af
      simp only;rw [ah.out,List.getD_eq_getElem?_getD,List.getElem?_eq_getElem U,ag.out];exact aZ⟩
   clear O aZ;gi_wp2_with fail;refine ac.mono ?_;rintro e aI ⟨rfl,rfl⟩;gi_wp2;exact ae.out
 . have bE:((y:Int) !=(d:Int))=true:=by simp;omega
   have aw: ¬BN.Kg t ws:=λh=>by
    have e:n.wd t=ws:=(by rw [aD.out];exact h.2.2.2);exact aZ (by rw [<-ag.out,<-ah.out];exact List.getElem_of_eq e.symm U)
   have ae:Hid (KeepsFrom w4.heap.size W (Cj W b6 b7 (.slice none 0 0) (.slice none 0 0) (.slice none 0 0) (.int .u64 0) (.int .i64 ((8:Nat):Int)))/\Code.ret= .ret/\(An (Cj W b6 b7 (.slice none 0 0) (.slice none 0 0) (.slice none 0 0) (.int .u64 0) (.int .i64 ((8:Nat):Int))) b6 100 [.slice none 0 0, .slice none 0 0, .slice none 0 0, .int .u64 0]/\An (Cj W b6 b7 (.slice none 0 0) (.slice none 0 0) (.slice none 0 0) (.int .u64 0) (.int .i64 ((8:Nat):Int))) b7 25 [.int .i64 ((8:Nat):Int)])/\Below w.heap.size w (Cj W b6 b7 (.slice none 0 0) (.slice none 0 0) (.slice none 0 0) (.int .u64 0) (.int .i64 ((8:Nat):Int)))/\ ¬BN.Kg t ws):=Zh ⟨NA _ _ _ _ _ _ _ _ _,rfl,DV (aV.below I) (a0.below I) aR _ _ _ _ _,Gw ab g6 g7 _ _ _ _ _,aw⟩;obtain⟨bv,bD,bz,br⟩:=C5 (aV.below I);have bB:=(a0.below I).at' (i:=0) rfl;have bC:=(aV.below I).free 0;have bu:=(aV.below I).free 1;have bA:=(aV.below I).free 2;have bw:=(aV.below I).free 3;have bs:=(a0.below I).free 0;unfold Cj at ae;clear O aZ aw;gi_wp2_with fail;refine ac.mono ?_;rintro e aI ⟨rfl,rfl⟩;gi_wp2;exact⟨ae.1,rfl,ae.2.2⟩):=h
def Yae{P}(h:P:=by
 rintro D' xs W al aa ⟨d,ab⟩ ac;obtain⟨I,c2,rfl⟩: ∃A c,v2= .slice A k c:=by have af:=Ae aX.r2;rw [Jj] at af;exact af
 obtain⟨J,c3,rfl⟩: ∃A c,v3= .slice A j c:=by have af:=Ae aX.r3;rw [Jn] at af;exact af
 have he:n.wd t=ws:=Yv aL xs aa ab;have O:BN.Kg t ws:=⟨aL,by rw [a7.out];omega,by rw [<-aD.out];exact bi.out,by rw [<-aD.out];exact he⟩;have ag:Ag R t x=n:=by unfold Ag;rw [aj];exact(if_pos O).trans aD.symm
 have ah:Bm R t x=0:=by unfold Bm;rw [aj];exact if_pos O
 have am:D' <W.heap.size:=(Array.getElem?_eq_some_iff.1 ac).1;have ai:=aX.out;have ae:=T6 (w:=w) (w4:=w4) (W:=W) (b6:=b6) (b7:=b7) (D:=D') (o:= .deferred none) ag ah (B:=b13+1) (v1:= .slice ax k c1) (v2:= .slice I k c2) (v3:= .slice J j c3) (by rw [aM.out];exact ai) (by omega) g6 g7 a8 a9 aC d al am;rw [show n.size=sz by rw [aM.out]] at ae;have U:=DV (aV.below d) (a0.below d) aR (.slice ax k c1) (.slice I k c2) (.slice J j c3) (.int .u64 (sz:Nat)) (.int .i64 0);have V:=And.intro (K2 U.1 (show b6≠D' by omega) (.deferred none)) (K2 U.2 (show b7≠D' by omega) (.deferred none));have Z:=(JG (W:=W) (b6:=b6) (b7:=b7) (b:=D') (by omega) (by omega) (.slice ax k c1) (.slice I k c2) (.slice J j c3) (.int .u64 (sz:Nat)) (.int .i64 0)).trans ac;unfold Cj at ae V Z;obtain⟨au,aw,az,aA⟩:=C5 (ba.below d);obtain⟨bv,bD,bz,br⟩:=C5 (aV.below d);have bB:=(a0.below d).at' (i:=0) rfl;have bC:=(aV.below d).free 0;have bu:=(aV.below d).free 1;have bA:=(aV.below d).free 2;have bw:=(aV.below d).free 3;have bs:=(a0.below d).free 0;have ay:=Zh ae;have ar:=Zh V;have an:=Zh Z;clear ae U V Z ab aa O ag ah he ai;gi_wp2;refine⟨by simp, .inl ⟨_,_,rfl,run_takeDeferred an, ?_⟩⟩;refine⟨.tuple #[.agg #[.slice ax k c1, .slice I k c2, .slice J j c3, .int .u64 (sz:Nat)], .int .i64 0], ?_,ay⟩;obtain⟨ao,r1,r2,r3⟩:=C5 ar.1;have aq:=ar.2.at' (i:=0) rfl;simp [results,f68,go_sem,ao,r1,r2,r3,aq]):=h
def Yao{P}(h:P:=by
 rw [decide_eq_false aB];have aw: ¬BN.Kg t ws:=λh=>aB (by rw [aD.out];exact h.2.2.1)
 obtain⟨O,U,V,Z⟩:=C5 aU.out;have aa:=aW.at' (i:=0) rfl;have ab:=aU.free 0;have af:=aU.free 1;have ag:=aU.free 2;have ah:=aU.free 3;have ai:=aW.free 0;have ae:=H0 (w:=w) (W:=bp) (R:=R) (t:=t) (x:=x) (b6:=b6) (b7:=b7) (er:=8) (by unfold Ag;rw [aj];exact if_neg aw) (by unfold Bm;rw [aj];exact if_neg aw) ac g6 g7;have d:=DV aU aW aR (.slice none 0 0) (.slice none 0 0) (.slice none 0 0) (.int .u64 0) (.int .i64 ((8:Nat):Int));unfold Cj at ae d;have ay:=Zh ae;have ar:=Zh d;clear ae d aw aB;gi_wp2;refine⟨.tuple #[.agg #[.slice none 0 0, .slice none 0 0, .slice none 0 0, .int .u64 0], .int .i64 8], ?_,ay⟩;obtain⟨I,r1,r2,r3⟩:=C5 ar.1;have J:=ar.2.at' (i:=0) rfl;rw [show(((8:Nat):Int))=8 from rfl] at I r1 r2 r3 J;simp [results,f68,go_sem,I,r1,r2,r3,J]):=h
def Yas{P}(h:P:=by
 rintro D' Z pre W aa U ⟨rfl,d,J,aw⟩ I;have ar:=Zh (And.intro (K2 d.1 (show b6≠D' by omega) (.deferred none)) (K2 d.2 (show b7≠D' by omega) (.deferred none)));have ab:D' <W.heap.size:=(Array.getElem?_eq_some_iff.1 I).1;have ay:=Zh (Wg (w:=w) (R:=R) (t:=t) (x:=x) (er:=8) (by unfold Ag;rw [aj];exact if_neg aw) (by unfold Bm;rw [aj];exact if_neg aw) (J.trans (belowK_b (w:=w4) aC.size W D' _ (.deferred none) (by omega) I rfl rfl)));clear d J aw U;gi_wp2;refine⟨by simp, .inl ⟨_,_,rfl,run_takeDeferred I, ?_⟩⟩;refine⟨.tuple #[.agg #[.slice none 0 0, .slice none 0 0, .slice none 0 0, .int .u64 0], .int .i64 8], ?_,ay⟩;obtain⟨V,r1,r2,r3⟩:=C5 ar.1;have O:=ar.2.at' (i:=0) rfl;rw [show(((8:Nat):Int))=8 from rfl] at O;simp [results,f68,go_sem,V,r1,r2,r3,O]):=h
def Yat{P}(h:P:=by
 gi_wp2;refine⟨.tuple #[.agg #[.slice none 0 0, .slice none 0 0, .slice none 0 0, .int .u64 0], .int .i64 8], ?_,ay⟩;obtain⟨d,r1,r2,r3⟩:=C5 ar.1;have I:=ar.2.at' (i:=0) rfl;rw [show(((8:Nat):Int))=8 from rfl] at d r1 r2 r3 I;simp [results,f68,go_sem,d,r1,r2,r3,I]):=h
def Yhh{P}(h:P:=by
 have aJ:=Zh (bc.below ag);have aK:=Zh (bd.below ag);exact And.intro aJ aK):=h
def VQ{P}(h:P:=by
 have d:=Zh (ao.below V);have I:=Zh (aA.below V);exact And.intro d I):=h
def Yhj{P}(h:P:=by
 have d:=Zh (ao.below ah);have a3:=Zh (aA.below ah);exact And.intro d a3):=h
def Xx{P}(h:P:=by
 have aV:=Zh (aU.below I);have a0:=Zh (aW.below I);exact And.intro aV a0):=h
def Yhq{P}(h:P:=by
 have ag:Below O.heap.size O am:=by rw [aa];exact(Below.refl _ _).alloc (Nat.le_refl _) _
 exact ag):=h
def Yhr{P}(h:P:=by
 have d:Below am.heap.size am aI:=by rw [az];exact(Below.refl _ _).alloc (Nat.le_refl _) _
 exact d):=h
def Wb{P}(h:P:=by
 have U:Below am.heap.size am wr:=by rw [<-bb.out];exact an.out
 have d:=aF.trans (U.mono aF.size);exact And.intro U d):=h
def Vh{P}(h:P:=by
 have d:=Zh (And.intro aH (And.intro aQ (And.intro aS aT)));exact d):=h
def Yji{P}(h:P:=by
 have aD:Hid (n=BN.Q6 t ws):=Zh (aN.trans (YC (kid0:=kid0) n0 (by rw [List.getD_eq_getElem?_getD,List.getElem?_eq_getElem (show 1<ws.length by omega),bF.out];rfl) (by rw [List.getD_eq_getElem?_getD,List.getElem?_eq_getElem (show 4*t<ws.length by omega),bj.out];rfl) be));have al:=aA.Mz (F:=λ_=>False) (λ_ h=>h.elim) sz (by rw [Jp];omega) (by rw [Jj];omega) (by rw [Jn];omega);exact And.intro aD al):=h
def Yjl{P}(h:P:=by
 have al:=a3.Mz (F:=λ_=>False) (λ_ h=>h.elim) sz (by rw [Jp];omega) (by rw [Jj];omega) (by rw [Jn];omega);exact al):=h
def Ykx{P}(h:P:=by
 have d:=a1.trans (ah.mono a1.size);have z3:=Zh ((aJ.below aG).below ah);have z5:=Zh ((aK.below aG).below ah);have aU:=Zh ((bm.below aG).below ah);have aW:=Zh ((bk.below aG).below ah);have z12:=Zh ((aE.below aG).below ah);exact And.intro d (And.intro z3 (And.intro z5 (And.intro aU (And.intro aW z12))))):=h
def Ymt{P}(h:P:=by
 have d:=λX:BL wr=>X.cell ((aE.below U).at' (i:=0) rfl)
 exact d):=h
def Ymu{P}(h:P:=by
 have m6:=aV.lt;have m7:=a0.lt;have a8:b6<b13+1:=by have:=bG;have h1:=bm.lt;rw [bb.out];omega
 have a9:b7<b13+1:=by have h1:=bk.lt;rw [bb.out];omega
 exact And.intro m6 (And.intro m7 (And.intro a8 a9))):=h
def Ymx{P}(h:P:=by
 have d:=Zh (Np a2 bf bq (by rw [BN.B6];omega));have J:bx<w4.heap.size:=Al a2;have u3:=Zh (z3.below I);have a6:=Zh (z5.below I);exact And.intro d (And.intro J (And.intro u3 a6))):=h
def Yne{P}(h:P:=by
 have d:=aO.out wr bg (4*t) (by omega) ((aJ.below aP).at' (i:=0) rfl) ((aK.below aP).at' (i:=0) rfl);exact d):=h
def Ynn{P}(h:P:=by
 have n0:ws.getD 0 0=k:=by rw [List.getD_eq_getElem?_getD,List.getElem?_eq_getElem a4,bo.out];rfl
 exact n0):=h
def Yoe{P}(h:P:=by
 have d:=Zh (an.trans (V.mono (by omega)));exact d):=h
def Yoi{P}(h:P:=by
 have d:wr.heap.size<=ai.heap.size:=V.size;exact d):=h
def Yov{P}(h:P:=by
 have au:=Zh ((callsIn_wide (n:=8)).2 (NK al t ⟨t1,t2⟩ bi));exact au):=h
def Ypb{P}(h:P:=by
 have d:IntKind.i64.wrap (m:Int)=(m:Int):=by rw [IntKind.wrap_i64];omega
 exact d):=h
def Ypc{P}(h:P:=by
 have a7:=Zh n0;have aM:=Zh aN;have d:=Zh ((callsIn_wide (n:=8)).2 (JO al t ⟨t1,t2⟩));exact And.intro a7 (And.intro aM d)):=h
def Yph{P}(h:P:=by
 have V:Below wr.heap.size wr ai:=by rw [<-au];exact Ac wr
 exact V):=h
def Yqy{P}(h:P:=by
 have a5:=Zh (z12.below I);have ba:=Zh (aY.below I);have aX:=Zh (a3.below I);have aC:=DR;exact And.intro a5 (And.intro ba (And.intro aX aC))):=h
theorem Lj(h:Rd N w s R nn)(t:Nat)(cQ:BN.A1 t)(x:Nat)(hx:x<18446744073709551616):
 Calls prog 68 #[.pointer (some ⟨s,0,none⟩), .int .i64 t, .int .u64 x] w (Oa w R t x):=by
 refine(callsIn_wide (n:=9)).1 ?_;have cY:=OM;have t1:=cQ.1;have t2:=cQ.2;have bh:=Zh h;have aq:=λW (bM:Below w.heap.size w W)=>(callsIn_wide (n:=8)).2 (HF (h.below bM) 0 (by decide))
 obtain⟨cc,lb,cd,dy⟩:=E2 R 0;rw [cd] at aq;obtain⟨_,df⟩:=XV;have dg:=Zh (λW=>(callsIn_wide (n:=8)).2 (Ly cQ W));have cw:=Zh (λW (bM:Below w.heap.size w W)=>(callsIn_wide (n:=8)).2 (HF (h.below bM) x hx));obtain⟨O,ce⟩:=Zx ((((w.alloc (Obj.cells #[.pointer (some ⟨s,0,none⟩)] 24)).alloc (Obj.cells #[.int .u64 x] 23)).alloc (Obj.cells #[.slice none 0 0, .slice none 0 0, .slice none 0 0, .int .u64 0] 100)).alloc (Obj.cells #[.int .i64 0] 25));have dh:Below w.heap.size w O:=by rw [ce];exact((((Below.refl _ w).alloc (Nat.le_refl _) _).alloc (by simp) _).alloc (by simp;omega) _).alloc (by simp;omega) _
 have cB:O.heap.size=w.heap.size+4:=by rw [ce];simp
 have cR:An O w.heap.size 24 [.pointer (some ⟨s,0,none⟩)]:=by rw [ce];exact(((An.new w 24 [.pointer (some ⟨s,0,none⟩)]).alloc _).alloc _).alloc _
 have cT:An O (w.heap.size+1) 23 [.int .u64 x]:=by
  rw [ce];have:=((An.new (w.alloc (Obj.cells #[.pointer (some ⟨s,0,none⟩)] 24)) 23 [.int .u64 x]).alloc (Obj.cells #[.slice none 0 0, .slice none 0 0, .slice none 0 0, .int .u64 0] 100)).alloc (Obj.cells #[.int .i64 0] 25)
  rwa [show(w.alloc (Obj.cells #[.pointer (some ⟨s,0,none⟩)] 24)).heap.size=w.heap.size+1 by simp] at this
 have x6:An O (w.heap.size+1+1) 100 [.slice none 0 0, .slice none 0 0, .slice none 0 0, .int .u64 0]:=by
  rw [ce];have:=((An.new ((w.alloc (Obj.cells #[.pointer (some ⟨s,0,none⟩)] 24)).alloc (Obj.cells #[.int .u64 x] 23)) 100 [.slice none 0 0, .slice none 0 0, .slice none 0 0, .int .u64 0])).alloc (Obj.cells #[.int .i64 0] 25)
  rwa [show((w.alloc (Obj.cells #[.pointer (some ⟨s,0,none⟩)] 24)).alloc (Obj.cells #[.int .u64 x] 23)).heap.size=w.heap.size+1+1 by simp] at this
 have x7:An O (w.heap.size+1+1+1) 25 [.int .i64 0]:=by
  rw [ce];have:=(An.new (((w.alloc (Obj.cells #[.pointer (some ⟨s,0,none⟩)] 24)).alloc (Obj.cells #[.int .u64 x] 23)).alloc (Obj.cells #[.slice none 0 0, .slice none 0 0, .slice none 0 0, .int .u64 0] 100)) 25 [.int .i64 0])
  rwa [show(((w.alloc (Obj.cells #[.pointer (some ⟨s,0,none⟩)] 24)).alloc (Obj.cells #[.int .u64 x] 23)).alloc (Obj.cells #[.slice none 0 0, .slice none 0 0, .slice none 0 0, .int .u64 0] 100)).heap.size=w.heap.size+1+1+1 by simp] at this
 obtain⟨bJ,aH⟩:=Zx w.heap.size;obtain⟨bK,aQ⟩:=Zx (w.heap.size+1);obtain⟨b6,aS⟩:=Zx (w.heap.size+1+1);obtain⟨b7,aT⟩:=Zx (w.heap.size+1+1+1);rw [<-aT] at x7;rw [<-aS] at x6;rw [<-aQ] at cT;rw [<-aH] at cR;have g6:w.heap.size<=b6:=by omega
 have g7:w.heap.size<=b7:=by omega
 have aR:b6≠b7:=by omega
 have cC:=Vh;have di:=Zh ce;have cf:=Zh dh;have b5:=Zh x6;have cx:=Zh x7;have bc:=Zh cR;have bd:=Zh cT;have c3:=cR.at' (i:=0) rfl;have c5:=cT.at' (i:=0) rfl;obtain⟨dz,dA,dB,dC⟩:=C5 x6;have c7:=x7.at' (i:=0) rfl;have f60:=x6.free 0;have f61:=x6.free 1;have f62:=x6.free 2;have f63:=x6.free 3;have f7:=x7.free 0;clear h aq dy cd dh ce cQ cR cT x6 x7 aH aQ aS aT cB;refine callsIn_of_wp_marks func68 rfl trivial ?_ rfl;refine OA ?_;simp only [ntmps68,List.size_toArray,List.length_cons,List.length_nil,Nat.reduceAdd,Nat.reduceSub,Array.replicate_succ,Array.replicate_zero,List.push_toArray,List.append_toArray,List.nil_append,List.cons_append];gi_wp2_with fail;rw [<-di.out,<-cC.2.2.2,<-cC.2.2.1,<-cC.2.1,<-cC.1];refine(df _ cf).mono ?_;rintro e w1 ⟨rfl,rfl⟩;gi_wp2_with fail;refine(dg _).mono ?_;rintro e w1 ⟨rfl,rfl⟩;clear df dg cC di
 cases aj:R x with
 |none=>
  rw [J3 aj] at cw;have ae:=H0 (w:=w) (W:=O) (R:=R) (t:=t) (x:=x) (b6:=b6) (b7:=b7) (er:=7) (by unfold Ag;rw [aj]) (by unfold Bm;rw [aj]) cf g6 g7;have bU:=DV b5 cx aR (.slice none 0 0) (.slice none 0 0) (.slice none 0 0) (.int .u64 0) (.int .i64 ((7:Nat):Int));unfold Cj at ae bU;have ay:=Zh ae;have ar:=Zh bU;clear ae bU;gi_wp2_with fail;refine(cw _ cf).mono ?_;rintro e w3 ⟨rfl,rfl⟩;gi_wp2;refine⟨.tuple #[.agg #[.slice none 0 0, .slice none 0 0, .slice none 0 0, .int .u64 0], .int .i64 7], ?_,ay⟩;obtain⟨dj,r1,r2,r3⟩:=C5 ar.1;have dk:=ar.2.at' (i:=0) rfl;rw [show(((7:Nat):Int))=7 from rfl] at dj r1 r2 r3 dk;simp [results,f68,go_sem,dj,r1,r2,r3,dk]
 |some ws=>
  rw [Ic aj] at cw;have wt:=Yoo;by_cases aL:ws.length=6*t
  . have dl:((ws.length:Int) !=6*(t:Int))=false:=by simp;omega
    obtain⟨-,-,hu⟩:=bh.u64 aj;have aO:=Zh (λ(W:World) (bM:Below w.heap.size w W) (i:Nat) (hi:i<ws.length) (q1:W.cell? ⟨bJ,0,none⟩=some (.pointer (some ⟨s,0,none⟩))) (dD:W.cell? ⟨bK,0,none⟩=some (.int .u64 x))=>(callsIn_wide (n:=8)).2 (UX (bh.below bM) aj hi q1 dD));have cZ:=Zh hu;clear hu;gi_wp2_with fail;refine(cw _ cf).mono ?_;rintro e w3 ⟨rfl,rfl⟩;gi_wp2_with fail;obtain⟨am,aa⟩:=Zx (O.alloc (Obj.cells #[.func (.func 120) #[] #[.pointer (some ⟨bJ,0,none⟩), .pointer (some ⟨bK,0,none⟩)]] 194));obtain⟨c8,b8⟩:=Zx O.heap.size;have Eo:An am c8 194 [.func (.func 120) #[] #[.pointer (some ⟨bJ,0,none⟩), .pointer (some ⟨bK,0,none⟩)]]:=(by rw [aa,b8];exact An.new O 194 [.func (.func 120) #[] #[.pointer (some ⟨bJ,0,none⟩), .pointer (some ⟨bK,0,none⟩)]]);have ag:=Yhq;rw [<-aa,<-b8];have cU:=cf.trans (ag.mono cf.size);have cD:=(bc.below ag).at' (i:=0) rfl;have cF:=(bd.below ag).at' (i:=0) rfl;have dY:=Eo.at' (i:=0) rfl;obtain⟨dE,dF,dG,dH⟩:=C5 (b5.below ag);have dI:=(cx.below ag).at' (i:=0) rfl;have dJ:=(b5.below ag).free 0;have dK:=(b5.below ag).free 1;have dL:=(b5.below ag).free 2;have dM:=(b5.below ag).free 3;have dN:=(cx.below ag).free 0;have dZ:=Eo.lt;have d0:=(b5.below ag).lt;have d2:=(cx.below ag).lt;have aF:=Zh cU;obtain⟨aJ,aK⟩:=Yhh;have bm:=Zh (b5.below ag);have bk:=Zh (cx.below ag);have aE:=Zh Eo;have a4:0<ws.length:=(by omega);obtain⟨m,hm⟩: ∃m,ws[0]=m:=⟨_,rfl⟩;obtain⟨sz,cV⟩: ∃sz,ws[1]'(by omega)=sz:=⟨_,rfl⟩;have dO:=cZ.out 0 a4;have dP:=cZ.out 1 (by omega);rw [hm] at dO;rw [cV] at dP;have b9:=aO.out am cU 0 a4 cD cF;have cW:=aO.out am cU 1 (by omega) cD cF;rw [hm] at b9;rw [cV] at cW;rw [show((0:Nat):Int)=0 from rfl] at b9;rw [show((1:Nat):Int)=1 from rfl] at cW;have dm:=Zh b9;have dn:=Zh cW;have bo:=Zh hm;have bF:=Zh cV;have d3:IntKind.i64.wrap (2*(t:Int))=2*(t:Int):=(by rw [IntKind.wrap_i64];omega);have d4:IntKind.i64.wrap (2*(t:Int)-1)=2*(t:Int)-1:=(by rw [IntKind.wrap_i64];omega);have d5:IntKind.u64.wrap (2*(t:Int)-1)=2*(t:Int)-1:=(by rw [IntKind.wrap_u64];omega);clear c3 c5 dz dA dB dC c7 f60 f61 f62 f63 f7 aa b8 Eo ag cU b9 cW hm cV cw;refine dm.mono ?_;rintro e w4 ⟨rfl,rfl⟩;by_cases d6:2*t-1<m
    . have dQ:decide (2*(t:Int)-1<(m:Int))=true:=decide_eq_true (by omega)
      have aw: ¬BN.Kg t ws:=(λh=>by have af:=h.2.1;rw [List.getD_eq_getElem?_getD,List.getElem?_eq_getElem a4,bo.out] at af;simp at af;omega);have ae:=H0 (w:=w) (W:=am) (R:=R) (t:=t) (x:=x) (b6:=b6) (b7:=b7) (er:=8) (by unfold Ag;rw [aj];exact if_neg aw) (by unfold Bm;rw [aj];exact if_neg aw) aF g6 g7;have bU:=DV bm bk aR (.slice none 0 0) (.slice none 0 0) (.slice none 0 0) (.int .u64 0) (.int .i64 ((8:Nat):Int));unfold Cj at ae bU;have ay:=Zh ae;have ar:=Zh bU;clear ae bU;exact Yat
    . have dQ:decide (2*(t:Int)-1<(m:Int))=false:=decide_eq_false (by omega)
      clear dJ dK dL dM dN dE dF dG dH dI;gi_wp2_with fail;refine dn.mono ?_;rintro e w4 ⟨rfl,rfl⟩;gi_wp2_with fail;obtain⟨aI,az⟩:=Zx (am.alloc (Obj.cells #[.slice none 0 0, .slice none 0 0, .slice none 0 0, .int .u64 (sz:Nat)] 100));obtain⟨b13,cy⟩:=Zx am.heap.size;have EH:An aI b13 100 [.slice none 0 0, .slice none 0 0, .slice none 0 0, .int .u64 (sz:Nat)]:=(by rw [az,cy];exact An.new am 100 [.slice none 0 0, .slice none 0 0, .slice none 0 0, .int .u64 (sz:Nat)]);have b8:=Yhr;have cG:aI.heap.size=b13+1:=(by rw [az,cy];simp);rw [<-az,<-cy];have dp:=aF.trans (b8.mono aF.size);have b9:=aO.out aI dp 0 a4 ((b8.cell (p:=⟨bJ,0,none⟩) (Al cD)).trans cD) ((b8.cell (p:=⟨bK,0,none⟩) (Al cF)).trans cF);rw [bo.out] at b9;rw [show((0:Nat):Int)=0 from rfl] at b9;have dR:=Zh b9;have dq:=Zh EH;have bb:=Zh cy;have d7:=Ypb;have bG:w.heap.size<=b13:=(by have:=aF.size;omega);have dr:Hid (AQ aI (b13+1) (.slice none 0 0) (ES ws 0) (.slice none 0 0) (EU ws 0) (.slice none 0 0) []):=Zh (AQ.nil _ _);have ds:Hid (Below b13 am aI):=Zh (by rw [cy];exact b8);clear cD cF az cy EH b8 dp b9 dm dn cG;refine dR.mono ?_;rintro e w4 ⟨rfl,rfl⟩;obtain⟨i0,hi,cB,c9,cG⟩:=info_parts Tryz.Qq;gi_wp2_with fail
      gi_loopw [63] (λcv wr=> ∃(k:Nat) (v1 v2:Value),k<=m/\cv= .int .i64 k/\Hid (An wr b13 100 [v1,v2, .slice none 0 0, .int .u64 (sz:Nat)])/\Hid (AQ wr (b13+1) v1 (ES ws k) v2 (EU ws k) (.slice none 0 0) [])/\Hid (Below b13 am wr)) (λcv _=>m-(intOf cv).toNat)
      case atStart=>exact⟨0,_,_,by omega,rfl,dq,dr,ds⟩
      case round=>
       obtain⟨k,v1,v2,d8,rfl,ao,aA,an⟩:=hrel;clear dr ds dq;by_cases dt:k<m
       . skip
         obtain⟨_,_,w3⟩:=Ykj;obtain⟨U,bN⟩:=Wb;have cg:=(λX:BL wr=>X.cell (ao.at' (i:=0) rfl));have ci:=Ymt;obtain⟨y,bV⟩: ∃y,ws[2+2*k]'(by omega)=y:=⟨_,rfl⟩;have bP:=(λW (bM:Below wr.heap.size wr W)=>aO W (bN.trans (bM.mono bN.size)) (2+2*k) (by omega) ((bM.cell (p:=⟨bJ,0,none⟩) ((aJ.below U).lt)).trans ((aJ.below U).at' (i:=0) rfl)) ((bM.cell (p:=⟨bK,0,none⟩) ((aK.below U).lt)).trans ((aK.below U).at' (i:=0) rfl)));rw [bV] at bP;push_cast at bP;have cj:=Zh bP;have cd:b13<wr.heap.size:=ao.lt;have ck:Hid (ES ws (k+1)=ES ws k++ [y]):=Zh (by rw [<-bV];exact TX (by omega));have bW:(ES ws k).length=k:=Jp _ _;clear bV U bN bP;gi_wp2;refine Dh (λw' => ∃X:BL wr,w' =X.W) 6 2 8 cY (by kernel_rfl) (by kernel_rfl) (by kernel_rfl) (by kernel_rfl) (by decide) rfl (by kernel_rfl) ⟨⟨_,Ac wr⟩,rfl⟩ (λ_ _ _ _ h=>h) ?_;simp only [List.take_succ_cons,List.take_zero,List.drop_succ_cons,List.drop_zero];refine AS (.pointer (some ⟨b13,0,none⟩)) rfl (by rintro _ ⟨X,rfl⟩;go_simp) (λ_=>rfl) ?_;go_simp;refine AS (v1) rfl (by rintro _ ⟨X,rfl⟩;have:=cg X;go_simp) (λ_=>rfl) ?_;go_simp;refine AS (.func (.func 120) #[] #[.pointer (some ⟨bJ,0,none⟩), .pointer (some ⟨bK,0,none⟩)]) rfl (by rintro _ ⟨X,rfl⟩;have:=ci X;go_simp) (λ_=>rfl) ?_;go_simp;refine AS (.int .i64 (k:Nat)) rfl (by rintro _ ⟨X,rfl⟩;go_simp) (λ_=>rfl) ?_;go_simp;refine AS (.int .i64 (2*(k:Int))) rfl (by rintro _ ⟨X,rfl⟩;go_simp) (λ_=>rfl) ?_;go_simp;refine AS (.int .i64 (2+2*(k:Int))) rfl (by rintro _ ⟨X,rfl⟩;go_simp) (λ_=>rfl) ?_;go_simp;refine FP ?_;refine Cv (λcH cl=> ?_);gi_wp2_with fail;refine(cj _ (Ac wr)).mono ?_;rintro e ai ⟨rfl,au⟩;have V:=Yph;obtain⟨bO,bX⟩:=VQ;have cn:=Yoe;have bQ:=Zh bX.r1;have co:=Yoi;have bY:=Zh V;clear au V cg ci ao aA an cj;gi_wp2;refine cl _ _ ⟨⟨ai,bY⟩,rfl⟩ ?_;clear cl cH;refine Cv (λcI cp=> ?_);gi_wp2;refine cp _ _ ⟨⟨_,bY.alloc co _⟩,rfl⟩ ?_;clear cp cI;refine EF ?_;gi_wp2_with (gi_at_builtin;go_must (refine wpListIn_append_own_at _ rfl _ _ 46 rfl (b13+1) 23 i0 (.int .u64 0) 1 8 Tryz.Gd hi cB c9 cG rfl (by decide) _ _ _ rfl (bQ.alloc _) ⟨ai.heap.size,0,none⟩ 1 1 [.int .u64 (y:Nat)] rfl rfl (cell_one_new _ _ _) (by simp [Value.oneCell']) (by unfold maxLen;omega) (by omega) (by simp;omega) ?_);intro v' bZ bH bI _ bL;obtain⟨cJ,cK,rfl⟩:=ownsRow_succ bH;have cr:=Zh (And.intro bH (And.intro bI bL));have bR:=Zh (HY bQ.out bI (by omega) bO.lt);have cL:=(bO.block bR.out).at' (i:=0) rfl;have q1:=(bO.block bR.out).free 0;clear bH bI bL);obtain⟨bH,bI,bL⟩:=cr.out;obtain⟨bT,b3⟩:=Zx (Value.slice (some ⟨cJ,0,none⟩) (k+1) cK);rw [bW,<-b3] at bH bL;have cu:bZ.ownsRow (b13+1) 23 1 bT (ES ws k++ [y]).length (AG (ES ws k++ [y])):=(by rw [HA,List.length_append,bW];exact bH);have J:=(bX.Yl cu bI bL).set (b:=b13) (j:=0) (by omega) bT;rw [<-ck.out] at J;have ab:=(bO.block bR).set 0 bT;have Z:=(HM cn (by omega) (by omega) bQ bI).setCell (p:=⟨b13,0,none⟩) (Nat.le_refl _) bT;rw [<-b3];clear b3;obtain⟨aA,ao,an⟩:=EW;clear cL q1 cu J ab Z bH bI bL bO bX cn bQ ck bR cr bW cd co bY;generalize bZ.setCell ⟨b13,0,none⟩ bT=bS at*;clear bZ;have U:Below am.heap.size am bS:=(by rw [<-bb.out];exact an.out);have bN:=aF.trans (U.mono aF.size);have cg:=(λX:BL bS=>X.cell (ao.at' (i:=1) rfl));have ci:=(λX:BL bS=>X.cell ((aE.below U).at' (i:=0) rfl));obtain⟨y,bV⟩: ∃y,ws[2+2*k+1]'(by omega)=y:=⟨_,rfl⟩;have bP:=(λW (bM:Below bS.heap.size bS W)=>aO W (bN.trans (bM.mono bN.size)) (2+2*k+1) (by omega) ((bM.cell (p:=⟨bJ,0,none⟩) ((aJ.below U).lt)).trans ((aJ.below U).at' (i:=0) rfl)) ((bM.cell (p:=⟨bK,0,none⟩) ((aK.below U).lt)).trans ((aK.below U).at' (i:=0) rfl)));rw [bV] at bP;push_cast at bP;have cj:=Zh bP;have cd:b13<bS.heap.size:=ao.lt;have ck:Hid (EU ws (k+1)=EU ws k++ [y]):=Zh (by rw [<-bV];exact UC (by omega));have bW:(EU ws k).length=k:=Jj _ _;clear bV U bN bP;gi_wp2;refine Dh (λw' => ∃X:BL bS,w' =X.W) 7 2 9 cY (by kernel_rfl) (by kernel_rfl) (by kernel_rfl) (by kernel_rfl) (by decide) rfl (by kernel_rfl) ⟨⟨_,Ac bS⟩,rfl⟩ (λ_ _ _ _ h=>h) ?_;simp only [List.take_succ_cons,List.take_zero,List.drop_succ_cons,List.drop_zero];refine AS (.pointer (some ⟨b13,1,none⟩)) rfl (by rintro _ ⟨X,rfl⟩;go_simp) (λ_=>rfl) ?_;go_simp;refine AS (v2) rfl (by rintro _ ⟨X,rfl⟩;have:=cg X;go_simp) (λ_=>rfl) ?_;go_simp;refine AS (.func (.func 120) #[] #[.pointer (some ⟨bJ,0,none⟩), .pointer (some ⟨bK,0,none⟩)]) rfl (by rintro _ ⟨X,rfl⟩;have:=ci X;go_simp) (λ_=>rfl) ?_;go_simp;refine AS (.int .i64 (k:Nat)) rfl (by rintro _ ⟨X,rfl⟩;go_simp) (λ_=>rfl) ?_;go_simp;refine AS (.int .i64 (2*(k:Int))) rfl (by rintro _ ⟨X,rfl⟩;go_simp) (λ_=>rfl) ?_;go_simp;refine AS (.int .i64 (2+2*(k:Int))) rfl (by rintro _ ⟨X,rfl⟩;go_simp) (λ_=>rfl) ?_;go_simp;refine AS (.int .i64 (2+2*(k:Int)+1)) rfl (by rintro _ ⟨X,rfl⟩;go_simp) (λ_=>rfl) ?_;go_simp;refine FP ?_;refine Cv (λcH cl=> ?_);gi_wp2_with fail;refine(cj _ (Ac bS)).mono ?_;rintro e ai ⟨rfl,au⟩;have V:Below bS.heap.size bS ai:=(by rw [<-au];exact Ac bS);obtain⟨bO,bX⟩:=VQ;have cn:=Yoe;have bQ:=Zh bX.r2;have co:bS.heap.size<=ai.heap.size:=V.size;have bY:=Zh V;clear au V cg ci ao aA an cj;gi_wp2;refine cl _ _ ⟨⟨ai,bY⟩,rfl⟩ ?_;clear cl cH;refine Cv (λcI cp=> ?_);gi_wp2;refine cp _ _ ⟨⟨_,bY.alloc co _⟩,rfl⟩ ?_;clear cp cI;refine EF ?_;gi_wp2_with (gi_at_builtin;go_must (refine wpListIn_append_own_at _ rfl _ _ 46 rfl (b13+1) 23 i0 (.int .u64 0) 1 8 Tryz.Gd hi cB c9 cG rfl (by decide) _ _ _ rfl (bQ.alloc _) ⟨ai.heap.size,0,none⟩ 1 1 [.int .u64 (y:Nat)] rfl rfl (cell_one_new _ _ _) (by simp [Value.oneCell']) (by unfold maxLen;omega) (by omega) (by simp;omega) ?_);intro v' bZ bH bI _ bL;obtain⟨cJ,cK,rfl⟩:=ownsRow_succ bH;have cr:=Zh (And.intro bH (And.intro bI bL));have bR:=Zh (HY bQ.out bI (by omega) bO.lt);have cL:=(bO.block bR.out).at' (i:=1) rfl;have q1:=(bO.block bR.out).free 1;clear bH bI bL);obtain⟨bH,bI,bL⟩:=cr.out;obtain⟨cz,b3⟩:=Zx (Value.slice (some ⟨cJ,0,none⟩) (k+1) cK);rw [bW,<-b3] at bH bL;have cu:bZ.ownsRow (b13+1) 23 1 cz (EU ws k++ [y]).length (AG (EU ws k++ [y])):=(by rw [HA,List.length_append,bW];exact bH);have J:=(bX.Adq cu bI bL).set (b:=b13) (j:=1) (by omega) cz;rw [<-ck.out] at J;have ab:=(bO.block bR).set 1 cz;have Z:=(HM cn (by omega) (by omega) bQ bI).setCell (p:=⟨b13,1,none⟩) (Nat.le_refl _) cz;rw [<-b3];clear b3;obtain⟨aA,ao,an⟩:=EW;clear cL q1 cu J ab Z bH bI bL bO bX cn bQ ck bR cr bW cd co bY;generalize bZ.setCell ⟨b13,1,none⟩ cz=d9 at*;clear bZ;go_roundw
         case rel=>exact⟨k+1,bT,cz,by omega,by go_num,ao,aA,an⟩
         case measure=>simp [intOf];omega
       . obtain rfl:k=m:=by omega
         obtain⟨ax,c1,rfl⟩: ∃A c,v1= .slice A k c:=by have af:=Ae aA.r1;rw [Jp] at af;exact af
         obtain⟨kid0,da⟩: ∃y,ws[4*t]'(by omega)=y:=⟨_,rfl⟩;have bj:=Zh da;have dS:=cZ.out (4*t) (by omega);rw [da] at dS;obtain⟨lim,db⟩:=Zx (if kid0=0 then 0 else k+1);have be:=Zh db;have ea:lim<=k+1:=by rw [db];split<;>omega
         clear db da dt;have eb:IntKind.i64.wrap (4*(t:Int))=4*(t:Int):=(by rw [IntKind.wrap_i64];omega);have du:Hid (AQ wr (b13+1) (.slice ax k c1) (ES ws k) v2 (EU ws k) (.slice none 0 0) (FM t ws 0)):=aA;have dv:=Zh ao.out;have dw:=Zh an.out;clear aA ao an;gi_wp2_with fail
         gi_loopw [15] (λcv wr=> ∃(j:Nat) (v3:Value),j<=lim/\cv= .int .i64 j/\Hid (An wr b13 100 [.slice ax k c1,v2,v3, .int .u64 (sz:Nat)])/\Hid (AQ wr (b13+1) (.slice ax k c1) (ES ws k) v2 (EU ws k) v3 (FM t ws j))/\Hid (Below b13 am wr)) (λcv _=>lim-(intOf cv).toNat)
         case atStart=>exact⟨0,_,by omega,rfl,dv,du,dw⟩
         case round=>
          obtain⟨j,v3,ec,rfl,ao,aA,an⟩:=hrel;clear dv du dw;by_cases dt:j<lim
          . have cX:kid0≠0:=λe=>by have af:=be.out;rw [if_pos e] at af;omega
            have dT:((kid0:Int) !=0)=true:=(by simp;omega);have dx:j<=k:=(by omega);obtain⟨aP,bg⟩:=Wb;have cb:=Yne;rw [bj.out] at cb;push_cast at cb;have cM:=Zh cb;have f0:=ao.at' (i:=0) rfl;have f12:=(aE.below aP).at' (i:=0) rfl;clear aP bg cb;gi_wp2_with fail;refine cM.mono ?_;rintro e dU ⟨rfl,rfl⟩;clear f0 f12 cM;have w4:IntKind.i64.wrap (4*(t:Int)+(j:Int))=4*(t:Int)+(j:Int):=(by rw [IntKind.wrap_i64];omega);obtain⟨U,bN⟩:=Wb;have cg:=(λX:BL wr=>X.cell (ao.at' (i:=2) rfl));have ci:=Ymt;obtain⟨y,bV⟩: ∃y,ws[4*t+j]'(by omega)=y:=⟨_,rfl⟩;have bP:=(λW (bM:Below wr.heap.size wr W)=>aO W (bN.trans (bM.mono bN.size)) (4*t+j) (by omega) ((bM.cell (p:=⟨bJ,0,none⟩) ((aJ.below U).lt)).trans ((aJ.below U).at' (i:=0) rfl)) ((bM.cell (p:=⟨bK,0,none⟩) ((aK.below U).lt)).trans ((aK.below U).at' (i:=0) rfl)));rw [bV] at bP;push_cast at bP;have cj:=Zh bP;have cd:b13<wr.heap.size:=ao.lt;have ck:Hid (FM t ws (j+1)=FM t ws j++ [y]):=Zh (by rw [<-bV];exact Tb (by omega));have bW:(FM t ws j).length=j:=Jn _ _ _;clear bV U bN bP;gi_wp2;refine Dh (λw' => ∃X:BL wr,w' =X.W) 7 2 9 cY (by kernel_rfl) (by kernel_rfl) (by kernel_rfl) (by kernel_rfl) (by decide) rfl (by kernel_rfl) ⟨⟨_,Ac wr⟩,rfl⟩ (λ_ _ _ _ h=>h) ?_;simp only [List.take_succ_cons,List.take_zero,List.drop_succ_cons,List.drop_zero];refine AS (.pointer (some ⟨b13,2,none⟩)) rfl (by rintro _ ⟨X,rfl⟩;go_simp) (λ_=>rfl) ?_;go_simp;refine AS (v3) rfl (by rintro _ ⟨X,rfl⟩;have:=cg X;go_simp) (λ_=>rfl) ?_;go_simp;refine AS (.func (.func 120) #[] #[.pointer (some ⟨bJ,0,none⟩), .pointer (some ⟨bK,0,none⟩)]) rfl (by rintro _ ⟨X,rfl⟩;have:=ci X;go_simp) (λ_=>rfl) ?_;go_simp;refine AS (.int .i64 t) rfl (by rintro _ ⟨X,rfl⟩;go_simp) (λ_=>rfl) ?_;go_simp;refine AS (.int .i64 (4*(t:Int))) rfl (by rintro _ ⟨X,rfl⟩;go_simp) (λ_=>rfl) ?_;go_simp;refine AS (.int .i64 j) rfl (by rintro _ ⟨X,rfl⟩;go_simp) (λ_=>rfl) ?_;go_simp;refine AS (.int .i64 (4*(t:Int)+(j:Int))) rfl (by rintro _ ⟨X,rfl⟩;go_simp) (λ_=>rfl) ?_;go_simp;refine FP ?_;refine Cv (λcH cl=> ?_);gi_wp2_with fail;refine(cj _ (Ac wr)).mono ?_;rintro e ai ⟨rfl,au⟩;have V:=Yph;obtain⟨bO,bX⟩:=VQ;have cn:=Yoe;have bQ:=Zh bX.r3;have co:=Yoi;have bY:=Zh V;clear au V cg ci ao aA an cj;gi_wp2;refine cl _ _ ⟨⟨ai,bY⟩,rfl⟩ ?_;clear cl cH;refine Cv (λcI cp=> ?_);gi_wp2;refine cp _ _ ⟨⟨_,bY.alloc co _⟩,rfl⟩ ?_;clear cp cI;refine EF ?_;gi_wp2_with (gi_at_builtin;go_must (refine wpListIn_append_own_at _ rfl _ _ 46 rfl (b13+1) 23 i0 (.int .u64 0) 1 8 Tryz.Gd hi cB c9 cG rfl (by decide) _ _ _ rfl (bQ.alloc _) ⟨ai.heap.size,0,none⟩ 1 1 [.int .u64 (y:Nat)] rfl rfl (cell_one_new _ _ _) (by simp [Value.oneCell']) (by unfold maxLen;omega) (by omega) (by simp;omega) ?_);intro v' bZ bH bI _ bL;obtain⟨cJ,cK,rfl⟩:=ownsRow_succ bH;have cr:=Zh (And.intro bH (And.intro bI bL));have bR:=Zh (HY bQ.out bI (by omega) bO.lt);have cL:=(bO.block bR.out).at' (i:=2) rfl;have q1:=(bO.block bR.out).free 2;clear bH bI bL);obtain⟨bH,bI,bL⟩:=cr.out;obtain⟨bT,b3⟩:=Zx (Value.slice (some ⟨cJ,0,none⟩) (j+1) cK);rw [bW,<-b3] at bH bL;have cu:bZ.ownsRow (b13+1) 23 1 bT (FM t ws j++ [y]).length (AG (FM t ws j++ [y])):=(by rw [HA,List.length_append,bW];exact bH);have J:=(bX.Acb cu bI bL).set (b:=b13) (j:=2) (by omega) bT;rw [<-ck.out] at J;have ab:=(bO.block bR).set 2 bT;have Z:=(HM cn (by omega) (by omega) bQ bI).setCell (p:=⟨b13,2,none⟩) (Nat.le_refl _) bT;rw [<-b3];clear b3;obtain⟨aA,ao,an⟩:=EW;clear cL q1 cu J ab Z bH bI bL bO bX cn bQ ck bR cr bW cd co bY;generalize bZ.setCell ⟨b13,2,none⟩ bT=bS at*;clear bZ;go_roundw
            case rel=>exact⟨j+1,bT,by omega,by go_num,ao,aA,an⟩
            case measure=>simp [intOf];omega
          . obtain rfl:j=lim:=by omega
            by_cases cX:kid0=0
            . have dT:((kid0:Int) !=0)=false:=by simp [cX]
              have dx:j<=k:=(by have af:=be.out;rw [if_pos cX] at af;omega);obtain⟨aP,bg⟩:=Wb;have cb:=Yne;rw [bj.out] at cb;push_cast at cb;have cM:=Zh cb;have f0:=ao.at' (i:=0) rfl;have f12:=(aE.below aP).at' (i:=0) rfl;clear aP bg cb;gi_wp2_with fail;refine cM.mono ?_;rintro e dU ⟨rfl,rfl⟩;clear f0 f12 cM;obtain⟨U,bN⟩:=Wb;have n0:=Ynn;obtain⟨n,aN⟩: ∃n:BN,n=⟨ES ws k,EU ws k,FM t ws j,sz⟩:=⟨_,rfl⟩;obtain⟨aD,al⟩:=Yji;rw [<-aN] at al;obtain⟨a7,aM,cN⟩:=Ypc;obtain⟨f0,f1,f2,f3⟩:=C5 ao.out;have a1:=Zh bN;have aG:=Zh U;clear aN al U bN n0;gi_wp2_with fail;refine cN.mono ?_;rintro e bp ⟨rfl,ah⟩;obtain⟨cO,z3,z5,aU,aW,z12⟩:=Ykx;obtain⟨aY,a3⟩:=Yhj;have ac:=Zh cO;clear cN f0 f1 f2 f3 ah cO aA ao an aG a1;by_cases aB:n.Fits t
              . rw [decide_eq_true aB]
                have bi:=Zh aB;clear aB;obtain⟨f0,f1,f2,f3⟩:=C5 aY.out;have al:=Yjl;rw [<-aM.out] at al;have au:=Yov;clear al;gi_wp2_with fail;refine au.mono ?_;rintro e w4 ⟨b,bx,rfl,dc,dd,a2,bf,bq,I⟩;obtain⟨de,ed,u3,a6⟩:=Ymx;obtain⟨aV,a0⟩:=Xx;obtain⟨a5,ba,aX,aC⟩:=Yqy;obtain⟨m6,m7,a8,a9⟩:=Ymu;clear z3 z5 aU aW z12 aY a3 au f0 f1 f2 f3 a2 bf I dc dd;gi_wp2_with fail
                refine wpIn_rangeFunc_ownH (α:={z:Nat // z<(n.wd t).length}) rfl (by omega) (gf:=173) (lb:= #[.pointer (some ⟨bx,0,none⟩)]) rfl trivial (enters_of func173 (by kernel_rfl) rfl)
                 de (λh k=>h.trans k) (λW l o dV dW aL h1 dX=>B0.put W _ (by omega) (by omega)) (Below.refl _ _) (λ_=>rfl)
                 (λ(pre:List {z:Nat // z<(n.wd t).length}) W=>Below w4.heap.size w4 W/\ ∀z∈pre,ws.getD z.1 0=(n.wd t)[z.1]'z.2)
                 (λcP pre W=>cP= .ret/\(An W b6 100 [.slice none 0 0, .slice none 0 0, .slice none 0 0, .int .u64 0]/\An W b7 25 [.int .i64 ((8:Nat):Int)])/\Below w.heap.size w W/\ ¬BN.Kg t ws)
                 (λpre A B row hs hg b4=>⟨ownFrom_below (Nat.le_refl _) (Nat.le_refl _) () A B row hs.1 hg b4,hs.2⟩)
                 (λcP pre A B row hs hg b4=>⟨hs.1,⟨hs.2.1.1.block (hg.block b6 hs.2.1.1.lt (λe=>by have:=(b4 b6 e.symm).1;omega)),hs.2.1.2.block (hg.block b7 hs.2.1.2.lt (λe=>by have:=(b4 b7 e.symm).1;omega))⟩,ownFrom_below (Nat.le_refl _) aC.size () A B row hs.2.2.1 hg b4,hs.2.2.2⟩)
                 ⟨Below.refl _ _,λz h=>absurd h (by simp)⟩
                 (λz a' W=>a' ={ tmps:= #[ .pointer (some ⟨s,0,none⟩), .int .i64 (t:Int), .int .u64 (x:Int), .pointer (some ⟨bJ,0,none⟩),undef, .pointer (some ⟨bK,0,none⟩), .pointer (some ⟨b6,0,none⟩), .pointer (some ⟨b7,0,none⟩), .int .i64 (cc:Int), .int .i64 (lb:Int), .int .i64 (6*(t:Int)), .int .i64 0, .pointer (some ⟨c8,0,none⟩), .pointer (some ⟨b13,0,none⟩),u14, .int .i64 (j:Int), .int .i64 (z.1:Nat), .int .u64 ((n.wd t)[z.1]'z.2:Nat), .tuple #[ .int .i64 (cc:Int), .int .i64 (lb:Int)], .pointer (some ⟨s,0,none⟩), .tuple #[ .int .i64 (cc:Int), .int .i64 (lb:Int)], .int .i64 (cc:Int), .int .i64 (lb:Int), .int .i64 (lb:Int), .bool false,undef,undef, .int .i64 (t:Int), .bool true, .bool false,undef, .tuple #[ .int .i64 (6*(t:Int)), .int .i64 0], .pointer (some ⟨s,0,none⟩), .int .u64 (x:Int), .tuple #[ .int .i64 (6*(t:Int)), .int .i64 0], .int .i64 (6*(t:Int)), .int .i64 0, .bool false, .int .i64 0, .bool false,undef,undef, .bool false, .int .i64 (6*(t:Int)), .int .i64 (t:Int), .int .i64 (6*(t:Int)), .bool false,undef, .func (.func 120) #[] #[ .pointer (some ⟨bJ,0,none⟩), .pointer (some ⟨bK,0,none⟩)], .func (.func 120) #[] #[ .pointer (some ⟨bJ,0,none⟩), .pointer (some ⟨bK,0,none⟩)], .int .u64 ((k:Nat):Int), .int .i64 (t:Int), .int .i64 (2*(t:Int)), .int .i64 (2*(t:Int)-1), .int .u64 (2*(t:Int)-1), .bool false,undef, .func (.func 120) #[] #[ .pointer (some ⟨bJ,0,none⟩), .pointer (some ⟨bK,0,none⟩)], .int .u64 ((sz:Nat):Int), .agg #[ .slice none 0 0, .slice none 0 0, .slice none 0 0, .int .u64 ((sz:Nat):Int)], .func (.func 120) #[] #[ .pointer (some ⟨bJ,0,none⟩), .pointer (some ⟨bK,0,none⟩)], .int .u64 ((k:Nat):Int), .int .i64 ((k:Nat):Int), .int .i64 ((k:Nat):Int), .bool false,u65,u66,u67,u68,u69,u70,u71,u72,u73,u74,u75,u76,u77,u78,u79,u80,u81,u82,u83,u84,u85,u86,u87, .int .i64 (j:Int), .pointer (some ⟨b13,0,none⟩), .slice ax k c1, .int .i64 ((k:Nat):Int), .bool true, .bool true, .func (.func 120) #[] #[ .pointer (some ⟨bJ,0,none⟩), .pointer (some ⟨bK,0,none⟩)], .int .i64 (t:Int), .int .i64 (4*(t:Int)), .int .u64 0, .bool false, .bool false,u100,u101,u102,u103,u104,u105,u106,u107,u108,u109,u110,u111,u112, .int .i64 (t:Int), .agg #[ .slice ax k c1,v2,v3, .int .u64 ((sz:Nat):Int)], .bool true, .bool false,undef, .int .i64 (t:Int), .agg #[ .slice ax k c1,v2,v3, .int .u64 ((sz:Nat):Int)], .func (.func 173) #[] #[ .pointer (some ⟨bx,0,none⟩)], .int .i64 (z.1:Nat), .int .u64 ((n.wd t)[z.1]'z.2:Nat),undef,undef,undef,undef,undef,undef,undef],defers:= [] })
                 (λ_ _ _ _ _ _ hs _ _=>hs)
                 ?assign ?body ?done ?stop
                case assign=>
                 exact Y8
                case body=>
                 exact Yad
                case done=>
                 exact Yae
                case stop=>
                 exact Yas
              . exact Yao
            . have dx: ¬j<=k:=by have af:=be.out;rw [if_neg cX] at af;omega
              obtain⟨U,bN⟩:=Wb;have n0:=Ynn;obtain⟨n,aN⟩: ∃n:BN,n=⟨ES ws k,EU ws k,FM t ws j,sz⟩:=⟨_,rfl⟩;obtain⟨aD,al⟩:=Yji;rw [<-aN] at al;obtain⟨a7,aM,cN⟩:=Ypc;obtain⟨f0,f1,f2,f3⟩:=C5 ao.out;have a1:=Zh bN;have aG:=Zh U;clear aN al U bN n0;gi_wp2_with fail;refine cN.mono ?_;rintro e bp ⟨rfl,ah⟩;obtain⟨cO,z3,z5,aU,aW,z12⟩:=Ykx;obtain⟨aY,a3⟩:=Yhj;have ac:=Zh cO;clear cN f0 f1 f2 f3 ah cO aA ao an aG a1;by_cases aB:n.Fits t
              . rw [decide_eq_true aB]
                have bi:=Zh aB;clear aB;obtain⟨f0,f1,f2,f3⟩:=C5 aY.out;have al:=Yjl;rw [<-aM.out] at al;have au:=Yov;clear al;gi_wp2_with fail;refine au.mono ?_;rintro e w4 ⟨b,bx,rfl,dc,dd,a2,bf,bq,I⟩;obtain⟨de,_,u3,a6⟩:=Ymx;obtain⟨aV,a0⟩:=Xx;obtain⟨a5,ba,aX,aC⟩:=Yqy;obtain⟨_,_,a8,a9⟩:=Ymu;clear z3 z5 aU aW z12 aY a3 au f0 f1 f2 f3 a2 bf I dc dd;gi_wp2_with fail
                refine wpIn_rangeFunc_ownH (α:={z:Nat // z<(n.wd t).length}) rfl (by omega) (gf:=173) (lb:= #[.pointer (some ⟨bx,0,none⟩)]) rfl trivial (enters_of func173 (by kernel_rfl) rfl)
                 de (λh k=>h.trans k) (λW l o dV dW aL h1 dX=>B0.put W _ (by omega) (by omega)) (Below.refl _ _) (λ_=>rfl)
                 (λ(pre:List {z:Nat // z<(n.wd t).length}) W=>Below w4.heap.size w4 W/\ ∀z∈pre,ws.getD z.1 0=(n.wd t)[z.1]'z.2)
                 (λcP pre W=>cP= .ret/\(An W b6 100 [.slice none 0 0, .slice none 0 0, .slice none 0 0, .int .u64 0]/\An W b7 25 [.int .i64 ((8:Nat):Int)])/\Below w.heap.size w W/\ ¬BN.Kg t ws)
                 (λpre A B row hs hg b4=>⟨ownFrom_below (Nat.le_refl _) (Nat.le_refl _) () A B row hs.1 hg b4,hs.2⟩)
                 (λcP pre A B row hs hg b4=>⟨hs.1,⟨hs.2.1.1.block (hg.block b6 hs.2.1.1.lt (λe=>by have:=(b4 b6 e.symm).1;omega)),hs.2.1.2.block (hg.block b7 hs.2.1.2.lt (λe=>by have:=(b4 b7 e.symm).1;omega))⟩,ownFrom_below (Nat.le_refl _) aC.size () A B row hs.2.2.1 hg b4,hs.2.2.2⟩)
                 ⟨Below.refl _ _,λz h=>absurd h (by simp)⟩
                 (λz a' W=>a' ={ tmps:= #[ .pointer (some ⟨s,0,none⟩), .int .i64 (t:Int), .int .u64 (x:Int), .pointer (some ⟨bJ,0,none⟩),undef, .pointer (some ⟨bK,0,none⟩), .pointer (some ⟨b6,0,none⟩), .pointer (some ⟨b7,0,none⟩), .int .i64 (cc:Int), .int .i64 (lb:Int), .int .i64 (6*(t:Int)), .int .i64 0, .pointer (some ⟨c8,0,none⟩), .pointer (some ⟨b13,0,none⟩),u14, .int .i64 (j:Int), .int .i64 (z.1:Nat), .int .u64 ((n.wd t)[z.1]'z.2:Nat), .tuple #[ .int .i64 (cc:Int), .int .i64 (lb:Int)], .pointer (some ⟨s,0,none⟩), .tuple #[ .int .i64 (cc:Int), .int .i64 (lb:Int)], .int .i64 (cc:Int), .int .i64 (lb:Int), .int .i64 (lb:Int), .bool false,undef,undef, .int .i64 (t:Int), .bool true, .bool false,undef, .tuple #[ .int .i64 (6*(t:Int)), .int .i64 0], .pointer (some ⟨s,0,none⟩), .int .u64 (x:Int), .tuple #[ .int .i64 (6*(t:Int)), .int .i64 0], .int .i64 (6*(t:Int)), .int .i64 0, .bool false, .int .i64 0, .bool false,undef,undef, .bool false, .int .i64 (6*(t:Int)), .int .i64 (t:Int), .int .i64 (6*(t:Int)), .bool false,undef, .func (.func 120) #[] #[ .pointer (some ⟨bJ,0,none⟩), .pointer (some ⟨bK,0,none⟩)], .func (.func 120) #[] #[ .pointer (some ⟨bJ,0,none⟩), .pointer (some ⟨bK,0,none⟩)], .int .u64 ((k:Nat):Int), .int .i64 (t:Int), .int .i64 (2*(t:Int)), .int .i64 (2*(t:Int)-1), .int .u64 (2*(t:Int)-1), .bool false,undef, .func (.func 120) #[] #[ .pointer (some ⟨bJ,0,none⟩), .pointer (some ⟨bK,0,none⟩)], .int .u64 ((sz:Nat):Int), .agg #[ .slice none 0 0, .slice none 0 0, .slice none 0 0, .int .u64 ((sz:Nat):Int)], .func (.func 120) #[] #[ .pointer (some ⟨bJ,0,none⟩), .pointer (some ⟨bK,0,none⟩)], .int .u64 ((k:Nat):Int), .int .i64 ((k:Nat):Int), .int .i64 ((k:Nat):Int), .bool false,u65,u66,u67,u68,u69,u70,u71,u72,u73,u74,u75,u76,u77,u78,u79,u80,u81,u82,u83,u84,u85,u86,u87, .int .i64 (j:Int), .pointer (some ⟨b13,0,none⟩), .slice ax k c1, .int .i64 ((k:Nat):Int), .bool false, .bool false,undef,undef,undef,undef,undef, .bool false,u100,u101,u102,u103,u104,u105,u106,u107,u108,u109,u110,u111,u112, .int .i64 (t:Int), .agg #[ .slice ax k c1,v2,v3, .int .u64 ((sz:Nat):Int)], .bool true, .bool false,undef, .int .i64 (t:Int), .agg #[ .slice ax k c1,v2,v3, .int .u64 ((sz:Nat):Int)], .func (.func 173) #[] #[ .pointer (some ⟨bx,0,none⟩)], .int .i64 (z.1:Nat), .int .u64 ((n.wd t)[z.1]'z.2:Nat),undef,undef,undef,undef,undef,undef,undef],defers:= [] })
                 (λ_ _ _ _ _ _ hs _ _=>hs)
                 ?assign ?body ?done ?stop
                case assign=>
                 exact Y8
                case body=>
                 exact Yad
                case done=>
                 exact Yae
                case stop=>
                 exact Yas
              . exact Yao
  . have dl:((ws.length:Int) !=6*(t:Int))=true:=by simp;omega
    have ae:=H0 (w:=w) (W:=O) (R:=R) (t:=t) (x:=x) (b6:=b6) (b7:=b7) (er:=8) (by unfold Ag;rw [aj];exact if_neg (λh=>aL h.1)) (by unfold Bm;rw [aj];exact if_neg (λh=>aL h.1)) cf g6 g7;have bU:=DV b5 cx aR (.slice none 0 0) (.slice none 0 0) (.slice none 0 0) (.int .u64 0) (.int .i64 ((8:Nat):Int));unfold Cj at ae bU;have ay:=Zh ae;have ar:=Zh bU;clear ae bU;gi_wp2_with fail;refine(cw _ cf).mono ?_;rintro e w3 ⟨rfl,rfl⟩;exact Yat
end
end Go.Proofs.YtiopopoohglepaaGreatDoor
namespace Go.Proofs.YtiopopoohglepaaGreatDoor
open Go.Proofs.Tryz
open Go.RowKit Go.Shelf
variable {F:Nat->Prop}{W:World}{b6 bt t:Nat}
def SU(w:World)(R:Zr)(t x:Nat)(e:Ending)(w' :World):Prop:=
 ∃v1 v2 v3,e= .returned (.tuple #[.agg #[v1,v2,v3, .int .u64 ((Ag R t x).size:Nat)], .bool (decide (Bm R t x=0))])/\AQ w' w.heap.size v1 (Ag R t x).keys v2 (Ag R t x).Ab v3 (Ag R t x).kids/\Below w.heap.size w w'
def IS(W:World)(b6:Nat)(v1 v2 v3 v4:Value):World:=(((W.setCell ⟨b6,0,none⟩ v1).setCell ⟨b6,1,none⟩ v2).setCell ⟨b6,2,none⟩ v3).setCell ⟨b6,3,none⟩ v4
theorem Qm{d:TypeId}{u1 u2 u3 I:Value}(J:An W b6 d [u1,u2,u3,I])(v1 v2 v3 v4:Value):An (IS W b6 v1 v2 v3 v4) b6 d [v1,v2,v3,v4]:=
 ((((J.set 0 v1).set 1 v2).set 2 v3).set 3 v4)
theorem NF{w:World}{m:Nat}(h:Below m w W)(d:m<=b6)(v1 v2 v3 v4:Value):Below m w (IS W b6 v1 v2 v3 v4):=
 (((h.setCell (p:=⟨b6,0,none⟩) d v1).setCell (p:=⟨b6,1,none⟩) d v2).setCell (p:=⟨b6,2,none⟩) d v3).setCell (p:=⟨b6,3,none⟩) d v4
theorem AQ.four{B:Nat}{v1 v2 v3:Value}{l1 l2 l3:List Nat}(h:AQ W B v1 l1 v2 l2 v3 l3)(d:b6<B)(u1 u2 u3 I:Value):AQ (IS W b6 u1 u2 u3 I) B v1 l1 v2 l2 v3 l3:=(((h.set d u1).set d u2).set d u3).set d I
section
variable {w w':World} {s N:Nat} {R:Zr} {nn:Nat}
def ZS{P}(h:P:=by
 rwa [show(w.alloc (Obj.cells #[.pointer (some ⟨s,0,none⟩), .int .i64 t] 96)).heap.size=w.heap.size+1 by simp] at this):=h
def Xb{P}(h:P:=by
 have ab:Below w.heap.size w d:=by rw [J];exact((Below.refl _ w).alloc (Nat.le_refl _) _).alloc (by simp) _
 exact ab):=h
def Yil{P}(h:P:=by
 have J:=(Qm ae (.slice U n1 k1) (.slice aa n2 k2) (.slice O n3 V) (.int .u64 n4)).alloc (Obj.cells #[.slice U n1 k1, .slice aa n2 k2, .slice O n3 V, .int .u64 n4] 100);have d:=NF ag g4 (.slice U n1 k1) (.slice aa n2 k2) (.slice O n3 V) (.int .u64 n4);have I:=(ai.four ah (.slice U n1 k1) (.slice aa n2 k2) (.slice O n3 V) (.int .u64 n4)).lower ac.size;have Z:=af.out _ _ _ _ (I.below ((Below.refl _ _).alloc (Nat.le_refl _) (Obj.cells #[.slice U n1 k1, .slice aa n2 k2, .slice O n3 V, .int .u64 n4] 100))) (d.alloc d.size _);exact And.intro J (And.intro d (And.intro I Z))):=h
theorem DQ(h:Rd N w s R nn)(t:Nat)(ar:BN.A1 t)(x:Nat)(hx:x<18446744073709551616):
 Calls prog 44 #[.agg #[.pointer (some ⟨s,0,none⟩), .int .i64 t], .int .u64 x] w (SU w R t x):=by
 obtain⟨d,J⟩:=Zx ((w.alloc (Obj.cells #[.pointer (some ⟨s,0,none⟩), .int .i64 t] 96)).alloc (Obj.cells #[.slice none 0 0, .slice none 0 0, .slice none 0 0, .int .u64 0] 100));have ab:=Xb;obtain⟨an,Z⟩:=Zx (w.heap.size+1);have ao:An d an 100 [.slice none 0 0, .slice none 0 0, .slice none 0 0, .int .u64 0]:=by
  rw [J,Z];have:=An.new (w.alloc (Obj.cells #[.pointer (some ⟨s,0,none⟩), .int .i64 t] 96)) 100 [.slice none 0 0, .slice none 0 0, .slice none 0 0, .int .u64 0];exact ZS
 have g4:w.heap.size<=an:=by omega
 have au:=Zh (Lj (h.below ab) t ar x hx);obtain⟨aw,ac,ax⟩:=EW;have aq:=Zh ao;clear h J ab ao Z;go_enter func44,ntmps44;go_wp2_with fail;rw [<-aw.out,<-ax.out];refine au.mono ?_;rintro e w3 ⟨v1,v2,v3,rfl,aj,I⟩;obtain⟨U,k1,rfl⟩:=Ae aj.r1;obtain⟨aa,k2,rfl⟩:=Ae aj.r2;obtain⟨O,V,rfl⟩:=Ae aj.r3;have ai:=Zh aj;have ag:=DR;have ae:=Zh (aq.below I);have ah:=Zh aq.lt;have aE:=ae.lt;clear aj I;obtain⟨⟨c0,c1,c2,c3⟩,f0,f1,f2,f3⟩:=Yq ae.out;have af:Hid (∀v1 v2 v3 W,AQ W w.heap.size v1 (Ag R t x).keys v2 (Ag R t x).Ab v3 (Ag R t x).kids->Below w.heap.size w W->SU w R t x (.returned (.tuple #[.agg #[v1,v2,v3, .int .u64 ((Ag R t x).size:Nat)], .bool (decide (Bm R t x=0))])) W):=Zh (λv1 v2 v3 W h1 ay=>⟨v1,v2,v3,rfl,h1,ay⟩);have aF:((Bm R t x:Int)==0)=decide (Bm R t x=0):=by rw [Bool.eq_iff_iff];simp
 generalize (Ag R t x).keys.length=n1 at*;generalize (Ag R t x).Ab.length=n2 at*;generalize (Ag R t x).kids.length=n3 at*;generalize (Ag R t x).size=n4 at*;generalize decide (Bm R t x=0)=ok at*;generalize Bm R t x=er at*;obtain⟨al,az,aA,am⟩:=Yil;unfold IS at al am;have aB:=Zh al;have aC:=Zh am;clear al az aA am;go_wp2;obtain⟨aD,r1,r2,r3⟩:=C5 aB.out;refine bodyPost_ret (v:= .tuple #[.agg #[.slice U n1 k1, .slice aa n2 k2, .slice O n3 V, .int .u64 n4], .bool ok]) (by simp [results,f44,go_sem,aD,r1,r2,r3]) rfl aC.out
end
section
variable {w w':World} {s N:Nat} {R:Zr} {nn:Nat}
def Yn{P}(h:P:=by
 have d:Below w.heap.size w (w.alloc (Obj.cells #[.pointer (some ⟨s,0,none⟩), .int .i64 t] 96)):=(Below.refl _ w).alloc (Nat.le_refl _) _;exact d):=h
theorem PD(h:Rd N w s R nn)(O:Ba R)(t x:Nat)(hx:x<18446744073709551616):
 Calls prog 63 #[.agg #[.pointer (some ⟨s,0,none⟩), .int .i64 t], .int .u64 x] w λe w' =>e= .returned (.string (BH R x))/\Below w.heap.size w w' :=by
 have J:=Yn;have d:=Hs (h.below J) O x hx;unfold G9 at d;rw [show(G8 R x).getD ⟨#[]⟩=BH R x from rfl] at d;have U:=Zh d;have ac:=Zh J;clear h d J;generalize BH R x=Z at*;generalize C8 R x=er at*;go_enter func63,ntmps63;go_wp2_with fail;refine U.mono ?_;rintro e w2 ⟨rfl,I⟩;have V:=DR;clear I;go_wp2;go_ret;exact⟨rfl,V⟩
theorem E4(h:Rd N w s R nn)(t:Nat)(V:BN.A1 t)(x:Nat)(hx:x<18446744073709551616):
 Calls prog 49 #[.agg #[.pointer (some ⟨s,0,none⟩), .int .i64 t], .int .u64 x] w λe w' =>e= .returned (.int .i64 (Cq R t x))/\Below w.heap.size w w' :=by
 have J:=Yn;have O:=DQ (h.below J) t V x hx;unfold SU at O;unfold Cq;generalize (Ag R t x).size=n4 at*;have Z:=Zh O;have ac:=Zh J;clear h O J;go_enter func49,ntmps49;go_wp2_with fail;refine Z.mono ?_;rintro e w2 ⟨v1,v2,v3,rfl,d,I⟩;obtain⟨aa,k1,rfl⟩:=Ae d.r1;obtain⟨ab,k2,rfl⟩:=Ae d.r2;obtain⟨ae,af,rfl⟩:=Ae d.r3;have U:=DR;clear I d;generalize (Ag R t x).keys.length=n1 at*;generalize (Ag R t x).Ab.length=n2 at*;generalize (Ag R t x).kids.length=n3 at*;generalize decide (Bm R t x=0)=ok at*;have ag:=Zh (U.alloc U.size (Obj.cells #[Value.slice aa n1 k1,Value.slice ab n2 k2,Value.slice ae n3 af,Value.int IntKind.u64 ↑n4] 100));go_wp2;go_ret;exact⟨rfl,ag⟩
end
section
variable {w w':World} {s N:Nat} {R:Zr} {nn:Nat}
def Ycq{P}(h:P:=by
 go_wp2_with fail;refine I.mono ?_;rintro e w2 ⟨rfl,J⟩;have O:=Zh J;clear J;go_wp2_with fail;refine(d _).mono ?_;rintro e w3 ⟨rfl,rfl⟩;go_wp2;go_ret;exact⟨rfl,O⟩):=h
theorem Wi(h:Rd N w s R nn)(J:Ba R)(c0:w.cell? ⟨bt,0,none⟩=some (.pointer (some ⟨s,0,none⟩)))(c1:w.cell? ⟨bt,1,none⟩=some (.int .i64 t))(x:Nat)(hx:x<18446744073709551616)(key:ByteArray):
 Calls prog 136 #[.int .u64 x, .string key, .pointer (some ⟨bt,0,none⟩)] w λe w' =>e= .returned (.int .i64 (Tx.cmp (BH R x) key))/\Below w.heap.size w w' :=by
 have I:=Zh (PD h J t x hx);have d:=Zh (λW=>Tx.LG (BH R x) key W);clear h;generalize Tx.cmp (BH R x) key=cc at*;generalize BH R x=O at*;go_enter func136,ntmps136;exact Ycq
theorem Wf(f:Nat->Int)(m lo:Nat):GF f m lo lo=lo:=by
 cases m<;>simp [GF]
def Yac{P}(h:P:=by
 generalize JI R l key=f at*;go_enter func74,ntmps74;go_wp2
 go_loopw [9,10] (λal am wr=> ∃m lo hi:Nat,lo<=hi/\hi<=l.length/\al= .int .i64 lo/\am= .int .i64 hi/\hi-lo<=m/\Hid (GF f l.length 0 l.length=GF f m lo hi)/\Hid (Below w.heap.size w wr)) (λal am _=>(intOf am).toNat-(intOf al).toNat)
 case atStart=>exact⟨l.length,0,l.length,by omega,by omega,rfl,rfl,by omega,Zh rfl,Zh (Below.refl _ _)⟩
 case round=>
  obtain⟨m,lo,hi,h1,ay,rfl,rfl,hm,ag,d⟩:=hrel;by_cases az:lo<hi
  . have w1:IntKind.i64.wrap ((lo:Int)+(hi:Int))=(lo:Int)+(hi:Int):=by rw [IntKind.wrap_i64];omega
    obtain⟨q,au⟩:=Zx ((lo+hi)/2);have aD:((lo:Int)+(hi:Int))/2=(q:Int):=(by omega);have an:q<l.length:=(by omega);have aE:lo<=q:=(by omega);have aF:q<hi:=(by omega);obtain⟨b,o,rfl,aA,Z⟩:=hN.out q an;have aa:=Z wr d.out;have U:=V.out wr d q an;rw [I.out q an] at U;obtain⟨y,ab⟩: ∃y,l[q]=y:=⟨_,rfl⟩;rw [ab] at U aa;obtain⟨m',rfl⟩: ∃m',m=m' +1:=⟨m-1,by omega⟩;have aw:GF f l.length 0 l.length=if f q<0 then GF f m' (q+1) hi else GF f m' lo q:=by
     have ao:=ag.out
     conv at ao=>rhs;unfold GF
     rw [if_pos az,<-au] at ao;exact ao
    have ax:=Zh aw;have ac:=Zh U;clear Z U aw au ag ab;have w2:IntKind.i64.wrap ((q:Int)+1)=(q:Int)+1:=(by rw [IntKind.wrap_i64];omega);go_wp2_with fail;refine ac.mono ?_;rintro e aB ⟨rfl,ae⟩;have ah:=Zh (d.trans (ae.mono d.size));clear ae ac d aa;by_cases ai:f q<0
    . have aC:decide (f q<0)=true:=decide_eq_true ai
      have aq:Hid (GF f l.length 0 l.length=GF f m' (q+1) hi):=Zh (by rw [ax.out,if_pos ai]);go_wp2;go_roundw
      case rel=>exact⟨m',q+1,hi,by omega,ay,by go_num,rfl,by omega,aq,ah⟩
      case measure=>simp [intOf];omega
    . have aC:decide (f q<0)=false:=decide_eq_false ai
      have aq:Hid (GF f l.length 0 l.length=GF f m' lo q):=Zh (by rw [ax.out,if_neg ai]);go_wp2;go_roundw
      case rel=>exact⟨m',lo,q,by omega,by omega,rfl,by go_num,by omega,aq,ah⟩
      case measure=>simp [intOf];omega
  . obtain rfl:lo=hi:=by omega
    have aj:Hid (DJ R l key=lo):=Zh (by rw [O.out,ag.out,Wf]);clear ag;by_cases af:lo<l.length
    . obtain⟨b,o,rfl,aA,Z⟩:=hN.out lo af
      have aa:=Z wr d.out;have U:=V.out wr d lo af;rw [I.out lo af] at U;obtain⟨y,ab⟩: ∃y,l[lo]=y:=⟨_,rfl⟩;rw [ab] at U aa;have ac:=Zh U;clear Z U ab;have ar:Hid (Gx R l key=(f lo==0)):=Zh (by rw [J.out,aj.out,decide_eq_true af,Bool.true_and];rfl);go_wp2_with fail;refine ac.mono ?_;rintro e aB ⟨rfl,ae⟩;have ah:=Zh (d.trans (ae.mono d.size));clear ae ac d aa;go_wp2
      go_ret2
      exact⟨by rw [aj.out,ar.out];rfl,ah⟩
    . have ar:Hid (Gx R l key=false):=Zh (by rw [J.out,aj.out,decide_eq_false af,Bool.false_and])
      go_wp2
      go_ret2
      exact⟨by rw [aj.out,ar.out];rfl,d⟩):=h
def Yjp{P}(h:P:=by
 have hN:=Zh (λk (d:k<l.length)=>U.num d);have I:Hid (∀i (hi:i<l.length),Tx.cmp (BH R l[i]) key=JI R l key i):=Zh (λi hi=>by unfold JI;simp [hi]);have O:Hid (DJ R l key=GF (JI R l key) l.length 0 l.length):=Zh rfl;have J:Hid (Gx R l key=(decide (DJ R l key<l.length)&&decide (JI R l key (DJ R l key)=0))):=Zh rfl;exact And.intro hN (And.intro I (And.intro O J))):=h
theorem RT(h:Rd N w s R nn)(Z:Ba R)(c0:w.cell? ⟨bt,0,none⟩=some (.pointer (some ⟨s,0,none⟩)))(c1:w.cell? ⟨bt,1,none⟩=some (.int .i64 t)){A:Option Addr}{c:Nat}{l:List Nat}(U:AJ w F A (AG l))(aa:l.length<=4398046511104)(hx: ∀i (hi:i<l.length),l[i]<18446744073709551616)(key:ByteArray):
 Calls prog 74 #[.slice A l.length c, .string key, .func (.func 136) #[] #[.pointer (some ⟨bt,0,none⟩)]] w λe w' =>e= .returned (.tuple #[.int .i64 (DJ R l key:Nat), .bool (Gx R l key)])/\Below w.heap.size w w' :=by
 have V:=Zh (λW (d:Below w.heap.size w W) i (hi:i<l.length)=>Wi (h.below d) Z (t:=t) ((d.cell (p:=⟨bt,0,none⟩) (Al c0)).trans c0) ((d.cell (p:=⟨bt,1,none⟩) (Al c1)).trans c1) l[i] (hx i hi) key);obtain⟨hN,I,O,J⟩:=Yjp;clear h U c0 c1;exact Yac
end
section
variable {w w':World} {s N:Nat} {R:Zr} {nn:Nat}
def Ydl{P}(h:P:=by
 refine d.mono ?_;rintro e w3 ⟨rfl,I⟩;have J:=Zh (aI.trans (I.mono aI.size));clear I;go_wp2
 go_ret2
 exact⟨rfl,J⟩):=h
def G5{P}(h:P:=by
 have d:Below w.heap.size w O:=by rw [ae];exact(Below.refl _ w).alloc (Nat.le_refl _) _
 exact d):=h
def LJ{P}(h:P:=by
 have aI:=Zh J;have d:=Zh (And.intro ae aa);exact And.intro aI d):=h
theorem GX(h:Rd N w s R nn)(af:Ba R){v:Value}{n:BN}(ah:CX w F v n)(t:Nat)(hx: ∀i (hi:i<n.keys.length),n.keys[i]<18446744073709551616)(key:ByteArray):
 Calls prog 84 #[.agg #[.pointer (some ⟨s,0,none⟩), .int .i64 t],v, .string key] w λe w' =>e= .returned (.tuple #[.int .i64 (DJ R n.keys key:Nat), .bool (Gx R n.keys key)])/\Below w.heap.size w w' :=by
 obtain⟨⟨ai,Z,aj,al,an,ci,rfl,k1,k2,ao⟩,l1,l2,l3⟩:=ah;obtain⟨O,ae⟩:=Zx (w.alloc (Obj.cells #[.pointer (some ⟨s,0,none⟩), .int .i64 t] 96));have I:=G5;have ab:An O w.heap.size 96 [.pointer (some ⟨s,0,none⟩), .int .i64 t]:=by rw [ae];exact An.new w 96 [.pointer (some ⟨s,0,none⟩), .int .i64 t]
 obtain⟨am,aa⟩:=Zx (O.alloc (Obj.cells #[.slice ai n.keys.length Z, .slice aj n.Ab.length al, .slice an n.kids.length ci, .int .u64 n.size] 100));have U:=Yhq;have J:=I.trans (U.mono I.size);have V:=ab.below U;have d:=Zh (RT (h.below J) af (t:=t) (V.at' (i:=0) rfl) (V.at' (i:=1) rfl) (c:=Z) (k1.Ar (Ad.below (F:=F) J)) l1 hx key);obtain⟨aI,ac⟩:=LJ;clear h I ab U J V ae aa k1 k2 ao hx;generalize DJ R n.keys key=aq at*;generalize Gx R n.keys key=ar at*;go_enter func84,ntmps84;go_wp2_with fail;rw [<-ac.1,<-ac.2];exact Ydl
end
def ZA(l:List Nat):Prop:= ∀i (hi:i<l.length),l[i]<18446744073709551616
section
variable {w w':World} {s N:Nat} {R:Zr} {nn:Nat}
theorem BR(h:Rd N w s R nn)(I:BN.A1 t){x:Nat}(he:Bm R t x=0):
 (Ag R t x).Fits t/\ZA (Ag R t x).keys/\ZA (Ag R t x).Ab/\ZA (Ag R t x).kids/\(Ag R t x).size<18446744073709551616:=by
 obtain⟨O,U⟩:=(Py I).1 he;generalize Ag R t x=n at*;obtain⟨-,-,hu⟩:=h.u64 O;have t1:=I.1;obtain⟨f1,f2,f3⟩:=U;have key: ∀i,i<6*t->n.Dm t i<18446744073709551616:=λi hi=>by
  have h1:i<(n.wd t).length:=by rw [BN.B6];exact hi
  have d:=hu i h1
  rwa [BN.U0] at d
 refine⟨⟨f1,f2,f3⟩,λi hi=> ?_,λi hi=> ?_,λi hi=> ?_, ?_⟩
 . have d:=key (2+2*i) (by omega)
   rw [BN.QA (by omega)] at d
   simpa [hi] using d
 . have d:=key (2+2*i+1) (by omega)
   rw [BN.Qj (by omega)] at d
   simpa [hi] using d
 . have V:i<2*t:=by
    rcases f3 with J|J
    . rw [J] at hi;simp at hi
    . omega
   have d:=key (4*t+i) (by omega);rw [BN.MN t1] at d
   simpa [hi] using d
 . have d:=key 1 (by omega)
   rwa [BN.at_one] at d
theorem GU(h:Rd N w s R nn)(d:BN.A1 t):
 Calls prog 42 #[.pointer (some ⟨s,0,none⟩), .int .i64 t] w λe w' =>e= .returned (.int .i64 0)/\w=w' :=by
 have aq:=HF h 0 (by decide);obtain⟨V,lb,I,J⟩:=E2 R 0;rw [I] at aq;obtain⟨_,O⟩:=XV;have t1:=d.1;have d2:(((6*t:Nat):Int)==0)=false:=by simp;omega
 have U:=Zh (Ii d w);clear h aq I J;generalize 6*t=tw at*;go_enter func42,ntmps42;go_wp2_with fail;refine O.mono ?_;rintro e w2 ⟨rfl,rfl⟩;go_wp2_with fail;refine U.mono ?_;rintro e w2 ⟨rfl,rfl⟩;go_wp2;go_ret;exact⟨rfl,rfl⟩
end
