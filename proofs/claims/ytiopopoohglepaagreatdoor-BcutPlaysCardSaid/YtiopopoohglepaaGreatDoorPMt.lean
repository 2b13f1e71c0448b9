/- A part. -/
import Derived.Test.YtiopopoohglepaaGreatDoorPMs
import Derived.Laws.EntriesVeiled
set_option linter.all false
set_option maxRecDepth 100000
set_option maxHeartbeats 8000000
namespace Go.Proofs.YtiopopoohglepaaGreatDoor
open Go.Proofs.Tryz
open Go.RowKit Go.Shelf
variable {B D b b6 b7 er k t x:Nat}{R:Zr}{W w:World}{n:BN}{v1 v2 v3:Value}{ws:List Nat}
attribute [local go_sem] Oper.semAt_some Ec
theorem OE{F:Fence}{n:Nat}{P:Program}{c:Code}{Q:Exit->Act->World->Prop}{a:Act}(h:c.wpIn F n P (K5 Q) a w):c.wpIn F n P Q a w:=
 wpIn_mono h (λe a w hh=>by cases e<;>first|exact hh|exact hh.elim)
def Cd(W:World)(b6 b7:Nat)(v1 v2 v3 v4 e:Value):World:=((((W.setCell ⟨b6,0,none⟩ v1).setCell ⟨b6,1,none⟩ v2).setCell ⟨b6,2,none⟩ v3).setCell ⟨b6,3,none⟩ v4).setCell ⟨b7,0,none⟩ e
theorem Dk{J O:TypeId}{u1 u2 u3 U V:Value}(Z:An W b6 J [u1,u2,u3,U])(aa:An W b7 O [V])(I:b6≠b7)(v1 v2 v3 v4 e:Value):An (Cd W b6 b7 v1 v2 v3 v4 e) b6 J [v1,v2,v3,v4]/\An (Cd W b6 b7 v1 v2 v3 v4 e) b7 O [e]:=by
 have ab:=((((Z.set 0 v1).set 1 v2).set 2 v3).set 3 v4);have a2:=((((aa.other (p:=⟨b6,0,none⟩) (Ne.symm I) v1).other (p:=⟨b6,1,none⟩) (Ne.symm I) v2).other (p:=⟨b6,2,none⟩) (Ne.symm I) v3).other (p:=⟨b6,3,none⟩) (Ne.symm I) v4);exact⟨ab.other (p:=⟨b7,0,none⟩) I e,a2.set 0 e⟩
theorem EO{m:Nat}(h:Below m w W)(I:m<=b6)(J:m<=b7)(v1 v2 v3 v4 e:Value):Below m w (Cd W b6 b7 v1 v2 v3 v4 e):=
 ((((h.setCell (p:=⟨b6,0,none⟩) I v1).setCell (p:=⟨b6,1,none⟩) I v2).setCell (p:=⟨b6,2,none⟩) I v3).setCell (p:=⟨b6,3,none⟩) I v4).setCell (p:=⟨b7,0,none⟩) J e
def EU(ws:List Nat)(k:Nat):List Nat:=(List.range k).map λi=>ws.getD (2+2*i) 0
def EW(ws:List Nat)(k:Nat):List Nat:=(List.range k).map λi=>ws.getD (2+2*i+1) 0
def FO(t:Nat)(ws:List Nat)(k:Nat):List Nat:=(List.range k).map λi=>ws.getD (4*t+i) 0
theorem Jo(ws:List Nat)(k:Nat):(EU ws k).length=k:=by simp [EU]
theorem Jh(ws:List Nat)(k:Nat):(EW ws k).length=k:=by simp [EW]
theorem Jm(t:Nat)(ws:List Nat)(k:Nat):(FO t ws k).length=k:=by simp [FO]
theorem Hw(l:List Nat)(y:Nat):AF (l++ [y])=AF l++ [.int .u64 y]:=by simp [AF]
theorem Uf(h:2+2*k<ws.length):EU ws (k+1)=EU ws k++ [ws[2+2*k]]:=by
 unfold EU;rw [List.range_succ,List.map_append];simp [h]
theorem UZ(h:2+2*k+1<ws.length):EW ws (k+1)=EW ws k++ [ws[2+2*k+1]]:=by
 unfold EW;rw [List.range_succ,List.map_append];simp [h]
theorem Tv(h:4*t+k<ws.length):FO t ws (k+1)=FO t ws k++ [ws[4*t+k]]:=by
 unfold FO;rw [List.range_succ,List.map_append];simp [h]
def Od(w:World)(R:Zr)(t x:Nat)(e:Ending)(w' :World):Prop:=
 ∃v1 v2 v3,e= .returned (.tuple #[.agg #[v1,v2,v3, .int .u64 ((Af R t x).size:Nat)], .int .i64 (Bk R t x:Nat)])/\AS w' w.heap.size v1 (Af R t x).keys v2 (Af R t x).Ab v3 (Af R t x).kids/\Below w.heap.size w w'
theorem K4{T:TypeId}{vs:List Value}(h:An W b T vs)(I:b≠D)(o:Obj):An (W.putObj D o) b T vs:=h.block (World.putObj_heap_other I)
theorem YX{sz lim kid0:Nat}(h0:ws.getD 0 0=k)(h1:ws.getD 1 0=sz)(I:ws.getD (4*t) 0=kid0)(J:lim=if kid0=0 then 0 else k+1):(⟨EU ws k,EW ws k,FO t ws lim,sz⟩:BN)=BN.Rj t ws:=by
 unfold BN.Rj EU EW FO;rw [h0,h1,I,J]
 split<;>simp
theorem YS(J:ws.length=6*t)(xs:List {z:Nat // z<(n.wd t).length})(O:xs.map (λz=>z.1)=List.range (n.wd t).length)(U: ∀z∈xs,ws.getD z.1 0=(n.wd t)[z.1]'z.2):n.wd t=ws:=by
 refine List.ext_getElem (by rw [BN.B0,J]) (λi h1 V=> ?_);have hm:i∈xs.map (λz=>z.1):=by rw [O];exact List.mem_range.2 h1
 obtain⟨z,Z,rfl⟩:=List.mem_map.1 hm;have I:=U z Z;rw [List.getD_eq_getElem?_getD,List.getElem?_eq_getElem V] at I;exact I.symm
theorem JE(I:b≠b6)(J:b≠b7)(v1 v2 v3 v4 e:Value):(Cd W b6 b7 v1 v2 v3 v4 e).heap[b]? =W.heap[b]? :=by
 unfold Cd;rw [Below.heap_setCell _ ⟨b7,0,none⟩ _ b J,Below.heap_setCell _ ⟨b6,3,none⟩ _ b I,Below.heap_setCell _ ⟨b6,2,none⟩ _ b I,Below.heap_setCell _ ⟨b6,1,none⟩ _ b I,Below.heap_setCell _ ⟨b6,0,none⟩ _ b I]
theorem ND(W:World)(N b6 b7:Nat)(v1 v2 v3 v4 e:Value):KeepsFrom N W (Cd W b6 b7 v1 v2 v3 v4 e):=
 (((((KeepsOthers.setCell _ _ _).trans (KeepsOthers.setCell _ _ _)).trans (KeepsOthers.setCell _ _ _)).trans (KeepsOthers.setCell _ _ _)).trans (KeepsOthers.setCell _ _ _)).from _
theorem AS.lower{B':Nat}{l1 l2 l3:List Nat}(h:AS W B v1 l1 v2 l2 v3 l3)(O:B' <=B):AS W B' v1 l1 v2 l2 v3 l3:=
 ⟨⟨h.r1.1,h.r1.2.imp id (λ⟨g,cap,cur,h1,I,J⟩=>⟨g,cap,cur,h1,Nat.le_trans O I,J⟩)⟩,⟨h.r2.1,h.r2.2.imp id (λ⟨g,cap,cur,h1,I,J⟩=>⟨g,cap,cur,h1,Nat.le_trans O I,J⟩)⟩,⟨h.r3.1,h.r3.2.imp id (λ⟨g,cap,cur,h1,I,J⟩=>⟨g,cap,cur,h1,Nat.le_trans O I,J⟩)⟩,h.a12,h.Ow,h.a23⟩
theorem Ur{w4:World}{o:Obj}(O:Af R t x=n)(U:Bk R t x=0)(V:AS w4 B v1 n.keys v2 n.Ab v3 n.kids)(Z:w.heap.size<=B)(aa:w.heap.size<=b6)(ab:w.heap.size<=b7)(ae:b6<B)(af:b7<B)(I:Below w.heap.size w w4)(J:Below w4.heap.size w4 W)(ag:w4.heap.size<=D)(ah:D<W.heap.size):
 Od w R t x (.returned (.tuple #[.agg #[v1,v2,v3, .int .u64 n.size], .int .i64 0])) ((Cd W b6 b7 v1 v2 v3 (.int .u64 n.size) (.int .i64 0)).putObj D o):=by
 unfold Od;rw [O,U];have hs:=EO (I.trans (J.mono I.size)) aa ab v1 v2 v3 (.int .u64 n.size) (.int .i64 0);have ai:=I.size;refine⟨v1,v2,v3,rfl, ?_,hs.grown (grownBy_putObj' _ D o) hs.size (λk e=>by cases e;omega)⟩;refine(V.keep λb aj ac=> ?_).lower Z;exact(World.putObj_heap_other (show b≠D by omega)).trans ((JE (by omega) (by omega) _ _ _ _ _).trans (J.block b ac))
theorem WB(I:Af R t x=BN.zero)(J:Bk R t x=er)(O:Below w.heap.size w W):
 Od w R t x (.returned (.tuple #[.agg #[.slice none 0 0, .slice none 0 0, .slice none 0 0, .int .u64 0], .int .i64 er])) W:=by
 unfold Od;rw [I,J];exact⟨_,_,_,rfl,AS.nil _ _,O⟩
theorem HZ(I:Af R t x=BN.zero)(J:Bk R t x=er)(O:Below w.heap.size w W)(U:w.heap.size<=b6)(V:w.heap.size<=b7):
 Od w R t x (.returned (.tuple #[.agg #[.slice none 0 0, .slice none 0 0, .slice none 0 0, .int .u64 0], .int .i64 er])) (Cd W b6 b7 (.slice none 0 0) (.slice none 0 0) (.slice none 0 0) (.int .u64 0) (.int .i64 er)):=by
 unfold Od;rw [I,J];exact⟨_,_,_,rfl,AS.nil _ _,EO O U V _ _ _ _ _⟩
section
variable {w':World} {s N:Nat}  {nn:Nat}
def Yad{P}(h:P:=by
 rintro l pre ⟨z,ab⟩ a' W ai ⟨r,aj⟩ ⟨I,O⟩ rfl hlen;dsimp only;have V :z<ws.length:=by rw [aK,<-BN.B0 t n];exact ab
 have ac:=aD.trans (I.mono aD.size);have Z:=CallsIn.inRound l ((callsIn_wide (n:=6)).2 (Vk (bi.below ac) al V ((u3.below I).at' (i:=0) rfl) ((a4.below I).at' (i:=0) rfl)));have an:=(a5.below I).at' (i:=0) rfl;obtain⟨y,aa⟩: ∃y,ws[z]=y:=⟨_,rfl⟩;rw [aa] at Z;have ae:=Zh Z;clear Z;generalize hd:(n.wd t)[z]=d;have ag:=Zh aa;have ah:=Zh hd;clear aa hd;by_cases a0:y=d
 . have bE:((y:Int) !=(d:Int))=false:=by simp [a0]
   have U:Hid (KeepsFrom w4.heap.size W W/\BY b bx W W/\Below w4.heap.size w4 W/\ ∀J ∈pre++ [(⟨z,ab⟩:{z:Nat // z<(n.wd t).length})],ws.getD J.1 0=(n.wd t)[J.1]'J.2):=Zh ⟨KeepsFrom.refl _ _,BY.refl _ _ _,I,λJ hm=>by
    rcases List.mem_append.1 hm with af|af
    . exact O J af
    . obtain rfl:=List.mem_singleton.1 af
      simp only;rw [ah.out,List.getD_eq_getElem?_getD,List.getElem?_eq_getElem V,ag.out];exact a0⟩
   clear O a0;gi_wp2_with fail;refine ae.mono ?_;rintro e am ⟨rfl,rfl⟩;gi_wp2;exact U.out
 . have bE:((y:Int) !=(d:Int))=true:=by simp;omega
   have ay: ¬BN.Kh t ws:=λh=>by
    have e:n.wd t=ws:=(by rw [aH.out];exact h.2.2.2);exact a0 (by rw [<-ag.out,<-ah.out];exact List.getElem_of_eq e.symm V)
   have U:Hid (KeepsFrom w4.heap.size W (Cd W b6 b7 (.slice none 0 0) (.slice none 0 0) (.slice none 0 0) (.int .u64 0) (.int .i64 ((8:Nat):Int)))/\Code.ret= .ret/\(An (Cd W b6 b7 (.slice none 0 0) (.slice none 0 0) (.slice none 0 0) (.int .u64 0) (.int .i64 ((8:Nat):Int))) b6 100 [.slice none 0 0, .slice none 0 0, .slice none 0 0, .int .u64 0]/\An (Cd W b6 b7 (.slice none 0 0) (.slice none 0 0) (.slice none 0 0) (.int .u64 0) (.int .i64 ((8:Nat):Int))) b7 25 [.int .i64 ((8:Nat):Int)])/\Below w.heap.size w (Cd W b6 b7 (.slice none 0 0) (.slice none 0 0) (.slice none 0 0) (.int .u64 0) (.int .i64 ((8:Nat):Int)))/\ ¬BN.Kh t ws):=Zh ⟨ND _ _ _ _ _ _ _ _ _,rfl,Dk (aV.below I) (a6.below I) aX _ _ _ _ _,EO ac g6 g7 _ _ _ _ _,ay⟩;obtain⟨bD,bv,bF,bz⟩:=C5 (aV.below I);have bs:=(a6.below I).at' (i:=0) rfl;have bB:=(aV.below I).free 0;have bC:=(aV.below I).free 1;have bu:=(aV.below I).free 2;have bA:=(aV.below I).free 3;have bw:=(a6.below I).free 0;unfold Cd at U;clear O a0 ay;gi_wp2_with fail;refine ae.mono ?_;rintro e am ⟨rfl,rfl⟩;gi_wp2;exact⟨U.1,rfl,U.2.2⟩):=h
def Yae{P}(h:P:=by
 rintro D' xs W am ac ⟨I,ae⟩ ag;obtain⟨J,c2,rfl⟩: ∃A c,v2= .slice A k c:=by have af:=Ae aY.r2;rw [Jh] at af;exact af
 obtain⟨O,c3,rfl⟩: ∃A c,v3= .slice A j c:=by have af:=Ae aY.r3;rw [Jm] at af;exact af
 have he:n.wd t=ws:=YS aK xs ac ae;have V:BN.Kh t ws:=⟨aK,by rw [a9.out];omega,by rw [<-aH.out];exact bj.out,by rw [<-aH.out];exact he⟩;have ah:Af R t x=n:=by unfold Af;rw [al];exact(if_pos V).trans aH.symm
 have ai:Bk R t x=0:=by unfold Bk;rw [al];exact if_pos V
 have an:D' <W.heap.size:=(Array.getElem?_eq_some_iff.1 ag).1;have aj:=aY.out;have U:=Ur (w:=w) (w4:=w4) (W:=W) (b6:=b6) (b7:=b7) (D:=D') (o:= .deferred none) ah ai (B:=b13+1) (v1:= .slice az k c1) (v2:= .slice J k c2) (v3:= .slice O j c3) (by rw [aM.out];exact aj) (by omega) g6 g7 bb a7 aD I am an;rw [show n.size=sz by rw [aM.out]] at U;have Z:=Dk (aV.below I) (a6.below I) aX (.slice az k c1) (.slice J k c2) (.slice O j c3) (.int .u64 (sz:Nat)) (.int .i64 0);have aa:=And.intro (K4 Z.1 (show b6≠D' by omega) (.deferred none)) (K4 Z.2 (show b7≠D' by omega) (.deferred none));have ab:=(JE (W:=W) (b6:=b6) (b7:=b7) (b:=D') (by omega) (by omega) (.slice az k c1) (.slice J k c2) (.slice O j c3) (.int .u64 (sz:Nat)) (.int .i64 0)).trans ag;unfold Cd at U aa ab;obtain⟨aw,ax,ay,aA⟩:=C5 (ba.below I);obtain⟨bD,bv,bF,bz⟩:=C5 (aV.below I);have bs:=(a6.below I).at' (i:=0) rfl;have bB:=(aV.below I).free 0;have bC:=(aV.below I).free 1;have bu:=(aV.below I).free 2;have bA:=(aV.below I).free 3;have bw:=(a6.below I).free 0;have aB:=Zh U;have ar:=Zh aa;have ao:=Zh ab;clear U Z aa ab ae ac V ah ai he aj;gi_wp2;refine⟨by simp, .inl ⟨_,_,rfl,run_takeDeferred ao, ?_⟩⟩;refine⟨.tuple #[.agg #[.slice az k c1, .slice J k c2, .slice O j c3, .int .u64 (sz:Nat)], .int .i64 0], ?_,aB⟩;obtain⟨aq,r1,r2,r3⟩:=C5 ar.1;have au:=ar.2.at' (i:=0) rfl;simp [results,f68,go_sem,aq,r1,r2,r3,au]):=h
def Yam{P}(h:P:=by
 rw [decide_eq_false aC];have ay: ¬BN.Kh t ws:=λh=>aC (by rw [aH.out];exact h.2.2.1)
 obtain⟨V,Z,aa,ab⟩:=C5 aU.out;have ac:=aW.at' (i:=0) rfl;have af:=aU.free 0;have ag:=aU.free 1;have ah:=aU.free 2;have ai:=aU.free 3;have aj:=aW.free 0;have U:=HZ (w:=w) (W:=bq) (R:=R) (t:=t) (x:=x) (b6:=b6) (b7:=b7) (er:=8) (by unfold Af;rw [al];exact if_neg ay) (by unfold Bk;rw [al];exact if_neg ay) ae g6 g7;have I:=Dk aU aW aX (.slice none 0 0) (.slice none 0 0) (.slice none 0 0) (.int .u64 0) (.int .i64 ((8:Nat):Int));unfold Cd at U I;have aB:=Zh U;have ar:=Zh I;clear U I ay aC;gi_wp2;refine⟨.tuple #[.agg #[.slice none 0 0, .slice none 0 0, .slice none 0 0, .int .u64 0], .int .i64 8], ?_,aB⟩;obtain⟨J,r1,r2,r3⟩:=C5 ar.1;have O:=ar.2.at' (i:=0) rfl;rw [show(((8:Nat):Int))=8 from rfl] at J r1 r2 r3 O;simp [results,f68,go_sem,J,r1,r2,r3,O]):=h
def Yaq{P}(h:P:=by
 rintro D' aa pre W ab V ⟨rfl,I,O,ay⟩ J;have ar:=Zh (And.intro (K4 I.1 (show b6≠D' by omega) (.deferred none)) (K4 I.2 (show b7≠D' by omega) (.deferred none)));have ac:D' <W.heap.size:=(Array.getElem?_eq_some_iff.1 J).1;have aB:=Zh (WB (w:=w) (R:=R) (t:=t) (x:=x) (er:=8) (by unfold Af;rw [al];exact if_neg ay) (by unfold Bk;rw [al];exact if_neg ay) (O.trans (belowK_b (w:=w4) aD.size W D' _ (.deferred none) (by omega) J rfl rfl)));clear I O ay V;gi_wp2;refine⟨by simp, .inl ⟨_,_,rfl,run_takeDeferred J, ?_⟩⟩;refine⟨.tuple #[.agg #[.slice none 0 0, .slice none 0 0, .slice none 0 0, .int .u64 0], .int .i64 8], ?_,aB⟩;obtain⟨Z,r1,r2,r3⟩:=C5 ar.1;have U:=ar.2.at' (i:=0) rfl;rw [show(((8:Nat):Int))=8 from rfl] at U;simp [results,f68,go_sem,Z,r1,r2,r3,U]):=h
def Yar{P}(h:P:=by
 gi_wp2;refine⟨.tuple #[.agg #[.slice none 0 0, .slice none 0 0, .slice none 0 0, .int .u64 0], .int .i64 8], ?_,aB⟩;obtain⟨I,r1,r2,r3⟩:=C5 ar.1;have J:=ar.2.at' (i:=0) rfl;rw [show(((8:Nat):Int))=8 from rfl] at I r1 r2 r3 J;simp [results,f68,go_sem,I,r1,r2,r3,J]):=h
def Yav{P}(h:P:=by
 rw [aA];have:=(An.new (((w.alloc (Obj.cells #[.pointer (some ⟨s,0,none⟩)] 24)).alloc (Obj.cells #[.int .u64 x] 23)).alloc (Obj.cells #[.slice none 0 0, .slice none 0 0, .slice none 0 0, .int .u64 0] 100)) 25 [.int .i64 0])
 rwa [show(((w.alloc (Obj.cells #[.pointer (some ⟨s,0,none⟩)] 24)).alloc (Obj.cells #[.int .u64 x] 23)).alloc (Obj.cells #[.slice none 0 0, .slice none 0 0, .slice none 0 0, .int .u64 0] 100)).heap.size=w.heap.size+1+1+1 by simp] at this):=h
def Ybd{P}(h:P:=by
 rw [aA];have:=((An.new ((w.alloc (Obj.cells #[.pointer (some ⟨s,0,none⟩)] 24)).alloc (Obj.cells #[.int .u64 x] 23)) 100 [.slice none 0 0, .slice none 0 0, .slice none 0 0, .int .u64 0])).alloc (Obj.cells #[.int .i64 0] 25)
 rwa [show((w.alloc (Obj.cells #[.pointer (some ⟨s,0,none⟩)] 24)).alloc (Obj.cells #[.int .u64 x] 23)).heap.size=w.heap.size+1+1 by simp] at this):=h
def Yhj{P}(h:P:=by
 have aO:=Zh (bc.below ah);have aL:=Zh (bd.below ah);exact And.intro aO aL):=h
def VY{P}(h:P:=by
 have I:=Zh (ao.below aa);have J:=Zh (aE.below aa);exact And.intro I J):=h
def Yhl{P}(h:P:=by
 have I:=Zh (ao.below aw);have a8:=Zh (aE.below aw);exact And.intro I a8):=h
def XX{P}(h:P:=by
 have aV:=Zh (aU.below I);have a6:=Zh (aW.below I);exact And.intro aV a6):=h
def ZK{P}(h:P:=by
 have ah:Below O.heap.size O ag:=by rw [ac];exact(Below.refl _ _).alloc (Nat.le_refl _) _
 exact ah):=h
def Yih{P}(h:P:=by
 have I:Below ag.heap.size ag am:=by rw [ax];exact(Below.refl _ _).alloc (Nat.le_refl _) _
 exact I):=h
def WI{P}(h:P:=by
 have Z:Below ag.heap.size ag wr:=by rw [<-be.out];exact aq.out
 have I:=aI.trans (Z.mono aI.size);exact And.intro Z I):=h
def VB{P}(h:P:=by
 have I:=Zh (And.intro aG (And.intro aQ (And.intro aT aS)));exact I):=h
def Yjh{P}(h:P:=by
 have aH:Hid (n=BN.Rj t ws):=Zh (aN.trans (YX (kid0:=kid0) n0 (by rw [List.getD_eq_getElem?_getD,List.getElem?_eq_getElem (show 1<ws.length by omega),bG.out];rfl) (by rw [List.getD_eq_getElem?_getD,List.getElem?_eq_getElem (show 4*t<ws.length by omega),bk.out];rfl) bf));have an:=aE.MD (F:=λ_=>False) (λ_ h=>h.elim) sz (by rw [Jo];omega) (by rw [Jh];omega) (by rw [Jm];omega);exact And.intro aH an):=h
def Yjl{P}(h:P:=by
 have an:=a8.MD (F:=λ_=>False) (λ_ h=>h.elim) sz (by rw [Jo];omega) (by rw [Jh];omega) (by rw [Jm];omega);exact an):=h
def Yle{P}(h:P:=by
 have I:=a1.trans (aw.mono a1.size);have z3:=Zh ((aO.below aJ).below aw);have z5:=Zh ((aL.below aJ).below aw);have aU:=Zh ((bo.below aJ).below aw);have aW:=Zh ((bm.below aJ).below aw);have z12:=Zh ((aF.below aJ).below aw);exact And.intro I (And.intro z3 (And.intro z5 (And.intro aU (And.intro aW z12))))):=h
def Ymc{P}(h:P:=by
 have I:Below w.heap.size w O:=by rw [aA];exact((((Below.refl _ w).alloc (Nat.le_refl _) _).alloc (by simp) _).alloc (by simp;omega) _).alloc (by simp;omega) _
 exact I):=h
def Ynf{P}(h:P:=by
 have I:=λX:BK wr=>X.cell ((aF.below Z).at' (i:=0) rfl)
 exact I):=h
def Yng{P}(h:P:=by
 have m6:=aV.lt;have m7:=a6.lt;have bb:b6<b13+1:=by have:=bH;have h1:=bo.lt;rw [be.out];omega
 have a7:b7<b13+1:=by have h1:=bm.lt;rw [be.out];omega
 exact And.intro m6 (And.intro m7 (And.intro bb a7))):=h
def Ynj{P}(h:P:=by
 have J:=Zh (Ns a2 bg br (by rw [BN.B0];omega));have O:bx<w4.heap.size:=Am a2;have u3:=Zh (z3.below I);have a4:=Zh (z5.below I);exact And.intro J (And.intro O (And.intro u3 a4))):=h
def Yns{P}(h:P:=by
 have I:=aP.out wr bh (4*t) (by omega) ((aO.below aR).at' (i:=0) rfl) ((aL.below aR).at' (i:=0) rfl);exact I):=h
def Yob{P}(h:P:=by
 have n0:ws.getD 0 0=k:=by rw [List.getD_eq_getElem?_getD,List.getElem?_eq_getElem a3,bp.out];rfl
 exact n0):=h
def Yot{P}(h:P:=by
 have I:=Zh (aq.trans (aa.mono (by omega)));exact I):=h
def Yox{P}(h:P:=by
 have I:wr.heap.size<=aj.heap.size:=aa.size;exact I):=h
def Ypl{P}(h:P:=by
 have au:=Zh ((callsIn_wide (n:=8)).2 (NN an t ⟨t1,t2⟩ bj));exact au):=h
def Ypr{P}(h:P:=by
 have I:IntKind.i64.wrap (m:Int)=(m:Int):=by rw [IntKind.wrap_i64];omega
 exact I):=h
def Ypt{P}(h:P:=by
 have a9:=Zh n0;have aM:=Zh aN;have I:=Zh ((callsIn_wide (n:=8)).2 (JO an t ⟨t1,t2⟩));exact And.intro a9 (And.intro aM I)):=h
def Ypy{P}(h:P:=by
 have aa:Below wr.heap.size wr aj:=by rw [<-au];exact Ac wr
 exact aa):=h
def Yrf{P}(h:P:=by
 have x6:An O (w.heap.size+1+1) 100 [.slice none 0 0, .slice none 0 0, .slice none 0 0, .int .u64 0]:=by
  exact Ybd
 have x7:An O (w.heap.size+1+1+1) 25 [.int .i64 0]:=by
  exact Yav
 exact And.intro x6 x7):=h
def Yrs{P}(h:P:=by
 have a5:=Zh (z12.below I);have ba:=Zh (aZ.below I);have aY:=Zh (a8.below I);have aD:=Dt;exact And.intro a5 (And.intro ba (And.intro aY aD))):=h
theorem Lv(h:Rd N w s R nn)(t:Nat)(cP:BN.A0 t)(x:Nat)(hx:x<18446744073709551616):
 Calls prog 68 #[.pointer (some ⟨s,0,none⟩), .int .i64 t, .int .u64 x] w (Od w R t x):=by
 refine(callsIn_wide (n:=9)).1 ?_;have cX:=OO;have t1:=cP.1;have t2:=cP.2;have bi:=Zh h;have ai:=λW (bN:Below w.heap.size w W)=>(callsIn_wide (n:=8)).2 (Gx (h.below bN) 0 (by decide))
 obtain⟨cd,lb,ce,dw⟩:=C9 R 0;rw [ce] at ai;obtain⟨_,dd⟩:=Qz;have de:=Zh (λW=>(callsIn_wide (n:=8)).2 (LH cP W));have cv:=Zh (λW (bN:Below w.heap.size w W)=>(callsIn_wide (n:=8)).2 (Gx (h.below bN) x hx));obtain⟨O,aA⟩:=Zx ((((w.alloc (Obj.cells #[.pointer (some ⟨s,0,none⟩)] 24)).alloc (Obj.cells #[.int .u64 x] 23)).alloc (Obj.cells #[.slice none 0 0, .slice none 0 0, .slice none 0 0, .int .u64 0] 100)).alloc (Obj.cells #[.int .i64 0] 25));have df:=Ymc;have cz:O.heap.size=w.heap.size+4:=by rw [aA];simp
 have cQ:An O w.heap.size 24 [.pointer (some ⟨s,0,none⟩)]:=by rw [aA];exact(((An.new w 24 [.pointer (some ⟨s,0,none⟩)]).alloc _).alloc _).alloc _
 have cR:An O (w.heap.size+1) 23 [.int .u64 x]:=by
  rw [aA];have:=((An.new (w.alloc (Obj.cells #[.pointer (some ⟨s,0,none⟩)] 24)) 23 [.int .u64 x]).alloc (Obj.cells #[.slice none 0 0, .slice none 0 0, .slice none 0 0, .int .u64 0] 100)).alloc (Obj.cells #[.int .i64 0] 25)
  rwa [show(w.alloc (Obj.cells #[.pointer (some ⟨s,0,none⟩)] 24)).heap.size=w.heap.size+1 by simp] at this
 obtain⟨x6,x7⟩:=Yrf;obtain⟨bK,aG⟩:=Zx w.heap.size;obtain⟨bL,aQ⟩:=Zx (w.heap.size+1);obtain⟨b6,aT⟩:=Zx (w.heap.size+1+1);obtain⟨b7,aS⟩:=Zx (w.heap.size+1+1+1);rw [<-aS] at x7;rw [<-aT] at x6;rw [<-aQ] at cR;rw [<-aG] at cQ;have g6:w.heap.size<=b6:=by omega
 have g7:w.heap.size<=b7:=by omega
 have aX:b6≠b7:=by omega
 have cB:=VB;have dg:=Zh aA;have cf:=Zh df;have b8:=Zh x6;have cw:=Zh x7;have bc:=Zh cQ;have bd:=Zh cR;have c3:=cQ.at' (i:=0) rfl;have c5:=cR.at' (i:=0) rfl;obtain⟨dx,dy,dz,dA⟩:=C5 x6;have c7:=x7.at' (i:=0) rfl;have f60:=x6.free 0;have f61:=x6.free 1;have f62:=x6.free 2;have f63:=x6.free 3;have f7:=x7.free 0;clear h ai dw ce df aA cP cQ cR x6 x7 aG aQ aT aS cz;refine callsIn_of_wp_marks func68 rfl trivial ?_ rfl;refine OE ?_;simp only [ntmps68,List.size_toArray,List.length_cons,List.length_nil,Nat.reduceAdd,Nat.reduceSub,Array.replicate_succ,Array.replicate_zero,List.push_toArray,List.append_toArray,List.nil_append,List.cons_append];gi_wp2_with fail;rw [<-dg.out,<-cB.2.2.2,<-cB.2.2.1,<-cB.2.1,<-cB.1];refine(dd _ cf).mono ?_;rintro e w1 ⟨rfl,rfl⟩;gi_wp2_with fail;refine(de _).mono ?_;rintro e w1 ⟨rfl,rfl⟩;clear dd de cB dg
 cases al:R x with
 |none=>
  rw [J4 al] at cv;have U:=HZ (w:=w) (W:=O) (R:=R) (t:=t) (x:=x) (b6:=b6) (b7:=b7) (er:=7) (by unfold Af;rw [al]) (by unfold Bk;rw [al]) cf g6 g7;have bV:=Dk b8 cw aX (.slice none 0 0) (.slice none 0 0) (.slice none 0 0) (.int .u64 0) (.int .i64 ((7:Nat):Int));unfold Cd at U bV;have aB:=Zh U;have ar:=Zh bV;clear U bV;gi_wp2_with fail;refine(cv _ cf).mono ?_;rintro e w3 ⟨rfl,rfl⟩;gi_wp2;refine⟨.tuple #[.agg #[.slice none 0 0, .slice none 0 0, .slice none 0 0, .int .u64 0], .int .i64 7], ?_,aB⟩;obtain⟨dh,r1,r2,r3⟩:=C5 ar.1;have di:=ar.2.at' (i:=0) rfl;rw [show(((7:Nat):Int))=7 from rfl] at dh r1 r2 r3 di;simp [results,f68,go_sem,dh,r1,r2,r3,di]
 |some ws=>
  rw [H9 al] at cv;have wt:=Ypd;by_cases aK:ws.length=6*t
  . have dl:((ws.length:Int) !=6*(t:Int))=false:=by simp;omega
    obtain⟨-,-,hu⟩:=bi.u64 al;have aP:=Zh (λ(W:World) (bN:Below w.heap.size w W) (i:Nat) (hi:i<ws.length) (q1:W.cell? ⟨bK,0,none⟩=some (.pointer (some ⟨s,0,none⟩))) (dB:W.cell? ⟨bL,0,none⟩=some (.int .u64 x))=>(callsIn_wide (n:=8)).2 (Vk (bi.below bN) al hi q1 dB));have cY:=Zh hu;clear hu;gi_wp2_with fail;refine(cv _ cf).mono ?_;rintro e w3 ⟨rfl,rfl⟩;gi_wp2_with fail;obtain⟨ag,ac⟩:=Zx (O.alloc (Obj.cells #[.func (.func 120) #[] #[.pointer (some ⟨bK,0,none⟩), .pointer (some ⟨bL,0,none⟩)]] 194));obtain⟨b12,b9⟩:=Zx O.heap.size;have DY:An ag b12 194 [.func (.func 120) #[] #[.pointer (some ⟨bK,0,none⟩), .pointer (some ⟨bL,0,none⟩)]]:=(by rw [ac,b9];exact An.new O 194 [.func (.func 120) #[] #[.pointer (some ⟨bK,0,none⟩), .pointer (some ⟨bL,0,none⟩)]]);have ah:=ZK;rw [<-ac,<-b9];have cT:=cf.trans (ah.mono cf.size);have cC:=(bc.below ah).at' (i:=0) rfl;have cD:=(bd.below ah).at' (i:=0) rfl;have dW:=DY.at' (i:=0) rfl;obtain⟨dC,dD,dE,dF⟩:=C5 (b8.below ah);have dG:=(cw.below ah).at' (i:=0) rfl;have dH:=(b8.below ah).free 0;have dI:=(b8.below ah).free 1;have dJ:=(b8.below ah).free 2;have dK:=(b8.below ah).free 3;have dL:=(cw.below ah).free 0;have dX:=DY.lt;have dY:=(b8.below ah).lt;have dZ:=(cw.below ah).lt;have aI:=Zh cT;obtain⟨aO,aL⟩:=Yhj;have bo:=Zh (b8.below ah);have bm:=Zh (cw.below ah);have aF:=Zh DY;have a3:0<ws.length:=(by omega);obtain⟨m,hm⟩: ∃m,ws[0]=m:=⟨_,rfl⟩;obtain⟨sz,cU⟩: ∃sz,ws[1]'(by omega)=sz:=⟨_,rfl⟩;have dM:=cY.out 0 a3;have dN:=cY.out 1 (by omega);rw [hm] at dM;rw [cU] at dN;have cb:=aP.out ag cT 0 a3 cC cD;have cV:=aP.out ag cT 1 (by omega) cC cD;rw [hm] at cb;rw [cU] at cV;rw [show((0:Nat):Int)=0 from rfl] at cb;rw [show((1:Nat):Int)=1 from rfl] at cV;have dj:=Zh cb;have dk:=Zh cV;have bp:=Zh hm;have bG:=Zh cU;have d0:IntKind.i64.wrap (2*(t:Int))=2*(t:Int):=(by rw [IntKind.wrap_i64];omega);have d2:IntKind.i64.wrap (2*(t:Int)-1)=2*(t:Int)-1:=(by rw [IntKind.wrap_i64];omega);have d3:IntKind.u64.wrap (2*(t:Int)-1)=2*(t:Int)-1:=(by rw [IntKind.wrap_u64];omega);clear c3 c5 dx dy dz dA c7 f60 f61 f62 f63 f7 ac b9 DY ah cT cb cV hm cU cv;refine dj.mono ?_;rintro e w4 ⟨rfl,rfl⟩;by_cases d4:2*t-1<m
    . have dO:decide (2*(t:Int)-1<(m:Int))=true:=decide_eq_true (by omega)
      have ay: ¬BN.Kh t ws:=(λh=>by have af:=h.2.1;rw [List.getD_eq_getElem?_getD,List.getElem?_eq_getElem a3,bp.out] at af;simp at af;omega);have U:=HZ (w:=w) (W:=ag) (R:=R) (t:=t) (x:=x) (b6:=b6) (b7:=b7) (er:=8) (by unfold Af;rw [al];exact if_neg ay) (by unfold Bk;rw [al];exact if_neg ay) aI g6 g7;have bV:=Dk bo bm aX (.slice none 0 0) (.slice none 0 0) (.slice none 0 0) (.int .u64 0) (.int .i64 ((8:Nat):Int));unfold Cd at U bV;have aB:=Zh U;have ar:=Zh bV;clear U bV;exact Yar
    . have dO:decide (2*(t:Int)-1<(m:Int))=false:=decide_eq_false (by omega)
      clear dH dI dJ dK dL dC dD dE dF dG;gi_wp2_with fail;refine dk.mono ?_;rintro e w4 ⟨rfl,rfl⟩;gi_wp2_with fail;obtain⟨am,ax⟩:=Zx (ag.alloc (Obj.cells #[.slice none 0 0, .slice none 0 0, .slice none 0 0, .int .u64 (sz:Nat)] 100));obtain⟨b13,cx⟩:=Zx ag.heap.size;have EJ:An am b13 100 [.slice none 0 0, .slice none 0 0, .slice none 0 0, .int .u64 (sz:Nat)]:=(by rw [ax,cx];exact An.new ag 100 [.slice none 0 0, .slice none 0 0, .slice none 0 0, .int .u64 (sz:Nat)]);have b9:=Yih;have cF:am.heap.size=b13+1:=(by rw [ax,cx];simp);rw [<-ax,<-cx];have dm:=aI.trans (b9.mono aI.size);have cb:=aP.out am dm 0 a3 ((b9.cell (p:=⟨bK,0,none⟩) (Am cC)).trans cC) ((b9.cell (p:=⟨bL,0,none⟩) (Am cD)).trans cD);rw [bp.out] at cb;rw [show((0:Nat):Int)=0 from rfl] at cb;have dP:=Zh cb;have dn:=Zh EJ;have be:=Zh cx;have d5:=Ypr;have bH:w.heap.size<=b13:=(by have:=aI.size;omega);have dp:Hid (AS am (b13+1) (.slice none 0 0) (EU ws 0) (.slice none 0 0) (EW ws 0) (.slice none 0 0) []):=Zh (AS.nil _ _);have dq:Hid (Below b13 ag am):=Zh (by rw [cx];exact b9);clear cC cD ax cx EJ b9 dm cb dj dk cF;refine dP.mono ?_;rintro e w4 ⟨rfl,rfl⟩;obtain⟨i0,hi,cz,cZ,cF⟩:=info_parts Tryz.Qx;gi_wp2_with fail
      gi_loopw [63] (λcu wr=> ∃(k:Nat) (v1 v2:Value),k<=m/\cu= .int .i64 k/\Hid (An wr b13 100 [v1,v2, .slice none 0 0, .int .u64 (sz:Nat)])/\Hid (AS wr (b13+1) v1 (EU ws k) v2 (EW ws k) (.slice none 0 0) [])/\Hid (Below b13 ag wr)) (λcu _=>m-(intOf cu).toNat)
      case atStart=>exact⟨0,_,_,by omega,rfl,dn,dp,dq⟩
      case round=>
       obtain⟨k,v1,v2,d6,rfl,ao,aE,aq⟩:=hrel;clear dp dq dn;by_cases dr:k<m
       . skip
         obtain⟨_,_,w3⟩:=Ykq;obtain⟨Z,bO⟩:=WI;have cg:=(λX:BK wr=>X.cell (ao.at' (i:=0) rfl));have ci:=Ynf;obtain⟨y,bW⟩: ∃y,ws[2+2*k]'(by omega)=y:=⟨_,rfl⟩;have bQ:=(λW (bN:Below wr.heap.size wr W)=>aP W (bO.trans (bN.mono bO.size)) (2+2*k) (by omega) ((bN.cell (p:=⟨bK,0,none⟩) ((aO.below Z).lt)).trans ((aO.below Z).at' (i:=0) rfl)) ((bN.cell (p:=⟨bL,0,none⟩) ((aL.below Z).lt)).trans ((aL.below Z).at' (i:=0) rfl)));rw [bW] at bQ;push_cast at bQ;have cj:=Zh bQ;have ce:b13<wr.heap.size:=ao.lt;have ck:Hid (EU ws (k+1)=EU ws k++ [y]):=Zh (by rw [<-bW];exact Uf (by omega));have bX:(EU ws k).length=k:=Jo _ _;clear bW Z bO bQ;gi_wp2;refine Dn (λw' => ∃X:BK wr,w' =X.W) 6 2 8 cX (by kernel_rfl) (by kernel_rfl) (by kernel_rfl) (by kernel_rfl) (by decide) rfl (by kernel_rfl) ⟨⟨_,Ac wr⟩,rfl⟩ (λ_ _ _ _ h=>h) ?_;simp only [List.take_succ_cons,List.take_zero,List.drop_succ_cons,List.drop_zero];refine AU (.pointer (some ⟨b13,0,none⟩)) rfl (by rintro _ ⟨X,rfl⟩;go_simp) (λ_=>rfl) ?_;go_simp;refine AU (v1) rfl (by rintro _ ⟨X,rfl⟩;have:=cg X;go_simp) (λ_=>rfl) ?_;go_simp;refine AU (.func (.func 120) #[] #[.pointer (some ⟨bK,0,none⟩), .pointer (some ⟨bL,0,none⟩)]) rfl (by rintro _ ⟨X,rfl⟩;have:=ci X;go_simp) (λ_=>rfl) ?_;go_simp;refine AU (.int .i64 (k:Nat)) rfl (by rintro _ ⟨X,rfl⟩;go_simp) (λ_=>rfl) ?_;go_simp;refine AU (.int .i64 (2*(k:Int))) rfl (by rintro _ ⟨X,rfl⟩;go_simp) (λ_=>rfl) ?_;go_simp;refine AU (.int .i64 (2+2*(k:Int))) rfl (by rintro _ ⟨X,rfl⟩;go_simp) (λ_=>rfl) ?_;go_simp;refine FR ?_;refine Cw (λcG cl=> ?_);gi_wp2_with fail;refine(cj _ (Ac wr)).mono ?_;rintro e aj ⟨rfl,au⟩;have aa:=Ypy;obtain⟨bP,bY⟩:=VY;have cn:=Yot;have bR:=Zh bY.r1;have co:=Yox;have bZ:=Zh aa;clear au aa cg ci ao aE aq cj;gi_wp2;refine cl _ _ ⟨⟨aj,bZ⟩,rfl⟩ ?_;clear cl cG;refine Cw (λcH cp=> ?_);gi_wp2;refine cp _ _ ⟨⟨_,bZ.alloc co _⟩,rfl⟩ ?_;clear cp cH;refine EH ?_;gi_wp2_with (gi_at_builtin;go_must (refine wpListIn_append_own_at _ rfl _ _ 46 rfl (b13+1) 23 i0 (.int .u64 0) 1 8 Tryz.Gg hi cz cZ cF rfl (by decide) _ _ _ rfl (bR.alloc _) ⟨aj.heap.size,0,none⟩ 1 1 [.int .u64 (y:Nat)] rfl rfl (cell_one_new _ _ _) (by simp [Value.oneCell']) (by unfold maxLen;omega) (by omega) (by simp;omega) ?_);intro v' b3 bI bJ _ bM;obtain⟨cI,cJ,rfl⟩:=ownsRow_succ bI;have cr:=Zh (And.intro bI (And.intro bJ bM));have bS:=Zh (HW bR.out bJ (by omega) bP.lt);have cK:=(bP.block bS.out).at' (i:=0) rfl;have q1:=(bP.block bS.out).free 0;clear bI bJ bM);obtain⟨bI,bJ,bM⟩:=cr.out;obtain⟨bU,b4⟩:=Zx (Value.slice (some ⟨cI,0,none⟩) (k+1) cJ);rw [bX,<-b4] at bI bM;have cs:b3.ownsRow (b13+1) 23 1 bU (EU ws k++ [y]).length (AF (EU ws k++ [y])):=(by rw [Hw,List.length_append,bX];exact bI);have J:=(bY.YJ cs bJ bM).set (b:=b13) (j:=0) (by omega) bU;rw [<-ck.out] at J;have ab:=(bP.block bS).set 0 bU;have V:=(HH cn (by omega) (by omega) bR bJ).setCell (p:=⟨b13,0,none⟩) (Nat.le_refl _) bU;rw [<-b4];clear b4;obtain⟨aE,ao,aq⟩:=EA;clear cK q1 cs J ab V bI bJ bM bP bY cn bR ck bS cr bX ce co bZ;generalize b3.setCell ⟨b13,0,none⟩ bU=bT at*;clear b3;have Z:Below ag.heap.size ag bT:=(by rw [<-be.out];exact aq.out);have bO:=aI.trans (Z.mono aI.size);have cg:=(λX:BK bT=>X.cell (ao.at' (i:=1) rfl));have ci:=(λX:BK bT=>X.cell ((aF.below Z).at' (i:=0) rfl));obtain⟨y,bW⟩: ∃y,ws[2+2*k+1]'(by omega)=y:=⟨_,rfl⟩;have bQ:=(λW (bN:Below bT.heap.size bT W)=>aP W (bO.trans (bN.mono bO.size)) (2+2*k+1) (by omega) ((bN.cell (p:=⟨bK,0,none⟩) ((aO.below Z).lt)).trans ((aO.below Z).at' (i:=0) rfl)) ((bN.cell (p:=⟨bL,0,none⟩) ((aL.below Z).lt)).trans ((aL.below Z).at' (i:=0) rfl)));rw [bW] at bQ;push_cast at bQ;have cj:=Zh bQ;have ce:b13<bT.heap.size:=ao.lt;have ck:Hid (EW ws (k+1)=EW ws k++ [y]):=Zh (by rw [<-bW];exact UZ (by omega));have bX:(EW ws k).length=k:=Jh _ _;clear bW Z bO bQ;gi_wp2;refine Dn (λw' => ∃X:BK bT,w' =X.W) 7 2 9 cX (by kernel_rfl) (by kernel_rfl) (by kernel_rfl) (by kernel_rfl) (by decide) rfl (by kernel_rfl) ⟨⟨_,Ac bT⟩,rfl⟩ (λ_ _ _ _ h=>h) ?_;simp only [List.take_succ_cons,List.take_zero,List.drop_succ_cons,List.drop_zero];refine AU (.pointer (some ⟨b13,1,none⟩)) rfl (by rintro _ ⟨X,rfl⟩;go_simp) (λ_=>rfl) ?_;go_simp;refine AU (v2) rfl (by rintro _ ⟨X,rfl⟩;have:=cg X;go_simp) (λ_=>rfl) ?_;go_simp;refine AU (.func (.func 120) #[] #[.pointer (some ⟨bK,0,none⟩), .pointer (some ⟨bL,0,none⟩)]) rfl (by rintro _ ⟨X,rfl⟩;have:=ci X;go_simp) (λ_=>rfl) ?_;go_simp;refine AU (.int .i64 (k:Nat)) rfl (by rintro _ ⟨X,rfl⟩;go_simp) (λ_=>rfl) ?_;go_simp;refine AU (.int .i64 (2*(k:Int))) rfl (by rintro _ ⟨X,rfl⟩;go_simp) (λ_=>rfl) ?_;go_simp;refine AU (.int .i64 (2+2*(k:Int))) rfl (by rintro _ ⟨X,rfl⟩;go_simp) (λ_=>rfl) ?_;go_simp;refine AU (.int .i64 (2+2*(k:Int)+1)) rfl (by rintro _ ⟨X,rfl⟩;go_simp) (λ_=>rfl) ?_;go_simp;refine FR ?_;refine Cw (λcG cl=> ?_);gi_wp2_with fail;refine(cj _ (Ac bT)).mono ?_;rintro e aj ⟨rfl,au⟩;have aa:Below bT.heap.size bT aj:=(by rw [<-au];exact Ac bT);obtain⟨bP,bY⟩:=VY;have cn:=Yot;have bR:=Zh bY.r2;have co:bT.heap.size<=aj.heap.size:=aa.size;have bZ:=Zh aa;clear au aa cg ci ao aE aq cj;gi_wp2;refine cl _ _ ⟨⟨aj,bZ⟩,rfl⟩ ?_;clear cl cG;refine Cw (λcH cp=> ?_);gi_wp2;refine cp _ _ ⟨⟨_,bZ.alloc co _⟩,rfl⟩ ?_;clear cp cH;refine EH ?_;gi_wp2_with (gi_at_builtin;go_must (refine wpListIn_append_own_at _ rfl _ _ 46 rfl (b13+1) 23 i0 (.int .u64 0) 1 8 Tryz.Gg hi cz cZ cF rfl (by decide) _ _ _ rfl (bR.alloc _) ⟨aj.heap.size,0,none⟩ 1 1 [.int .u64 (y:Nat)] rfl rfl (cell_one_new _ _ _) (by simp [Value.oneCell']) (by unfold maxLen;omega) (by omega) (by simp;omega) ?_);intro v' b3 bI bJ _ bM;obtain⟨cI,cJ,rfl⟩:=ownsRow_succ bI;have cr:=Zh (And.intro bI (And.intro bJ bM));have bS:=Zh (HW bR.out bJ (by omega) bP.lt);have cK:=(bP.block bS.out).at' (i:=1) rfl;have q1:=(bP.block bS.out).free 1;clear bI bJ bM);obtain⟨bI,bJ,bM⟩:=cr.out;obtain⟨cy,b4⟩:=Zx (Value.slice (some ⟨cI,0,none⟩) (k+1) cJ);rw [bX,<-b4] at bI bM;have cs:b3.ownsRow (b13+1) 23 1 cy (EW ws k++ [y]).length (AF (EW ws k++ [y])):=(by rw [Hw,List.length_append,bX];exact bI);have J:=(bY.Ad5 cs bJ bM).set (b:=b13) (j:=1) (by omega) cy;rw [<-ck.out] at J;have ab:=(bP.block bS).set 1 cy;have V:=(HH cn (by omega) (by omega) bR bJ).setCell (p:=⟨b13,1,none⟩) (Nat.le_refl _) cy;rw [<-b4];clear b4;obtain⟨aE,ao,aq⟩:=EA;clear cK q1 cs J ab V bI bJ bM bP bY cn bR ck bS cr bX ce co bZ;generalize b3.setCell ⟨b13,1,none⟩ cy=d7 at*;clear b3;go_roundw
         case rel=>exact⟨k+1,bU,cy,by omega,by go_num,ao,aE,aq⟩
         case measure=>simp [intOf];omega
       . obtain rfl:k=m:=by omega
         obtain⟨az,c1,rfl⟩: ∃A c,v1= .slice A k c:=by have af:=Ae aE.r1;rw [Jo] at af;exact af
         obtain⟨kid0,c8⟩: ∃y,ws[4*t]'(by omega)=y:=⟨_,rfl⟩;have bk:=Zh c8;have dQ:=cY.out (4*t) (by omega);rw [c8] at dQ;obtain⟨lim,c9⟩:=Zx (if kid0=0 then 0 else k+1);have bf:=Zh c9;have d8:lim<=k+1:=by rw [c9];split<;>omega
         clear c9 c8 dr;have d9:IntKind.i64.wrap (4*(t:Int))=4*(t:Int):=(by rw [IntKind.wrap_i64];omega);have ds:Hid (AS wr (b13+1) (.slice az k c1) (EU ws k) v2 (EW ws k) (.slice none 0 0) (FO t ws 0)):=aE;have dt:=Zh ao.out;have du:=Zh aq.out;clear aE ao aq;gi_wp2_with fail
         gi_loopw [15] (λcu wr=> ∃(j:Nat) (v3:Value),j<=lim/\cu= .int .i64 j/\Hid (An wr b13 100 [.slice az k c1,v2,v3, .int .u64 (sz:Nat)])/\Hid (AS wr (b13+1) (.slice az k c1) (EU ws k) v2 (EW ws k) v3 (FO t ws j))/\Hid (Below b13 ag wr)) (λcu _=>lim-(intOf cu).toNat)
         case atStart=>exact⟨0,_,by omega,rfl,dt,ds,du⟩
         case round=>
          obtain⟨j,v3,ea,rfl,ao,aE,aq⟩:=hrel;clear dt ds du;by_cases dr:j<lim
          . have cW:kid0≠0:=λe=>by have af:=bf.out;rw [if_pos e] at af;omega
            have dR:((kid0:Int) !=0)=true:=(by simp;omega);have dv:j<=k:=(by omega);obtain⟨aR,bh⟩:=WI;have cc:=Yns;rw [bk.out] at cc;push_cast at cc;have cL:=Zh cc;have f0:=ao.at' (i:=0) rfl;have f12:=(aF.below aR).at' (i:=0) rfl;clear aR bh cc;gi_wp2_with fail;refine cL.mono ?_;rintro e dS ⟨rfl,rfl⟩;clear f0 f12 cL;have w4:IntKind.i64.wrap (4*(t:Int)+(j:Int))=4*(t:Int)+(j:Int):=(by rw [IntKind.wrap_i64];omega);obtain⟨Z,bO⟩:=WI;have cg:=(λX:BK wr=>X.cell (ao.at' (i:=2) rfl));have ci:=Ynf;obtain⟨y,bW⟩: ∃y,ws[4*t+j]'(by omega)=y:=⟨_,rfl⟩;have bQ:=(λW (bN:Below wr.heap.size wr W)=>aP W (bO.trans (bN.mono bO.size)) (4*t+j) (by omega) ((bN.cell (p:=⟨bK,0,none⟩) ((aO.below Z).lt)).trans ((aO.below Z).at' (i:=0) rfl)) ((bN.cell (p:=⟨bL,0,none⟩) ((aL.below Z).lt)).trans ((aL.below Z).at' (i:=0) rfl)));rw [bW] at bQ;push_cast at bQ;have cj:=Zh bQ;have ce:b13<wr.heap.size:=ao.lt;have ck:Hid (FO t ws (j+1)=FO t ws j++ [y]):=Zh (by rw [<-bW];exact Tv (by omega));have bX:(FO t ws j).length=j:=Jm _ _ _;clear bW Z bO bQ;gi_wp2;refine Dn (λw' => ∃X:BK wr,w' =X.W) 7 2 9 cX (by kernel_rfl) (by kernel_rfl) (by kernel_rfl) (by kernel_rfl) (by decide) rfl (by kernel_rfl) ⟨⟨_,Ac wr⟩,rfl⟩ (λ_ _ _ _ h=>h) ?_;simp only [List.take_succ_cons,List.take_zero,List.drop_succ_cons,List.drop_zero];refine AU (.pointer (some ⟨b13,2,none⟩)) rfl (by rintro _ ⟨X,rfl⟩;go_simp) (λ_=>rfl) ?_;go_simp;refine AU (v3) rfl (by rintro _ ⟨X,rfl⟩;have:=cg X;go_simp) (λ_=>rfl) ?_;go_simp;refine AU (.func (.func 120) #[] #[.pointer (some ⟨bK,0,none⟩), .pointer (some ⟨bL,0,none⟩)]) rfl (by rintro _ ⟨X,rfl⟩;have:=ci X;go_simp) (λ_=>rfl) ?_;go_simp;refine AU (.int .i64 t) rfl (by rintro _ ⟨X,rfl⟩;go_simp) (λ_=>rfl) ?_;go_simp;refine AU (.int .i64 (4*(t:Int))) rfl (by rintro _ ⟨X,rfl⟩;go_simp) (λ_=>rfl) ?_;go_simp;refine AU (.int .i64 j) rfl (by rintro _ ⟨X,rfl⟩;go_simp) (λ_=>rfl) ?_;go_simp;refine AU (.int .i64 (4*(t:Int)+(j:Int))) rfl (by rintro _ ⟨X,rfl⟩;go_simp) (λ_=>rfl) ?_;go_simp;refine FR ?_;refine Cw (λcG cl=> ?_);gi_wp2_with fail;refine(cj _ (Ac wr)).mono ?_;rintro e aj ⟨rfl,au⟩;have aa:=Ypy;obtain⟨bP,bY⟩:=VY;have cn:=Yot;have bR:=Zh bY.r3;have co:=Yox;have bZ:=Zh aa;clear au aa cg ci ao aE aq cj;gi_wp2;refine cl _ _ ⟨⟨aj,bZ⟩,rfl⟩ ?_;clear cl cG;refine Cw (λcH cp=> ?_);gi_wp2;refine cp _ _ ⟨⟨_,bZ.alloc co _⟩,rfl⟩ ?_;clear cp cH;refine EH ?_;gi_wp2_with (gi_at_builtin;go_must (refine wpListIn_append_own_at _ rfl _ _ 46 rfl (b13+1) 23 i0 (.int .u64 0) 1 8 Tryz.Gg hi cz cZ cF rfl (by decide) _ _ _ rfl (bR.alloc _) ⟨aj.heap.size,0,none⟩ 1 1 [.int .u64 (y:Nat)] rfl rfl (cell_one_new _ _ _) (by simp [Value.oneCell']) (by unfold maxLen;omega) (by omega) (by simp;omega) ?_);intro v' b3 bI bJ _ bM;obtain⟨cI,cJ,rfl⟩:=ownsRow_succ bI;have cr:=Zh (And.intro bI (And.intro bJ bM));have bS:=Zh (HW bR.out bJ (by omega) bP.lt);have cK:=(bP.block bS.out).at' (i:=2) rfl;have q1:=(bP.block bS.out).free 2;clear bI bJ bM);obtain⟨bI,bJ,bM⟩:=cr.out;obtain⟨bU,b4⟩:=Zx (Value.slice (some ⟨cI,0,none⟩) (j+1) cJ);rw [bX,<-b4] at bI bM;have cs:b3.ownsRow (b13+1) 23 1 bU (FO t ws j++ [y]).length (AF (FO t ws j++ [y])):=(by rw [Hw,List.length_append,bX];exact bI);have J:=(bY.AcK cs bJ bM).set (b:=b13) (j:=2) (by omega) bU;rw [<-ck.out] at J;have ab:=(bP.block bS).set 2 bU;have V:=(HH cn (by omega) (by omega) bR bJ).setCell (p:=⟨b13,2,none⟩) (Nat.le_refl _) bU;rw [<-b4];clear b4;obtain⟨aE,ao,aq⟩:=EA;clear cK q1 cs J ab V bI bJ bM bP bY cn bR ck bS cr bX ce co bZ;generalize b3.setCell ⟨b13,2,none⟩ bU=bT at*;clear b3;go_roundw
            case rel=>exact⟨j+1,bU,by omega,by go_num,ao,aE,aq⟩
            case measure=>simp [intOf];omega
          . obtain rfl:j=lim:=by omega
            by_cases cW:kid0=0
            . have dR:((kid0:Int) !=0)=false:=by simp [cW]
              have dv:j<=k:=(by have af:=bf.out;rw [if_pos cW] at af;omega);obtain⟨aR,bh⟩:=WI;have cc:=Yns;rw [bk.out] at cc;push_cast at cc;have cL:=Zh cc;have f0:=ao.at' (i:=0) rfl;have f12:=(aF.below aR).at' (i:=0) rfl;clear aR bh cc;gi_wp2_with fail;refine cL.mono ?_;rintro e dS ⟨rfl,rfl⟩;clear f0 f12 cL;obtain⟨Z,bO⟩:=WI;have n0:=Yob;obtain⟨n,aN⟩: ∃n:BN,n=⟨EU ws k,EW ws k,FO t ws j,sz⟩:=⟨_,rfl⟩;obtain⟨aH,an⟩:=Yjh;rw [<-aN] at an;obtain⟨a9,aM,cM⟩:=Ypt;obtain⟨f0,f1,f2,f3⟩:=C5 ao.out;have a1:=Zh bO;have aJ:=Zh Z;clear aN an Z bO n0;gi_wp2_with fail;refine cM.mono ?_;rintro e bq ⟨rfl,aw⟩;obtain⟨cN,z3,z5,aU,aW,z12⟩:=Yle;obtain⟨aZ,a8⟩:=Yhl;have ae:=Zh cN;clear cM f0 f1 f2 f3 aw cN aE ao aq aJ a1;by_cases aC:n.Fits t
              . rw [decide_eq_true aC]
                have bj:=Zh aC;clear aC;obtain⟨f0,f1,f2,f3⟩:=C5 aZ.out;have an:=Yjl;rw [<-aM.out] at an;have au:=Ypl;clear an;gi_wp2_with fail;refine au.mono ?_;rintro e w4 ⟨b,bx,rfl,da,db,a2,bg,br,I⟩;obtain⟨dc,eb,u3,a4⟩:=Ynj;obtain⟨aV,a6⟩:=XX;obtain⟨a5,ba,aY,aD⟩:=Yrs;obtain⟨m6,m7,bb,a7⟩:=Yng;clear z3 z5 aU aW z12 aZ a8 au f0 f1 f2 f3 a2 bg I da db;gi_wp2_with fail
                refine wpIn_rangeFunc_ownH (α:={z:Nat // z<(n.wd t).length}) rfl (by omega) (gf:=173) (lb:= #[.pointer (some ⟨bx,0,none⟩)]) rfl trivial (enters_of func173 (by kernel_rfl) rfl)
                 dc (λh k=>h.trans k) (λW l o dT dU aK h1 dV=>BY.put W _ (by omega) (by omega)) (Below.refl _ _) (λ_=>rfl)
                 (λ(pre:List {z:Nat // z<(n.wd t).length}) W=>Below w4.heap.size w4 W/\ ∀z∈pre,ws.getD z.1 0=(n.wd t)[z.1]'z.2)
                 (λcO pre W=>cO= .ret/\(An W b6 100 [.slice none 0 0, .slice none 0 0, .slice none 0 0, .int .u64 0]/\An W b7 25 [.int .i64 ((8:Nat):Int)])/\Below w.heap.size w W/\ ¬BN.Kh t ws)
                 (λpre A B row hs hg b5=>⟨ownFrom_below (Nat.le_refl _) (Nat.le_refl _) () A B row hs.1 hg b5,hs.2⟩)
                 (λcO pre A B row hs hg b5=>⟨hs.1,⟨hs.2.1.1.block (hg.block b6 hs.2.1.1.lt (λe=>by have:=(b5 b6 e.symm).1;omega)),hs.2.1.2.block (hg.block b7 hs.2.1.2.lt (λe=>by have:=(b5 b7 e.symm).1;omega))⟩,ownFrom_below (Nat.le_refl _) aD.size () A B row hs.2.2.1 hg b5,hs.2.2.2⟩)
                 ⟨Below.refl _ _,λz h=>absurd h (by simp)⟩
                 (λz a' W=>a' ={ tmps:= #[ .pointer (some ⟨s,0,none⟩), .int .i64 (t:Int), .int .u64 (x:Int), .pointer (some ⟨bK,0,none⟩),undef, .pointer (some ⟨bL,0,none⟩), .pointer (some ⟨b6,0,none⟩), .pointer (some ⟨b7,0,none⟩), .int .i64 (cd:Int), .int .i64 (lb:Int), .int .i64 (6*(t:Int)), .int .i64 0, .pointer (some ⟨b12,0,none⟩), .pointer (some ⟨b13,0,none⟩),u14, .int .i64 (j:Int), .int .i64 (z.1:Nat), .int .u64 ((n.wd t)[z.1]'z.2:Nat), .tuple #[ .int .i64 (cd:Int), .int .i64 (lb:Int)], .pointer (some ⟨s,0,none⟩), .tuple #[ .int .i64 (cd:Int), .int .i64 (lb:Int)], .int .i64 (cd:Int), .int .i64 (lb:Int), .int .i64 (lb:Int), .bool false,undef,undef, .int .i64 (t:Int), .bool true, .bool false,undef, .tuple #[ .int .i64 (6*(t:Int)), .int .i64 0], .pointer (some ⟨s,0,none⟩), .int .u64 (x:Int), .tuple #[ .int .i64 (6*(t:Int)), .int .i64 0], .int .i64 (6*(t:Int)), .int .i64 0, .bool false, .int .i64 0, .bool false,undef,undef, .bool false, .int .i64 (6*(t:Int)), .int .i64 (t:Int), .int .i64 (6*(t:Int)), .bool false,undef, .func (.func 120) #[] #[ .pointer (some ⟨bK,0,none⟩), .pointer (some ⟨bL,0,none⟩)], .func (.func 120) #[] #[ .pointer (some ⟨bK,0,none⟩), .pointer (some ⟨bL,0,none⟩)], .int .u64 ((k:Nat):Int), .int .i64 (t:Int), .int .i64 (2*(t:Int)), .int .i64 (2*(t:Int)-1), .int .u64 (2*(t:Int)-1), .bool false,undef, .func (.func 120) #[] #[ .pointer (some ⟨bK,0,none⟩), .pointer (some ⟨bL,0,none⟩)], .int .u64 ((sz:Nat):Int), .agg #[ .slice none 0 0, .slice none 0 0, .slice none 0 0, .int .u64 ((sz:Nat):Int)], .func (.func 120) #[] #[ .pointer (some ⟨bK,0,none⟩), .pointer (some ⟨bL,0,none⟩)], .int .u64 ((k:Nat):Int), .int .i64 ((k:Nat):Int), .int .i64 ((k:Nat):Int), .bool false,u65,u66,u67,u68,u69,u70,u71,u72,u73,u74,u75,u76,u77,u78,u79,u80,u81,u82,u83,u84,u85,u86,u87, .int .i64 (j:Int), .pointer (some ⟨b13,0,none⟩), .slice az k c1, .int .i64 ((k:Nat):Int), .bool true, .bool true, .func (.func 120) #[] #[ .pointer (some ⟨bK,0,none⟩), .pointer (some ⟨bL,0,none⟩)], .int .i64 (t:Int), .int .i64 (4*(t:Int)), .int .u64 0, .bool false, .bool false,u100,u101,u102,u103,u104,u105,u106,u107,u108,u109,u110,u111,u112, .int .i64 (t:Int), .agg #[ .slice az k c1,v2,v3, .int .u64 ((sz:Nat):Int)], .bool true, .bool false,undef, .int .i64 (t:Int), .agg #[ .slice az k c1,v2,v3, .int .u64 ((sz:Nat):Int)], .func (.func 173) #[] #[ .pointer (some ⟨bx,0,none⟩)], .int .i64 (z.1:Nat), .int .u64 ((n.wd t)[z.1]'z.2:Nat),undef,undef,undef,undef,undef,undef,undef],defers:= [] })
                 (λ_ _ _ _ _ _ hs _ _=>hs)
                 ?assign ?body ?done ?stop
                case assign=>
                 exact Y4
                case body=>
                 exact Yad
                case done=>
                 exact Yae
                case stop=>
                 exact Yaq
              . exact Yam
            . have dv: ¬j<=k:=by have af:=bf.out;rw [if_neg cW] at af;omega
              obtain⟨Z,bO⟩:=WI;have n0:=Yob;obtain⟨n,aN⟩: ∃n:BN,n=⟨EU ws k,EW ws k,FO t ws j,sz⟩:=⟨_,rfl⟩;obtain⟨aH,an⟩:=Yjh;rw [<-aN] at an;obtain⟨a9,aM,cM⟩:=Ypt;obtain⟨f0,f1,f2,f3⟩:=C5 ao.out;have a1:=Zh bO;have aJ:=Zh Z;clear aN an Z bO n0;gi_wp2_with fail;refine cM.mono ?_;rintro e bq ⟨rfl,aw⟩;obtain⟨cN,z3,z5,aU,aW,z12⟩:=Yle;obtain⟨aZ,a8⟩:=Yhl;have ae:=Zh cN;clear cM f0 f1 f2 f3 aw cN aE ao aq aJ a1;by_cases aC:n.Fits t
              . rw [decide_eq_true aC]
                have bj:=Zh aC;clear aC;obtain⟨f0,f1,f2,f3⟩:=C5 aZ.out;have an:=Yjl;rw [<-aM.out] at an;have au:=Ypl;clear an;gi_wp2_with fail;refine au.mono ?_;rintro e w4 ⟨b,bx,rfl,da,db,a2,bg,br,I⟩;obtain⟨dc,_,u3,a4⟩:=Ynj;obtain⟨aV,a6⟩:=XX;obtain⟨a5,ba,aY,aD⟩:=Yrs;obtain⟨_,_,bb,a7⟩:=Yng;clear z3 z5 aU aW z12 aZ a8 au f0 f1 f2 f3 a2 bg I da db;gi_wp2_with fail
                refine wpIn_rangeFunc_ownH (α:={z:Nat // z<(n.wd t).length}) rfl (by omega) (gf:=173) (lb:= #[.pointer (some ⟨bx,0,none⟩)]) rfl trivial (enters_of func173 (by kernel_rfl) rfl)
                 dc (λh k=>h.trans k) (λW l o dT dU aK h1 dV=>BY.put W _ (by omega) (by omega)) (Below.refl _ _) (λ_=>rfl)
                 (λ(pre:List {z:Nat // z<(n.wd t).length}) W=>Below w4.heap.size w4 W/\ ∀z∈pre,ws.getD z.1 0=(n.wd t)[z.1]'z.2)
                 (λcO pre W=>cO= .ret/\(An W b6 100 [.slice none 0 0, .slice none 0 0, .slice none 0 0, .int .u64 0]/\An W b7 25 [.int .i64 ((8:Nat):Int)])/\Below w.heap.size w W/\ ¬BN.Kh t ws)
                 (λpre A B row hs hg b5=>⟨ownFrom_below (Nat.le_refl _) (Nat.le_refl _) () A B row hs.1 hg b5,hs.2⟩)
                 (λcO pre A B row hs hg b5=>⟨hs.1,⟨hs.2.1.1.block (hg.block b6 hs.2.1.1.lt (λe=>by have:=(b5 b6 e.symm).1;omega)),hs.2.1.2.block (hg.block b7 hs.2.1.2.lt (λe=>by have:=(b5 b7 e.symm).1;omega))⟩,ownFrom_below (Nat.le_refl _) aD.size () A B row hs.2.2.1 hg b5,hs.2.2.2⟩)
                 ⟨Below.refl _ _,λz h=>absurd h (by simp)⟩
                 (λz a' W=>a' ={ tmps:= #[ .pointer (some ⟨s,0,none⟩), .int .i64 (t:Int), .int .u64 (x:Int), .pointer (some ⟨bK,0,none⟩),undef, .pointer (some ⟨bL,0,none⟩), .pointer (some ⟨b6,0,none⟩), .pointer (some ⟨b7,0,none⟩), .int .i64 (cd:Int), .int .i64 (lb:Int), .int .i64 (6*(t:Int)), .int .i64 0, .pointer (some ⟨b12,0,none⟩), .pointer (some ⟨b13,0,none⟩),u14, .int .i64 (j:Int), .int .i64 (z.1:Nat), .int .u64 ((n.wd t)[z.1]'z.2:Nat), .tuple #[ .int .i64 (cd:Int), .int .i64 (lb:Int)], .pointer (some ⟨s,0,none⟩), .tuple #[ .int .i64 (cd:Int), .int .i64 (lb:Int)], .int .i64 (cd:Int), .int .i64 (lb:Int), .int .i64 (lb:Int), .bool false,undef,undef, .int .i64 (t:Int), .bool true, .bool false,undef, .tuple #[ .int .i64 (6*(t:Int)), .int .i64 0], .pointer (some ⟨s,0,none⟩), .int .u64 (x:Int), .tuple #[ .int .i64 (6*(t:Int)), .int .i64 0], .int .i64 (6*(t:Int)), .int .i64 0, .bool false, .int .i64 0, .bool false,undef,undef, .bool false, .int .i64 (6*(t:Int)), .int .i64 (t:Int), .int .i64 (6*(t:Int)), .bool false,undef, .func (.func 120) #[] #[ .pointer (some ⟨bK,0,none⟩), .pointer (some ⟨bL,0,none⟩)], .func (.func 120) #[] #[ .pointer (some ⟨bK,0,none⟩), .pointer (some ⟨bL,0,none⟩)], .int .u64 ((k:Nat):Int), .int .i64 (t:Int), .int .i64 (2*(t:Int)), .int .i64 (2*(t:Int)-1), .int .u64 (2*(t:Int)-1), .bool false,undef, .func (.func 120) #[] #[ .pointer (some ⟨bK,0,none⟩), .pointer (some ⟨bL,0,none⟩)], .int .u64 ((sz:Nat):Int), .agg #[ .slice none 0 0, .slice none 0 0, .slice none 0 0, .int .u64 ((sz:Nat):Int)], .func (.func 120) #[] #[ .pointer (some ⟨bK,0,none⟩), .pointer (some ⟨bL,0,none⟩)], .int .u64 ((k:Nat):Int), .int .i64 ((k:Nat):Int), .int .i64 ((k:Nat):Int), .bool false,u65,u66,u67,u68,u69,u70,u71,u72,u73,u74,u75,u76,u77,u78,u79,u80,u81,u82,u83,u84,u85,u86,u87, .int .i64 (j:Int), .pointer (some ⟨b13,0,none⟩), .slice az k c1, .int .i64 ((k:Nat):Int), .bool false, .bool false,undef,undef,undef,undef,undef, .bool false,u100,u101,u102,u103,u104,u105,u106,u107,u108,u109,u110,u111,u112, .int .i64 (t:Int), .agg #[ .slice az k c1,v2,v3, .int .u64 ((sz:Nat):Int)], .bool true, .bool false,undef, .int .i64 (t:Int), .agg #[ .slice az k c1,v2,v3, .int .u64 ((sz:Nat):Int)], .func (.func 173) #[] #[ .pointer (some ⟨bx,0,none⟩)], .int .i64 (z.1:Nat), .int .u64 ((n.wd t)[z.1]'z.2:Nat),undef,undef,undef,undef,undef,undef,undef],defers:= [] })
                 (λ_ _ _ _ _ _ hs _ _=>hs)
                 ?assign ?body ?done ?stop
                case assign=>
                 exact Y4
                case body=>
                 exact Yad
                case done=>
                 exact Yae
                case stop=>
                 exact Yaq
              . exact Yam
  . have dl:((ws.length:Int) !=6*(t:Int))=true:=by simp;omega
    have U:=HZ (w:=w) (W:=O) (R:=R) (t:=t) (x:=x) (b6:=b6) (b7:=b7) (er:=8) (by unfold Af;rw [al];exact if_neg (λh=>aK h.1)) (by unfold Bk;rw [al];exact if_neg (λh=>aK h.1)) cf g6 g7;have bV:=Dk b8 cw aX (.slice none 0 0) (.slice none 0 0) (.slice none 0 0) (.int .u64 0) (.int .i64 ((8:Nat):Int));unfold Cd at U bV;have aB:=Zh U;have ar:=Zh bV;clear U bV;gi_wp2_with fail;refine(cv _ cf).mono ?_;rintro e w3 ⟨rfl,rfl⟩;exact Yar
end
end Go.Proofs.YtiopopoohglepaaGreatDoor
namespace Go.Proofs.YtiopopoohglepaaGreatDoor
open Go.Proofs.Tryz
open Go.RowKit Go.Shelf
variable {F:Nat->Prop}{W:World}{b6 bt t:Nat}
def Tc(w:World)(R:Zr)(t x:Nat)(e:Ending)(w' :World):Prop:=
 ∃v1 v2 v3,e= .returned (.tuple #[.agg #[v1,v2,v3, .int .u64 ((Af R t x).size:Nat)], .bool (decide (Bk R t x=0))])/\AS w' w.heap.size v1 (Af R t x).keys v2 (Af R t x).Ab v3 (Af R t x).kids/\Below w.heap.size w w'
def IN(W:World)(b6:Nat)(v1 v2 v3 v4:Value):World:=(((W.setCell ⟨b6,0,none⟩ v1).setCell ⟨b6,1,none⟩ v2).setCell ⟨b6,2,none⟩ v3).setCell ⟨b6,3,none⟩ v4
theorem Qu{I:TypeId}{u1 u2 u3 J:Value}(O:An W b6 I [u1,u2,u3,J])(v1 v2 v3 v4:Value):An (IN W b6 v1 v2 v3 v4) b6 I [v1,v2,v3,v4]:=
 ((((O.set 0 v1).set 1 v2).set 2 v3).set 3 v4)
theorem NI{w:World}{m:Nat}(h:Below m w W)(I:m<=b6)(v1 v2 v3 v4:Value):Below m w (IN W b6 v1 v2 v3 v4):=
 (((h.setCell (p:=⟨b6,0,none⟩) I v1).setCell (p:=⟨b6,1,none⟩) I v2).setCell (p:=⟨b6,2,none⟩) I v3).setCell (p:=⟨b6,3,none⟩) I v4
theorem AS.four{B:Nat}{v1 v2 v3:Value}{l1 l2 l3:List Nat}(h:AS W B v1 l1 v2 l2 v3 l3)(I:b6<B)(u1 u2 u3 J:Value):AS (IN W b6 u1 u2 u3 J) B v1 l1 v2 l2 v3 l3:=(((h.set I u1).set I u2).set I u3).set I J
section
variable {w w':World} {s N:Nat} {R:Zr} {nn:Nat}
def Ycd{P}(h:P:=by
 rwa [show(w.alloc (Obj.cells #[.pointer (some ⟨s,0,none⟩), .int .i64 t] 96)).heap.size=w.heap.size+1 by simp] at this):=h
def Yc{P}(h:P:=by
 have ab:Below w.heap.size w O:=by rw [J];exact((Below.refl _ w).alloc (Nat.le_refl _) _).alloc (by simp) _
 exact ab):=h
def Yin{P}(h:P:=by
 have O:=(Qu af (.slice aa n1 k1) (.slice Z n2 k2) (.slice U n3 ac) (.int .u64 n4)).alloc (Obj.cells #[.slice aa n1 k1, .slice Z n2 k2, .slice U n3 ac, .int .u64 n4] 100);have I:=NI ai g4 (.slice aa n1 k1) (.slice Z n2 k2) (.slice U n3 ac) (.int .u64 n4);have J:=(ag.four ah (.slice aa n1 k1) (.slice Z n2 k2) (.slice U n3 ac) (.int .u64 n4)).lower ae.size;have V:=aj.out _ _ _ _ (J.below ((Below.refl _ _).alloc (Nat.le_refl _) (Obj.cells #[.slice aa n1 k1, .slice Z n2 k2, .slice U n3 ac, .int .u64 n4] 100))) (I.alloc I.size _);exact And.intro O (And.intro I (And.intro J V))):=h
theorem DS(h:Rd N w s R nn)(t:Nat)(au:BN.A0 t)(x:Nat)(hx:x<18446744073709551616):
 Calls prog 44 #[.agg #[.pointer (some ⟨s,0,none⟩), .int .i64 t], .int .u64 x] w (Tc w R t x):=by
 obtain⟨O,J⟩:=Zx ((w.alloc (Obj.cells #[.pointer (some ⟨s,0,none⟩), .int .i64 t] 96)).alloc (Obj.cells #[.slice none 0 0, .slice none 0 0, .slice none 0 0, .int .u64 0] 100));have ab:=Yc;obtain⟨ao,V⟩:=Zx (w.heap.size+1);have aq:An O ao 100 [.slice none 0 0, .slice none 0 0, .slice none 0 0, .int .u64 0]:=by
  rw [J,V];have:=An.new (w.alloc (Obj.cells #[.pointer (some ⟨s,0,none⟩), .int .i64 t] 96)) 100 [.slice none 0 0, .slice none 0 0, .slice none 0 0, .int .u64 0];exact Ycd
 have g4:w.heap.size<=ao:=by omega
 have aw:=Zh (Lv (h.below ab) t au x hx);obtain⟨ax,ae,ay⟩:=EA;have ar:=Zh aq;clear h J ab aq V;go_enter func44,ntmps44;go_wp2_with fail;rw [<-ax.out,<-ay.out];refine aw.mono ?_;rintro e w3 ⟨v1,v2,v3,rfl,al,I⟩;obtain⟨aa,k1,rfl⟩:=Ae al.r1;obtain⟨Z,k2,rfl⟩:=Ae al.r2;obtain⟨U,ac,rfl⟩:=Ae al.r3;have ag:=Zh al;have ai:=Dt;have af:=Zh (ar.below I);have ah:=Zh ar.lt;have aF:=af.lt;clear al I;obtain⟨⟨c0,c1,c2,c3⟩,f0,f1,f2,f3⟩:=YM af.out;have aj:Hid (∀v1 v2 v3 W,AS W w.heap.size v1 (Af R t x).keys v2 (Af R t x).Ab v3 (Af R t x).kids->Below w.heap.size w W->Tc w R t x (.returned (.tuple #[.agg #[v1,v2,v3, .int .u64 ((Af R t x).size:Nat)], .bool (decide (Bk R t x=0))])) W):=Zh (λv1 v2 v3 W h1 az=>⟨v1,v2,v3,rfl,h1,az⟩);have aG:((Bk R t x:Int)==0)=decide (Bk R t x=0):=by rw [Bool.eq_iff_iff];simp
 generalize (Af R t x).keys.length=n1 at*;generalize (Af R t x).Ab.length=n2 at*;generalize (Af R t x).kids.length=n3 at*;generalize (Af R t x).size=n4 at*;generalize decide (Bk R t x=0)=ok at*;generalize Bk R t x=er at*;obtain⟨am,aA,aB,an⟩:=Yin;unfold IN at am an;have aC:=Zh am;have aD:=Zh an;clear am aA aB an;go_wp2;obtain⟨aE,r1,r2,r3⟩:=C5 aC.out;refine bodyPost_ret (v:= .tuple #[.agg #[.slice aa n1 k1, .slice Z n2 k2, .slice U n3 ac, .int .u64 n4], .bool ok]) (by simp [results,f44,go_sem,aE,r1,r2,r3]) rfl aD.out
end
section
variable {w w':World} {s N:Nat} {R:Zr} {nn:Nat}
def XP{P}(h:P:=by
 have I:Below w.heap.size w (w.alloc (Obj.cells #[.pointer (some ⟨s,0,none⟩), .int .i64 t] 96)):=(Below.refl _ w).alloc (Nat.le_refl _) _;exact I):=h
theorem PJ(h:Rd N w s R nn)(U:A6 R)(t x:Nat)(hx:x<18446744073709551616):
 Calls prog 63 #[.agg #[.pointer (some ⟨s,0,none⟩), .int .i64 t], .int .u64 x] w λe w' =>e= .returned (.string (BG R x))/\Below w.heap.size w w' :=by
 have O:=XP;have J:=Hq (h.below O) U x hx;unfold G7 at J;rw [show(G6 R x).getD ⟨#[]⟩=BG R x from rfl] at J;have V:=Zh J;have ae:=Zh O;clear h J O;generalize BG R x=aa at*;generalize De R x=er at*;go_enter func63,ntmps63;go_wp2_with fail;refine V.mono ?_;rintro e w2 ⟨rfl,I⟩;have Z:=Dt;clear I;go_wp2;go_ret;exact⟨rfl,Z⟩
theorem E6(h:Rd N w s R nn)(t:Nat)(Z:BN.A0 t)(x:Nat)(hx:x<18446744073709551616):
 Calls prog 49 #[.agg #[.pointer (some ⟨s,0,none⟩), .int .i64 t], .int .u64 x] w λe w' =>e= .returned (.int .i64 (Cq R t x))/\Below w.heap.size w w' :=by
 have O:=XP;have U:=DS (h.below O) t Z x hx;unfold Tc at U;unfold Cq;generalize (Af R t x).size=n4 at*;have aa:=Zh U;have ae:=Zh O;clear h U O;go_enter func49,ntmps49;go_wp2_with fail;refine aa.mono ?_;rintro e w2 ⟨v1,v2,v3,rfl,J,I⟩;obtain⟨ab,k1,rfl⟩:=Ae J.r1;obtain⟨ac,k2,rfl⟩:=Ae J.r2;obtain⟨af,ag,rfl⟩:=Ae J.r3;have V:=Dt;clear I J;generalize (Af R t x).keys.length=n1 at*;generalize (Af R t x).Ab.length=n2 at*;generalize (Af R t x).kids.length=n3 at*;generalize decide (Bk R t x=0)=ok at*;have ah:=Zh (V.alloc V.size (Obj.cells #[Value.slice ab n1 k1,Value.slice ac n2 k2,Value.slice af n3 ag,Value.int IntKind.u64 ↑n4] 100));go_wp2;go_ret;exact⟨rfl,ah⟩
end
section
variable {w w':World} {s N:Nat} {R:Zr} {nn:Nat}
def Ycr{P}(h:P:=by
 go_wp2_with fail;refine J.mono ?_;rintro e w2 ⟨rfl,O⟩;have U:=Zh O;clear O;go_wp2_with fail;refine(I _).mono ?_;rintro e w3 ⟨rfl,rfl⟩;go_wp2;go_ret;exact⟨rfl,U⟩):=h
theorem WC(h:Rd N w s R nn)(O:A6 R)(c0:w.cell? ⟨bt,0,none⟩=some (.pointer (some ⟨s,0,none⟩)))(c1:w.cell? ⟨bt,1,none⟩=some (.int .i64 t))(x:Nat)(hx:x<18446744073709551616)(key:ByteArray):
 Calls prog 136 #[.int .u64 x, .string key, .pointer (some ⟨bt,0,none⟩)] w λe w' =>e= .returned (.int .i64 (Tx.cmp (BG R x) key))/\Below w.heap.size w w' :=by
 have J:=Zh (PJ h O t x hx);have I:=Zh (λW=>Tx.LM (BG R x) key W);clear h;generalize Tx.cmp (BG R x) key=cc at*;generalize BG R x=U at*;go_enter func136,ntmps136;exact Ycr
theorem WA(f:Nat->Int)(m lo:Nat):GF f m lo lo=lo:=by
 cases m<;>simp [GF]
def Yac{P}(h:P:=by
 generalize JG R l key=f at*;go_enter func74,ntmps74;go_wp2
 go_loopw [9,10] (λam an wr=> ∃m lo hi:Nat,lo<=hi/\hi<=l.length/\am= .int .i64 lo/\an= .int .i64 hi/\hi-lo<=m/\Hid (GF f l.length 0 l.length=GF f m lo hi)/\Hid (Below w.heap.size w wr)) (λam an _=>(intOf an).toNat-(intOf am).toNat)
 case atStart=>exact⟨l.length,0,l.length,by omega,by omega,rfl,rfl,by omega,Zh rfl,Zh (Below.refl _ _)⟩
 case round=>
  obtain⟨m,lo,hi,h1,az,rfl,rfl,hm,ah,I⟩:=hrel;by_cases aA:lo<hi
  . have w1:IntKind.i64.wrap ((lo:Int)+(hi:Int))=(lo:Int)+(hi:Int):=by rw [IntKind.wrap_i64];omega
    obtain⟨q,aw⟩:=Zx ((lo+hi)/2);have aE:((lo:Int)+(hi:Int))/2=(q:Int):=(by omega);have ao:q<l.length:=(by omega);have aF:lo<=q:=(by omega);have aG:q<hi:=(by omega);obtain⟨b,o,rfl,aB,aa⟩:=hN.out q ao;have ab:=aa wr I.out;have V:=Z.out wr I q ao;rw [O.out q ao] at V;obtain⟨y,ac⟩: ∃y,l[q]=y:=⟨_,rfl⟩;rw [ac] at V ab;obtain⟨m',rfl⟩: ∃m',m=m' +1:=⟨m-1,by omega⟩;have ax:GF f l.length 0 l.length=if f q<0 then GF f m' (q+1) hi else GF f m' lo q:=by
     have aq:=ah.out
     conv at aq=>rhs;unfold GF
     rw [if_pos aA,<-aw] at aq;exact aq
    have ay:=Zh ax;have ae:=Zh V;clear aa V ax aw ah ac;have w2:IntKind.i64.wrap ((q:Int)+1)=(q:Int)+1:=(by rw [IntKind.wrap_i64];omega);go_wp2_with fail;refine ae.mono ?_;rintro e aC ⟨rfl,af⟩;have ai:=Zh (I.trans (af.mono I.size));clear af ae I ab;by_cases aj:f q<0
    . have aD:decide (f q<0)=true:=decide_eq_true aj
      have ar:Hid (GF f l.length 0 l.length=GF f m' (q+1) hi):=Zh (by rw [ay.out,if_pos aj]);go_wp2;go_roundw
      case rel=>exact⟨m',q+1,hi,by omega,az,by go_num,rfl,by omega,ar,ai⟩
      case measure=>simp [intOf];omega
    . have aD:decide (f q<0)=false:=decide_eq_false aj
      have ar:Hid (GF f l.length 0 l.length=GF f m' lo q):=Zh (by rw [ay.out,if_neg aj]);go_wp2;go_roundw
      case rel=>exact⟨m',lo,q,by omega,by omega,rfl,by go_num,by omega,ar,ai⟩
      case measure=>simp [intOf];omega
  . obtain rfl:lo=hi:=by omega
    have al:Hid (DL R l key=lo):=Zh (by rw [U.out,ah.out,WA]);clear ah;by_cases ag:lo<l.length
    . obtain⟨b,o,rfl,aB,aa⟩:=hN.out lo ag
      have ab:=aa wr I.out;have V:=Z.out wr I lo ag;rw [O.out lo ag] at V;obtain⟨y,ac⟩: ∃y,l[lo]=y:=⟨_,rfl⟩;rw [ac] at V ab;have ae:=Zh V;clear aa V ac;have au:Hid (Gw R l key=(f lo==0)):=Zh (by rw [J.out,al.out,decide_eq_true ag,Bool.true_and];rfl);go_wp2_with fail;refine ae.mono ?_;rintro e aC ⟨rfl,af⟩;have ai:=Zh (I.trans (af.mono I.size));clear af ae I ab;go_wp2
      go_ret2
      exact⟨by rw [al.out,au.out];rfl,ai⟩
    . have au:Hid (Gw R l key=false):=Zh (by rw [J.out,al.out,decide_eq_false ag,Bool.false_and])
      go_wp2
      go_ret2
      exact⟨by rw [al.out,au.out];rfl,I⟩):=h
def Yjt{P}(h:P:=by
 have hN:=Zh (λk (I:k<l.length)=>V.num I);have O:Hid (∀i (hi:i<l.length),Tx.cmp (BG R l[i]) key=JG R l key i):=Zh (λi hi=>by unfold JG;simp [hi]);have U:Hid (DL R l key=GF (JG R l key) l.length 0 l.length):=Zh rfl;have J:Hid (Gw R l key=(decide (DL R l key<l.length)&&decide (JG R l key (DL R l key)=0))):=Zh rfl;exact And.intro hN (And.intro O (And.intro U J))):=h
theorem Si(h:Rd N w s R nn)(aa:A6 R)(c0:w.cell? ⟨bt,0,none⟩=some (.pointer (some ⟨s,0,none⟩)))(c1:w.cell? ⟨bt,1,none⟩=some (.int .i64 t)){A:Option Addr}{c:Nat}{l:List Nat}(V:AK w F A (AF l))(ab:l.length<=4398046511104)(hx: ∀i (hi:i<l.length),l[i]<18446744073709551616)(key:ByteArray):
 Calls prog 74 #[.slice A l.length c, .string key, .func (.func 136) #[] #[.pointer (some ⟨bt,0,none⟩)]] w λe w' =>e= .returned (.tuple #[.int .i64 (DL R l key:Nat), .bool (Gw R l key)])/\Below w.heap.size w w' :=by
 have Z:=Zh (λW (I:Below w.heap.size w W) i (hi:i<l.length)=>WC (h.below I) aa (t:=t) ((I.cell (p:=⟨bt,0,none⟩) (Am c0)).trans c0) ((I.cell (p:=⟨bt,1,none⟩) (Am c1)).trans c1) l[i] (hx i hi) key);obtain⟨hN,O,U,J⟩:=Yjt;clear h V c0 c1;exact Yac
end
section
variable {w w':World} {s N:Nat} {R:Zr} {nn:Nat}
def Ydp{P}(h:P:=by
 refine I.mono ?_;rintro e w3 ⟨rfl,J⟩;have O:=Zh (aI.trans (J.mono aI.size));clear J;go_wp2
 go_ret2
 exact⟨rfl,O⟩):=h
def EI{P}(h:P:=by
 have I:Below w.heap.size w O:=by rw [U];exact(Below.refl _ w).alloc (Nat.le_refl _) _
 exact I):=h
def K7{P}(h:P:=by
 have aI:=Zh J;have I:=Zh (And.intro U ac);exact And.intro aI I):=h
theorem GU(h:Rd N w s R nn)(ai:A6 R){v:Value}{n:BN}(aj:C3 w F v n)(t:Nat)(hx: ∀i (hi:i<n.keys.length),n.keys[i]<18446744073709551616)(key:ByteArray):
 Calls prog 84 #[.agg #[.pointer (some ⟨s,0,none⟩), .int .i64 t],v, .string key] w λe w' =>e= .returned (.tuple #[.int .i64 (DL R n.keys key:Nat), .bool (Gw R n.keys key)])/\Below w.heap.size w w' :=by
 obtain⟨⟨al,ab,am,an,ao,ci,rfl,k1,k2,aq⟩,l1,l2,l3⟩:=aj;obtain⟨O,U⟩:=Zx (w.alloc (Obj.cells #[.pointer (some ⟨s,0,none⟩), .int .i64 t] 96));have V:=EI;have ae:An O w.heap.size 96 [.pointer (some ⟨s,0,none⟩), .int .i64 t]:=by rw [U];exact An.new w 96 [.pointer (some ⟨s,0,none⟩), .int .i64 t]
 obtain⟨ag,ac⟩:=Zx (O.alloc (Obj.cells #[.slice al n.keys.length ab, .slice am n.Ab.length an, .slice ao n.kids.length ci, .int .u64 n.size] 100));have Z:=ZK;have J:=V.trans (Z.mono V.size);have aa:=ae.below Z;have I:=Zh (Si (h.below J) ai (t:=t) (aa.at' (i:=0) rfl) (aa.at' (i:=1) rfl) (c:=ab) (k1.Aq (Ad.below (F:=F) J)) l1 hx key);obtain⟨aI,af⟩:=K7;clear h V ae Z J aa U ac k1 k2 aq hx;generalize DL R n.keys key=ar at*;generalize Gw R n.keys key=au at*;go_enter func84,ntmps84;go_wp2_with fail;rw [<-af.1,<-af.2];exact Ydp
end
def Z7(l:List Nat):Prop:= ∀i (hi:i<l.length),l[i]<18446744073709551616
section
variable {w w':World} {s N:Nat} {R:Zr} {nn:Nat}
theorem BR(h:Rd N w s R nn)(J:BN.A0 t){x:Nat}(he:Bk R t x=0):
 (Af R t x).Fits t/\Z7 (Af R t x).keys/\Z7 (Af R t x).Ab/\Z7 (Af R t x).kids/\(Af R t x).size<18446744073709551616:=by
 obtain⟨U,V⟩:=(PE J).1 he;generalize Af R t x=n at*;obtain⟨-,-,hu⟩:=h.u64 U;have t1:=J.1;obtain⟨f1,f2,f3⟩:=V;have key: ∀i,i<6*t->n.Ds t i<18446744073709551616:=λi hi=>by
  have h1:i<(n.wd t).length:=by rw [BN.B0];exact hi
  have I:=hu i h1
  rwa [BN.Vm] at I
 refine⟨⟨f1,f2,f3⟩,λi hi=> ?_,λi hi=> ?_,λi hi=> ?_, ?_⟩
 . have I:=key (2+2*i) (by omega)
   rw [BN.QI (by omega)] at I
   simpa [hi] using I
 . have I:=key (2+2*i+1) (by omega)
   rw [BN.Qq (by omega)] at I
   simpa [hi] using I
 . have Z:i<2*t:=by
    rcases f3 with O|O
    . rw [O] at hi;simp at hi
    . omega
   have I:=key (4*t+i) (by omega);rw [BN.MQ t1] at I
   simpa [hi] using I
 . have I:=key 1 (by omega)
   rwa [BN.at_one] at I
def Yct{P}(h:P:=by
 go_enter func42,ntmps42;go_wp2_with fail;refine I.mono ?_;rintro e w2 ⟨rfl,rfl⟩;go_wp2_with fail;refine J.mono ?_;rintro e w2 ⟨rfl,rfl⟩;go_wp2;go_ret;exact⟨rfl,rfl⟩):=h
theorem GQ(h:Rd N w s R nn)(O:BN.A0 t):
 Calls prog 42 #[.pointer (some ⟨s,0,none⟩), .int .i64 t] w λe w' =>e= .returned (.int .i64 0)/\w=w' :=by
 have ai:=Gx h 0 (by decide);obtain⟨Z,lb,U,V⟩:=C9 R 0;rw [U] at ai;obtain⟨_,I⟩:=Qz;have t1:=O.1;have d2:(((6*t:Nat):Int)==0)=false:=by simp;omega
 have J:=Zh (Ie O w);clear h ai U V;generalize 6*t=tw at*;exact Yct
end
