/- A part. -/
import Derived.Test.YtiopopoohglepaaGreatDoorPMxj
set_option linter.all false
set_option maxRecDepth 100000
set_option maxHeartbeats 8000000
namespace Go.Proofs.YtiopopoohglepaaGreatDoor
open Go.Proofs.Tryz
open Go.RowKit Go.Shelf
variable {X X':World}{g x:Nat}{l:List Nat}
section
variable {w w':World} {s:Nat} {F:Nat->Prop} {R:Zr} {H:List Nat} {P q most last G:Nat}
def Ybo{P}(h:P:=by
 rw [bB];exact(World.cell?_of_block (a:=⟨bf,j,none⟩) ((Below.heap_setCell _ ⟨an,k,none⟩ _ bf (λe=>bs.own.a23 an rfl (by rw [<-(show bf=an from e)];rfl))).trans (Below.heap_setCell _ ⟨aj,k,none⟩ _ bf (λe=>bs.own.Ow aj rfl (by rw [<-(show bf=aj from e)];rfl))))).trans h):=h
def Ycb{P}(h:P:=by
 replace I:=Zh U;clear U
 iterate 3 (refine AA _ rfl (by decide) (λK J=> ?_);go_wp2;refine J _ _ ?_;clear J K)
 refine AG ?_;clear z0 aB z2 z3 u0 u1 u2 u3;go_wp2_with fail;go_meet
 case rel=>exact⟨D1,ai,d1,d2,I⟩):=h
def Ycg{P}(h:P:=by
 rcases e with e|e
 . exact aW.ob (by rw [e];exact .inl rfl)
 . exact aW.ob (by rw [e];exact .inr (.inl rfl))):=h
def Yew{P}(h:P:=by
 simp only [Option.some.injEq,Addr.mk.injEq] at e;rw [<-e.1];exact bL ae ⟨_,rfl, .inr (.inl rfl)⟩):=h
def Yey{P}(h:P:=by
 have h1:=(b4.own.Iv (.inl rfl)).2;have I:=(b4.own.Iv (.inr (.inl rfl))).2;have J:=bC.2;omega):=h
def Yfg{P}(h:P:=by
 simp only [Option.some.injEq,Addr.mk.injEq] at e;rw [<-e.1];exact bL af ⟨_,rfl, .inl rfl⟩):=h
def Yhd{P}(h:P:=by
 have I:=λX:Au (λ_=>False) O=>X.cell bu (λh=>h)
 have J:=λX:Au (λ_=>False) O=>X.cell bQ (λh=>h)
 exact And.intro I J):=h
def Yib{P}(h:P:=by
 have aF:An ac bF 77 [.pointer (some ⟨s,0,none⟩), .int .i64 t]:=by rw [bk,br];exact An.new w 77 [.pointer (some ⟨s,0,none⟩), .int .i64 t]
 have ar:=au.below aK;have aP:=BQ ar.own.r1 aA;have aU:=BQ ar.own.r2 aV;have aX:=BQ ar.own.r3 aY;have a1:=BQ ar.own.r3 bd;have aO:=ar.box.at' (i:=0) rfl;have q1:=ar.box.at' (i:=1) rfl;have aL:=ar.box.at' (i:=2) rfl;exact And.intro aF (And.intro ar (And.intro aP (And.intro aU (And.intro aX (And.intro a1 (And.intro aO (And.intro q1 aL)))))))):=h
def Yim{P}(h:P:=by
 have aG:n.keys[k]<18446744073709551616:=au.ok.keys _ (List.getElem_mem aA);have aQ:n.Ab[k]<18446744073709551616:=au.ok.Ab _ (List.getElem_mem aV);have aT:n.kids[k]<18446744073709551616:=au.ok.kids _ (List.getElem_mem aY);have aS:n.kids[k+1]<18446744073709551616:=au.ok.kids _ (List.getElem_mem bd);exact And.intro aG (And.intro aQ (And.intro aT aS))):=h
def Yit{P}(h:P:=by
 have I:=aW.own.r1.frozenAt k;have J:=aW.own.r2.frozenAt k;have aP:=(bw.cell (Am bq.1)).trans bq.1;have aU:=(bw.cell (Am bq.2)).trans bq.2;have bc:=λX:Au (λz=>z=aj\/z=an) aZ=>X.cell aO bM
 have ba:=λX:Au (λz=>z=aj\/z=an) aZ=>X.cell q1 bM
 have aF:=λX:Au (λz=>z=aj\/z=an) aZ=>X.cell ay (by show¬(aa=aj\/aa=an);omega)
 have bb:=λX:Au (λz=>z=aj\/z=an) aZ=>X.cell s1 (by show¬(aa=aj\/aa=an);omega)
 have a9:=λX:Au (λz=>z=aj\/z=an) aZ=>X.cell bR (by show¬(af=aj\/af=an);omega)
 have x6:=λX:Au (λz=>z=aj\/z=an) aZ=>X.cell bS (by show¬(ae=aj\/ae=an);omega)
 exact And.intro I (And.intro J (And.intro aP (And.intro aU (And.intro bc (And.intro ba (And.intro aF (And.intro bb (And.intro a9 x6))))))))):=h
def Yiv{P}(h:P:=by
 have a0:=bp.below aK;have J: ∀(z:Nat) (I:z<18446744073709551616) (X:World),Below ac.heap.size ac X->Calls prog 72 #[.agg #[.pointer (some ⟨s,0,none⟩), .int .i64 t], .int .u64 (z:Nat)] X (Vt X R t z):=λz I X O=>F9 (a0.below O) t ab z I
 exact And.intro a0 J):=h
def Ykl{P}(h:P:=by
 have I:Below aR.heap.size aR az:=by rw [ao];exact Ac aR
 exact I):=h
def Ykm{P}(h:P:=by
 have I:Below aN.heap.size aN az:=by rw [ao];exact Ac aN
 exact I):=h
def Ykz{P}(h:P:=by
 have I:=λX:Au (λ_=>False) O=>X.cell s1 (λh=>h)
 have J:=λX:Au (λ_=>False) O=>X.cell s2 (λh=>h)
 exact And.intro I J):=h
def Ylh{P}(h:P:=by
 have I: ¬F bF:=λO=>by have:=bT.lt O;have:=bC.2;omega
 have a7 :=am.cell ((aM.cell (Am aD)).trans aD) I;have be :=am.cell ((aM.cell (Am aE)).trans aE) I;have J:=bG.Aq am;have bu :=J.box.at' (i:=2) rfl;exact And.intro I (And.intro a7 (And.intro be (And.intro J bu)))):=h
def Yly{P}(h:P:=by
 have J:=((I.base (ad:=⟨aj,k,none⟩) b5.1 (.int .u64 bg)).base (ad:=⟨an,k,none⟩) (by simpa [World.setCell] using b5.2) (.int .u64 bh)).below (Ac _);exact J):=h
def Ymb{P}(h:P:=by
 have bz:An aC bF 77 [.pointer (some ⟨s,0,none⟩), .int .i64 t]:=by rw [bB];exact(ce.other (p:=⟨aj,k,none⟩) bD.1 _).other (p:=⟨an,k,none⟩) bD.2 _
 exact bz):=h
def Ymh{P}(h:P:=by
 have J:aa≠aw:=λe=>absurd (I.BS.BS 3 2 aa rfl (by rw [e];rfl)) (by decide)
 exact J):=h
def Ynb{P}(h:P:=by
 have bo:=Zh (And.intro (bE k _ b8.1) (bE (k+1) _ b8.2));have bi:=Zh bI;have bm:=Zh bH;have bU:=Zh ((((Ad.below (F:=F) bV).or _).trans bJ));have I:=Zh bz;exact And.intro bo (And.intro bi (And.intro bm (And.intro bU I)))):=h
def Yni{P}(h:P:=by
 have bw:=I.low;have aW:=bs.below bw;have ax:aj<ac.heap.size:=(bs.own.Iv (.inl rfl)).2;have aH:an<ac.heap.size:=(bs.own.Iv (.inr (.inl rfl))).2;exact And.intro bw (And.intro aW (And.intro ax aH))):=h
def Yno{P}(h:P:=by
 have I:=(b9.below (Ac O)).Aq bW;have J:=bU.trans (((cb.trans (Ad.below (Ac O))).trans bW).or _);exact And.intro I J):=h
def Ynr{P}(h:P:=by
 have I:=Zh (Ge (bi.below aq.low) t bO ah bN.2.2.1 bX bY);have bG:=Zh (bm.below aq.low);have aM:=Zh aq.low;have J:=aq.x7 _ rfl;exact And.intro I (And.intro bG (And.intro aM J))):=h
def Ynu{P}(h:P:=by
 have aJ:aj≠an:=λe=>aW.own.a12 aj rfl (by rw [e];rfl)
 exact aJ):=h
def Yov{P}(h:P:=by
 have aq:=I.below (show Below wf.heap.size wf az by rw [ao];exact Ac wf);exact aq):=h
def Yow{P}(h:P:=by
 have I:=Zh (Ge (cc.below (Ac O)) t bO al bN.2.2.2 cf cg);exact I):=h
def Yoy{P}(h:P:=by
 have I:IntKind.u64.wrap ((cs:Int)+1)=(more:Int):=by rw [IntKind.wrap_u64];omega
 exact I):=h
def Ypc{P}(h:P:=by
 have aD:=(I.low.cell (Am bP.1)).trans bP.1;have aE:=(I.low.cell (Am bP.2)).trans bP.2;exact And.intro aD aE):=h
def Yqk{P}(h:P:=by
 have I:=a3.1.size;have J:more<18446744073709551616:=by have:=cj.out;omega
 exact And.intro I J):=h
def Yqv{P}(h:P:=by
 clear bK bZ bW b3 cc b9 cb;go_wp2;go_end0;exact ck.out):=h
def Yre{P}(h:P:=by
 have bD: ¬(bF=aj)/\ ¬(bF=an):=by
  exact Yey
 have bz:=Ymb;have bE: ∀j v,ac.cell? ⟨bf,j,none⟩=some v->aC.cell? ⟨bf,j,none⟩=some v:=λj v h=>by
  exact Ybo
 exact And.intro bD (And.intro bz bE)):=h
end
structure Jx(X:World)(va:V3)(g x:Nat):Prop where
 N:X.heap[g]? =some (.cells #[.int .u64 x] 23 (0,0))
 lt:g<X.heap.size
 off: ¬By va g
theorem Jx.below{va:V3}(h:Jx X va g x)(I:Below X.heap.size X X'):Jx X' va g x:=⟨(I.block g h.lt).trans h.N,Nat.lt_of_lt_of_le h.lt I.size,h.off⟩
theorem Jx.rw{va va' :V3}{r U :Option Nat}(h:Jx X va g x)(hw:Rw X X' r U)(V: ∀k,r=some k->By va k)(O: ∀k,By va' k->By va k\/U =some k):Jx X' va' g x:=by
 have I:r≠some g:=λe=>h.off (V g e)
 refine⟨(hw.1.block g h.lt (λe=>I e.symm)).trans h.N,Nat.lt_of_lt_of_le h.lt hw.1.size,λJ=> ?_⟩;exact Ydl
theorem Jx.YC{v1 v2 v3 v' :Value}(h:Jx X (v1,v2,v3) g x)(hw:Rw X X' v1.ownBlock v'.ownBlock):Jx X' (v',v2,v3) g x:=h.rw hw (λk I=> .inl I) (λk I=>by
 rcases I with I|I|I
 . exact .inr I
 . exact .inl (.inr (.inl I))
 . exact .inl (.inr (.inr I)))
theorem Way.PM{w:World}{a b:BN}{va vb:V3}{p q:Nat}{c6 c7:List Value}(h:Way w X a b (some va) (some vb) (some p) (some q) c6 c7)(x:Nat): ∃X' g,X.alloc (Obj.cells #[.int .u64 x] 23)=X' /\X.heap.size=g/\Way w X' a b (some va) (some vb) (some p) (some q) c6 c7/\Jx X' vb g x/\Below X.heap.size X X' :=by
 have I:=Yoo;exact⟨_,_,rfl,rfl,h.below I,⟨by show(X.heap.push _)[X.heap.size]? =_;simp,by simp,λJ=>by have:=h.BS.lt 1 _ ⟨vb,rfl,J⟩;omega⟩,I⟩
theorem Kd{v:Value}{L:List Nat}(I:X.ownsRow 0 23 1 v l.length (AF l))(J:l.length<=100000)(O:X.heap[g]? =some (.cells #[.int .u64 x] 23 (0,0)))(U:v.ownBlock≠some g)(V:L=x::l):
 Calls prog 88 #[v, .int .i64 0, .slice (some ⟨g,0,none⟩) 1 1] X (JD 0 X v.ownBlock L):=by
 have h:=Pb (Nat.zero_le _) I 0 (Nat.zero_le _) J O U;rw [V]
 simpa using h
section
variable {w:World} {a b:BN} {va:V3} {p q:Nat} {c6 c7:List Value} {v1 v2 v3 v':Value} 
theorem Way.UF(h:Way w X a b (some va) (some (v1,v2,v3)) (some p) (some q) c6 c7)(I:X'.ownsRow 0 23 1 v' l.length (AF l))(hw:Rw X X' v1.ownBlock v'.ownBlock):Way w X' a ⟨l,b.Ab,b.kids,b.size⟩ (some va) (some (v',v2,v3)) (some p) (some q) c6 c7:=(h.swap.LF I hw).swap
theorem Way.Uq(h:Way w X a b (some va) (some (v1,v2,v3)) (some p) (some q) c6 c7)(I:X'.ownsRow 0 23 1 v' l.length (AF l))(hw:Rw X X' v2.ownBlock v'.ownBlock):Way w X' a ⟨b.keys,l,b.kids,b.size⟩ (some va) (some (v1,v',v3)) (some p) (some q) c6 c7:=(h.swap.LG I hw).swap
theorem Way.Aa6(h:Way w X a b (some va) (some (v1,v2,v3)) (some p) (some q) c6 c7)(I:X'.ownsRow 0 23 1 v' l.length (AF l))(hw:Rw X X' v3.ownBlock v'.ownBlock):Way w X' a ⟨b.keys,b.Ab,l,b.size⟩ (some va) (some (v1,v2,v')) (some p) (some q) c6 c7:=(h.swap.UR I hw).swap
end
theorem MY{k:Nat}(h:k<l.length):(l.drop k).take 1= [l[k]]:=by
 rw [List.drop_eq_getElem_cons h];rfl
