/- A part. -/
import Derived.Test.YtiopopoohglepaaGreatDoorVMxj
set_option linter.all false
set_option maxRecDepth 100000
set_option maxHeartbeats 8000000
namespace Go.Proofs.YtiopopoohglepaaGreatDoor
open Go.Proofs.Tryz
open Go.RowKit Go.Shelf
variable {X X':World}{g x:Nat}{l:List Nat}
section
variable {w w':World} {s:Nat} {F:Nat->Prop} {R:Zr} {H:List Nat} {P q most last G:Nat}
def Ybp{P}(h:P:=by
 rw [bC];exact(World.cell?_of_block (a:=⟨bd,j,none⟩) ((Below.heap_setCell _ ⟨an,k,none⟩ _ bd (λe=>bu.own.a23 an rfl (by rw [<-(show bd=an from e)];rfl))).trans (Below.heap_setCell _ ⟨aj,k,none⟩ _ bd (λe=>bu.own.Oq aj rfl (by rw [<-(show bd=aj from e)];rfl))))).trans h):=h
def Ycc{P}(h:P:=by
 replace I:=Zh U;clear U
 iterate 3 (refine AA _ rfl (by decide) (λK d=> ?_);go_wp2;refine d _ _ ?_;clear d K)
 refine AF ?_;clear z0 aB z2 z3 u0 u1 u2 u3;go_wp2_with fail;go_meet
 case rel=>exact⟨D1,ai,d1,d2,I⟩):=h
def Ycg{P}(h:P:=by
 rcases e with e|e
 . exact aV.ob (by rw [e];exact .inl rfl)
 . exact aV.ob (by rw [e];exact .inr (.inl rfl))):=h
def Yes{P}(h:P:=by
 simp only [Option.some.injEq,Addr.mk.injEq] at e;rw [<-e.1];exact bM ae ⟨_,rfl, .inr (.inl rfl)⟩):=h
def Yeu{P}(h:P:=by
 have h1:=(b5.own.IC (.inl rfl)).2;have d:=(b5.own.IC (.inr (.inl rfl))).2;have I:=bD.2;omega):=h
def Yfb{P}(h:P:=by
 simp only [Option.some.injEq,Addr.mk.injEq] at e;rw [<-e.1];exact bM af ⟨_,rfl, .inl rfl⟩):=h
def Ygz{P}(h:P:=by
 have d:=λX:Au (λ_=>False) aO=>X.cell bw (λh=>h)
 have I:=λX:Au (λ_=>False) aO=>X.cell bR (λh=>h)
 exact And.intro d I):=h
def Yid{P}(h:P:=by
 have aG:An aa bG 77 [.pointer (some ⟨s,0,none⟩), .int .i64 t]:=by rw [a1,bs];exact An.new w 77 [.pointer (some ⟨s,0,none⟩), .int .i64 t]
 have ar:=au.below aJ;have aW:=BZ ar.own.r1 ax;have aX:=BZ ar.own.r2 aU;have bi:=BZ ar.own.r3 aY;have bh:=BZ ar.own.r3 bc;have aP:=ar.box.at' (i:=0) rfl;have q1:=ar.box.at' (i:=1) rfl;have aN:=ar.box.at' (i:=2) rfl;exact And.intro aG (And.intro ar (And.intro aW (And.intro aX (And.intro bi (And.intro bh (And.intro aP (And.intro q1 aN)))))))):=h
def Yik{P}(h:P:=by
 have aH:n.keys[k]<18446744073709551616:=au.ok.keys _ (List.getElem_mem ax);have aQ:n.Ab[k]<18446744073709551616:=au.ok.Ab _ (List.getElem_mem aU);have aS:n.kids[k]<18446744073709551616:=au.ok.kids _ (List.getElem_mem aY);have aT:n.kids[k+1]<18446744073709551616:=au.ok.kids _ (List.getElem_mem bc);exact And.intro aH (And.intro aQ (And.intro aS aT))):=h
def Yio{P}(h:P:=by
 have d:=aV.own.r1.frozenAt k;have I:=aV.own.r2.frozenAt k;have aW:=(bz.cell (Al bq.1)).trans bq.1;have aX:=(bz.cell (Al bq.2)).trans bq.2;have ba:=λX:Au (λz=>z=aj\/z=an) aM=>X.cell aP bN
 have bb:=λX:Au (λz=>z=aj\/z=an) aM=>X.cell q1 bN
 have aG:=λX:Au (λz=>z=aj\/z=an) aM=>X.cell aI (by show¬(ac=aj\/ac=an);omega)
 have a9:=λX:Au (λz=>z=aj\/z=an) aM=>X.cell s1 (by show¬(ac=aj\/ac=an);omega)
 have a8:=λX:Au (λz=>z=aj\/z=an) aM=>X.cell bS (by show¬(af=aj\/af=an);omega)
 have x6:=λX:Au (λz=>z=aj\/z=an) aM=>X.cell bT (by show¬(ae=aj\/ae=an);omega)
 exact And.intro d (And.intro I (And.intro aW (And.intro aX (And.intro ba (And.intro bb (And.intro aG (And.intro a9 (And.intro a8 x6))))))))):=h
def Yiq{P}(h:P:=by
 have aZ:=bp.below aJ;have I: ∀(z:Nat) (d:z<18446744073709551616) (X:World),Below aa.heap.size aa X->Calls prog 72 #[.agg #[.pointer (some ⟨s,0,none⟩), .int .i64 t], .int .u64 (z:Nat)] X (U6 X R t z):=λz d X J=>F6 (aZ.below J) t ab z d
 exact And.intro aZ I):=h
def Yjg{P}(h:P:=by
 have d:=λX:Au (λ_=>False) aO=>X.cell s1 (λh=>h)
 have I:=λX:Au (λ_=>False) aO=>X.cell s2 (λh=>h)
 exact And.intro d I):=h
def Ykd{P}(h:P:=by
 have d:Below O.heap.size O ay:=by rw [ao];exact Ac O
 exact d):=h
def Z6{P}(h:P:=by
 have d:Below aR.heap.size aR ay:=by rw [ao];exact Ac aR
 exact d):=h
def Yla{P}(h:P:=by
 have d: ¬F bG:=λJ=>by have:=bU.lt J;have:=bD.2;omega
 have br :=am.cell ((aL.cell (Al aA)).trans aA) d;have bk :=am.cell ((aL.cell (Al aD)).trans aD) d;have I:=bH.Ar am;have bw :=I.box.at' (i:=2) rfl;exact And.intro d (And.intro br (And.intro bk (And.intro I bw)))):=h
def Ylp{P}(h:P:=by
 have d:=((I.base (ad:=⟨aj,k,none⟩) b8.1 (.int .u64 bf)).base (ad:=⟨an,k,none⟩) (by simpa [World.setCell] using b8.2) (.int .u64 be)).below (Ac _);exact d):=h
def Yls{P}(h:P:=by
 have bA:An aC bG 77 [.pointer (some ⟨s,0,none⟩), .int .i64 t]:=by rw [bC];exact(cf.other (p:=⟨aj,k,none⟩) bE.1 _).other (p:=⟨an,k,none⟩) bE.2 _
 exact bA):=h
def Ylx{P}(h:P:=by
 have d:ac≠aw:=λe=>absurd (I.BS.BS 3 2 ac rfl (by rw [e];rfl)) (by decide)
 exact d):=h
def Ymo{P}(h:P:=by
 have bo:=Zh (And.intro (bF k _ b9.1) (bF (k+1) _ b9.2));have bg:=Zh bK;have bm:=Zh bJ;have bV:=Zh ((((Ad.below (F:=F) bW).or _).trans bI));have d:=Zh bA;exact And.intro bo (And.intro bg (And.intro bm (And.intro bV d)))):=h
def Ymw{P}(h:P:=by
 have bz:=I.low;have aV:=bu.below bz;have az:aj<aa.heap.size:=(bu.own.IC (.inl rfl)).2;have aF:an<aa.heap.size:=(bu.own.IC (.inr (.inl rfl))).2;exact And.intro bz (And.intro aV (And.intro az aF))):=h
def Ynb{P}(h:P:=by
 have d:=(cb.below (Ac aO)).Ar bX;have I:=bV.trans (((cc.trans (Ad.below (Ac aO))).trans bX).or _);exact And.intro d I):=h
def Ynd{P}(h:P:=by
 have d:=Zh (Gb (bg.below aq.low) t bP ah bO.2.2.1 bY bZ);have bH:=Zh (bm.below aq.low);have aL:=Zh aq.low;have I:=aq.x7 _ rfl;exact And.intro d (And.intro bH (And.intro aL I))):=h
def Yng{P}(h:P:=by
 have aE:aj≠an:=λe=>aV.own.a12 aj rfl (by rw [e];rfl)
 exact aE):=h
def Yog{P}(h:P:=by
 have aq:=I.below (show Below wf.heap.size wf ay by rw [ao];exact Ac wf);exact aq):=h
def Yoh{P}(h:P:=by
 have d:=Zh (Gb (cd.below (Ac aO)) t bP al bO.2.2.2 cg cj);exact d):=h
def Yoj{P}(h:P:=by
 have d:IntKind.u64.wrap ((cs:Int)+1)=(more:Int):=by rw [IntKind.wrap_u64];omega
 exact d):=h
def Yon{P}(h:P:=by
 have aA:=(I.low.cell (Al bQ.1)).trans bQ.1;have aD:=(I.low.cell (Al bQ.2)).trans bQ.2;exact And.intro aA aD):=h
def Ypu{P}(h:P:=by
 have d:=a2.1.size;have I:more<18446744073709551616:=by have:=ck.out;omega
 exact And.intro d I):=h
def Yqc{P}(h:P:=by
 clear bL b4 bX b3 cd cb cc;go_wp2;go_end0;exact cl.out):=h
def Yql{P}(h:P:=by
 have bE: ¬(bG=aj)/\ ¬(bG=an):=by
  exact Yeu
 have bA:=Yls;have bF: ∀j v,aa.cell? ⟨bd,j,none⟩=some v->aC.cell? ⟨bd,j,none⟩=some v:=λj v h=>by
  exact Ybp
 exact And.intro bE (And.intro bA bF)):=h
end
structure Jy(X:World)(va:V3)(g x:Nat):Prop where
 N:X.heap[g]? =some (.cells #[.int .u64 x] 23 (0,0))
 lt:g<X.heap.size
 off: ¬BA va g
theorem Jy.below{va:V3}(h:Jy X va g x)(d:Below X.heap.size X X'):Jy X' va g x:=⟨(d.block g h.lt).trans h.N,Nat.lt_of_lt_of_le h.lt d.size,h.off⟩
theorem Jy.rw{va va' :V3}{r O :Option Nat}(h:Jy X va g x)(hw:Rw X X' r O)(U: ∀k,r=some k->BA va k)(I: ∀k,BA va' k->BA va k\/O =some k):Jy X' va' g x:=by
 have d:r≠some g:=λe=>h.off (U g e)
 refine⟨(hw.1.block g h.lt (λe=>d e.symm)).trans h.N,Nat.lt_of_lt_of_le h.lt hw.1.size,λJ=> ?_⟩;exact Ydi
theorem Jy.Yd{v1 v2 v3 v' :Value}(h:Jy X (v1,v2,v3) g x)(hw:Rw X X' v1.ownBlock v'.ownBlock):Jy X' (v',v2,v3) g x:=h.rw hw (λk d=> .inl d) (λk d=>by
 rcases d with d|d|d
 . exact .inr d
 . exact .inl (.inr (.inl d))
 . exact .inl (.inr (.inr d)))
theorem Way.PF{w:World}{a b:BN}{va vb:V3}{p q:Nat}{c6 c7:List Value}(h:Way w X a b (some va) (some vb) (some p) (some q) c6 c7)(x:Nat): ∃X' g,X.alloc (Obj.cells #[.int .u64 x] 23)=X' /\X.heap.size=g/\Way w X' a b (some va) (some vb) (some p) (some q) c6 c7/\Jy X' vb g x/\Below X.heap.size X X' :=by
 have d:=Yoa;exact⟨_,_,rfl,rfl,h.below d,⟨by show(X.heap.push _)[X.heap.size]? =_;simp,by simp,λI=>by have:=h.BS.lt 1 _ ⟨vb,rfl,I⟩;omega⟩,d⟩
theorem Kc{v:Value}{L:List Nat}(d:X.ownsRow 0 23 1 v l.length (AG l))(I:l.length<=100000)(J:X.heap[g]? =some (.cells #[.int .u64 x] 23 (0,0)))(O:v.ownBlock≠some g)(U:L=x::l):
 Calls prog 88 #[v, .int .i64 0, .slice (some ⟨g,0,none⟩) 1 1] X (JF 0 X v.ownBlock L):=by
 have h:=O7 (Nat.zero_le _) d 0 (Nat.zero_le _) I J O;rw [U]
 simpa using h
section
variable {w:World} {a b:BN} {va:V3} {p q:Nat} {c6 c7:List Value} {v1 v2 v3 v':Value} 
theorem Way.Uk(h:Way w X a b (some va) (some (v1,v2,v3)) (some p) (some q) c6 c7)(d:X'.ownsRow 0 23 1 v' l.length (AG l))(hw:Rw X X' v1.ownBlock v'.ownBlock):Way w X' a ⟨l,b.Ab,b.kids,b.size⟩ (some va) (some (v',v2,v3)) (some p) (some q) c6 c7:=(h.swap.Lv d hw).swap
theorem Way.T5(h:Way w X a b (some va) (some (v1,v2,v3)) (some p) (some q) c6 c7)(d:X'.ownsRow 0 23 1 v' l.length (AG l))(hw:Rw X X' v2.ownBlock v'.ownBlock):Way w X' a ⟨b.keys,l,b.kids,b.size⟩ (some va) (some (v1,v',v3)) (some p) (some q) c6 c7:=(h.swap.Lx d hw).swap
theorem Way.Aax(h:Way w X a b (some va) (some (v1,v2,v3)) (some p) (some q) c6 c7)(d:X'.ownsRow 0 23 1 v' l.length (AG l))(hw:Rw X X' v3.ownBlock v'.ownBlock):Way w X' a ⟨b.keys,b.Ab,l,b.size⟩ (some va) (some (v1,v2,v')) (some p) (some q) c6 c7:=(h.swap.Uw d hw).swap
end
theorem MV{k:Nat}(h:k<l.length):(l.drop k).take 1= [l[k]]:=by
 rw [List.drop_eq_getElem_cons h];rfl
