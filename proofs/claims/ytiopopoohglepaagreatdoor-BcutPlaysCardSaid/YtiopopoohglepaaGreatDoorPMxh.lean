/- A part. -/
import Derived.Test.YtiopopoohglepaaGreatDoorPMxe
import Derived.Test.YtiopopoohglepaaGreatDoorPMxg
set_option linter.all false
set_option maxRecDepth 100000
set_option maxHeartbeats 4000000
namespace Go.Proofs.YtiopopoohglepaaGreatDoor
open Go.Proofs.Tryz
open Go.RowKit Go.Shelf
theorem WN{t:Nat}(I:BN.A0 t):CD (6*t+2)<=2:=by
 have:=I.2;unfold CD
 split<;>omega
namespace Bt
variable {hg root:Nat}{Aa:List It}{ns:List Nat}
section
variable {R R1:Zr} {t a lo:Nat}
theorem At.IE(I:BN.A0 t): ∀{a lo:Nat} {s:Sb},At R t a lo s->1<=lo->s.ns.length<=s.Aa.length
 |0,lo,s,h,hlo=>by
  have h1:=h.1;have J:=h.2.1;rw [h1];simp;omega
 |a+1,lo,s,h,hlo=>by
  obtain⟨c,l,h1,J,ac,ae,O,U⟩:=h;have t1:=I.1;have af:=At.IE I O (by omega);have V: ∀p∈l,p.2.ns.length<=p.2.Aa.length:=λp hp=>At.IE I (U p hp) (by omega)
  have Z: ∀l:List Lk,(∀p∈l,p.2.ns.length<=p.2.Aa.length)->l.length+(l.flatMap λp=>p.2.ns).length<=(rest l).length:=by
   intro l
   induction l with
   |nil=>intro _;simp
   |cons p l ih=>
    intro h;have aa:=(ih λq ab=>h q (List.mem_cons_of_mem _ ab));have ag:=h p (by simp);rw [BU,List.flatMap_cons];simp only [List.length_cons,List.length_append];omega
  have aa:=Z l V;rw [h1,J];unfold Aj Ax;simp only [List.length_cons,List.length_append];omega
theorem Tree.IE(I:BN.A0 t)(h:Tree R t root Aa ns hg):ns.length<=Aa.length:=by
 rcases h with ⟨_,rfl,rfl,_⟩|⟨a,_,h⟩
 . exact Nat.le_refl _
 . exact At.IE I h (Nat.le_refl _)
theorem Tree.Eh(h:Tree R t root Aa ns hg)(e: ∀z,R z≠none->R1 z=R z):Tree R1 t root Aa ns hg:=by
 rcases h with h|⟨a,h1,I⟩
 . exact .inl h
 . exact .inr ⟨a,h1,I.Eh e⟩
theorem Own.Eh(h:Own R Aa ns)(e: ∀z,R z≠none->R1 z=R z):Own R1 Aa ns:=⟨λi hi=>(h.at' i hi).Eh e,h.CY,h.nodup⟩
theorem Tree.zero(h:Tree R t root Aa ns hg)(O:R 0=none):root=0↔Aa= []:=by
 rcases h with ⟨h1,I,_,_⟩|⟨a,h1,I⟩
 . exact⟨λ_=>I,λ_=>h1⟩
 . have h0:root≠0:=λe=>I.FH O (by have:=DE I;rw [<-e];exact this)
   refine⟨λe=>absurd e h0,λe=> ?_⟩;have J:1<=Aa.length:=by
    cases a with
    |zero=>exact I.2.1
    |succ a=>
     obtain⟨c,l,J,V,U,Z⟩:=I;rw [show Aa=Aj c l from J];unfold Aj
     cases l with
     |nil=>simp at U
     |cons p l=>rw [BU];simp;omega
   rw [e] at J;simp at J
theorem Tree.Vw(I:BN.A0 t)(h:Tree R t root Aa ns hg):root=0\/Bk R t root=0:=by
 rcases h with h|⟨a,_,h⟩
 . exact .inl h.1
 . exact .inr (by obtain⟨n,h1,_⟩:=h.node;exact(h1.get I).2)
theorem Tree.down(I:BN.A0 t)(h:Tree R t root Aa ns hg)(O:R 0=none)(J:Own R Aa ns)(U:Aa.length<549755813888)(key:ByteArray):
 Bv R t key 40 root 0=((Bb Aa key).map (λi=>(i.kh,i.vh)),((AE (AJ Aa) key:Nat):Int)):=by
 rcases h with ⟨rfl,rfl,_,_⟩|⟨a,_,h⟩
 . unfold Bv
   have he:Bk R t 0≠0:=by
    unfold Bk;rw [O];simp
   rw [if_pos he];rfl
 . have:=QU I key a 1 40 ⟨root,Aa,ns⟩ 0 h J.at' J.CY (h.high I U) (by show 0+Aa.length<_;omega)
   simpa using this
theorem RJ{l:List It}{key:ByteArray}{i:It}(h:Bb l key=some i):i∈l/\i.k=key:=by
 unfold Bb at h;exact⟨List.mem_of_find?_eq_some h,by simpa using List.find?_some h⟩
end
end Bt
variable {G' P' n s x:Nat}{w:World}
structure AN(w:World)(s:Nat)(F:Nat->Prop)(R:Zr)(H:List Nat)(P q most last G t root:Nat)(Aa:List It)(ns:List Nat)(hg m:Nat):Prop where
 st:Ah w s F R H P q most last G
 z:R 0=none
 sh:A6 R
 tr:Bt.Tree R t root Aa ns hg
 ow:Bt.Own R Aa ns
 len:H.length=2*Aa.length+ns.length+m
 rt:root<18446744073709551616
section
variable {w':World}  {F F':Nat->Prop} {R R':Zr} {H H':List Nat} {P q most last G t root:Nat} {Aa:List It} {ns:List Nat} {hg m:Nat}
theorem AN.below(h:AN w s F R H P q most last G t root Aa ns hg m)(I:Below w.heap.size w w'):AN w' s F R H P q most last G t root Aa ns hg m:={ h with st:=h.st.below I }
theorem AN.more(h:AN w s F R H P q most last G t root Aa ns hg m)(I:P<=P')(J:G<=G'):AN w s F R H P' q most last G' t root Aa ns hg m:={ h with st:=h.st.more I J }
theorem AN.start(h:Ah w s F (λ_=>none) [] P q most last G)(t:Nat):AN w s F (λ_=>none) [] P q most last G t 0 [] [] 0 0:=
 ⟨h,rfl,(λx ws e=>by cases e), .inl ⟨rfl,rfl,rfl,rfl⟩,⟨λi hi=>by simp at hi,List.Pairwise.nil,by simp⟩,rfl,by decide⟩
theorem AN.ne(h:AN w s F R H P q most last G t root Aa ns hg m): ∀z∈ns++Aa.flatMap It.hs,R z≠none:=λz U=>by
 rcases List.mem_append.1 U with h1|h1
 . rcases h.tr with ⟨_,_,J,_⟩|⟨a,_,J⟩
   . rw [J] at h1;simp at h1
   . obtain⟨ws,I,_⟩:=J.Fp z h1;rw [I];simp
 . obtain⟨i,J,I⟩:=List.mem_flatMap.1 h1
   have O:=h.ow.at' i J;simp only [It.hs,List.mem_cons,List.not_mem_nil,or_false] at I;rcases I with I|I
   . rw [I,O.kt];simp
   . rw [I,O.vt];simp
theorem AN.grow(h:AN w s F R H P q most last G t root Aa ns hg m){k:Nat}(hs:Ah w' s F' R' H' P' q most last G')(e: ∀z,R z≠none->R' z=R z)(I:R' 0=none)(J:A6 R')(O:H'.length=H.length+k):AN w' s F' R' H' P' q most last G' t root Aa ns hg (m+k):=
 ⟨hs,I,J,h.tr.Eh e,h.ow.Eh e,by rw [O,h.len];omega,h.rt⟩
inductive On(w:World)(s:Nat)(F:Nat->Prop)(H:List Nat)(P q most last G t root:Nat)(Aa:List It)(ns:List Nat)(hg m:Nat)(it:It):Ending->World->Prop
 |here {w' :World} {old:It} {R' :Zr} (hf:Bt.Bb Aa it.k=some old) (hb:AN w' s F R' H P q most last G t root (Bt.CE Aa it) ns hg m) (ho:old.At R') (hnd2:((ns++(Bt.CE Aa it).flatMap It.hs)++old.hs).Nodup) (hT:Ad w F w' F):
  On w s F H P q most last G t root Aa ns hg m it (.returned (.tuple #[.int .u64 root, .agg #[.int .u64 old.kh, .int .u64 old.vh], .bool true, .int .i64 0])) w'
 |put {w' :World} {now n:Nat} {R' :Zr} {F' :Nat->Prop} {H' :List Nat} {ns' :List Nat} {hg' :Nat} (hf:Bt.Bb Aa it.k=none) (hl:ns'.length=ns.length+n) (hn:n<=hg+1)
  (hb:AN w' s F' R' H' (P+n*2) q most last (G+n) t now (Bt.BL Aa it) ns' hg' (m-2)) (hT:Ad w F w' F'):
  On w s F H P q most last G t root Aa ns hg m it (.returned (.tuple #[.int .u64 now, .agg #[.int .u64 0, .int .u64 0], .bool false, .int .i64 0])) w'
 |full {w' :World} {n er:Nat} {R' :Zr} {F' :Nat->Prop} (hf:Bt.Bb Aa it.k=none) (hn:n<=hg+1) (he:(er=3/\q<(P+n*2)*64)\/(er=10/\(most<H.length+n\/last<G+n)))
  (hb:AN w' s F' R' H (P+n*2) q most last (G+n) t root Aa ns hg m) (hi:it.At R') (hT:Ad w F w' F'):
  On w s F H P q most last G t root Aa ns hg m it (.returned (.tuple #[.int .u64 0, .agg #[.int .u64 0, .int .u64 0], .bool false, .int .i64 er])) w'
def Yci{P}(h:P:=by
 have I:=List.count_pos_iff.2 O;simp only [List.count_append] at J;omega):=h
def Ydf{P}(h:P:=by
 rw [List.nodup_iff_count];intro z;have J:=V z;rw [aa];rw [U] at J;simp only [List.count_append,List.flatMap_append,List.flatMap_cons] at J ⊢;omega):=h
def Yfy{P}(h:P:=by
 cases Z:Bt.Bb Aa it.k with
 |none=>rfl
 |some old=>rw [Z] at hf;simp at hf):=h
def Yqu{P}(h:P:=by
 have J:=V z;have U:=List.count_pos_iff.2 (List.mem_flatMap.2 ⟨i,hi,I⟩);exact Yci):=h
def Yrj{P}(h:P:=by
 have Gk: ∀z∈it.hs,z∉ns:=λz I O=>by
  have J:=V z;have U:=List.count_pos_iff.2 I;exact Yci
 exact Gk):=h
theorem AN.insert(ac:BN.A0 t)(h:AN w s F R H P q most last G t root Aa ns hg m)(it:It)(hi:it.At R)(hm:2<=m)(aK:((ns++Aa.flatMap It.hs)++it.hs).Nodup)(an:Aa.length<549755813888){e:Ending}
 (aL:Ff w s t F R H P q most last G root it.kh it.vh e w'):On w s F H P q most last G t root Aa ns hg m it e w' :=by
 have az:BG R it.kh=it.k:=Bt.Kk hi;have aM:De R it.kh=0:=(GK hi.kt hi.ks).2;have hd:=h.tr.down ac h.z h.ow an it.k;have aN:=WN ac;have hmul: ∀n,n*CD (6*t+2)<=n*2:=λn=>Nat.mul_le_mul_left n aN
 have V:=List.nodup_iff_count.1 aK
 cases aL with
 |bad hbad hb' =>
  exfalso
  rcases hbad with h1|⟨h1,ag⟩
  . exact h1 aM
  . rcases h.tr.Vw ac with ae|ae
    . exact h1 ae
    . exact ag ae
 |here h0 h1 hf hs hT=>
  rw [az] at hf hs ⊢;rw [hd] at hf;obtain⟨old,hold⟩: ∃old,Bt.Bb Aa it.k=some old:=by
   cases Z:Bt.Bb Aa it.k with
   |none=>rw [Z] at hf;simp at hf
   |some old=>exact⟨old,rfl⟩
  obtain⟨ao,aO⟩:=Bt.RJ hold;rcases h.tr with ⟨_,ag,_⟩|⟨a,aP,hA⟩
  . rw [ag] at ao;simp at ao
  . obtain⟨R',aw,aj,ah⟩:=Bt.SX ac it old a 1 40 ⟨root,Aa,ns⟩ hA h.z (List.nodup_append.1 h.ow.nodup).1 h.ow.at' h.ow.CY hold (hA.high ac an)
    dsimp only at aw aj ah;rw [aw] at hs ⊢;dsimp only at hs ⊢;have ax: ∀i:It,i.At R->(∀z∈i.hs,z∉ns)->i.At R' :=(λi h1 ag=>h1.congr λz I=>ah z (ag z I));have Gk:=Yrj;have al: ∀i∈Aa,∀z∈i.hs,z∉ns:=λi hi z I O=>by
     exact Yqu
    obtain⟨u,v,U⟩:=List.append_of_mem ao;have aa:Bt.CE Aa it=u++it::v:=by
     rw [U];exact Bt.LN (by rw [<-U];exact h.ow.CY) aO
    refine .here hold ⟨hs, ?_, ?_, .inr ⟨a,aP,aj⟩,⟨?_, ?_, ?_⟩, ?_,h.rt⟩ (ax old (h.ow.at' old ao) (al old ao)) ?_ hT
    . rw [ah 0 (hA.FH h.z)];exact h.z
    . intro z ws I
      by_cases am:z∈ns
      . obtain⟨aQ,ay,af⟩:=aj.Fp z am
        rw [ay] at I
        cases I
        have:=ac.2;omega
      . rw [ah z am] at I
        exact h.sh z ws I
    . intro i aq
      rw [aa] at aq;rcases List.mem_append.1 aq with af|af
      . have:i∈Aa:=by rw [U];simp [af]
        exact ax i (h.ow.at' i this) (al i this)
      . rcases List.mem_cons.1 af with ai|ai
        . rw [ai];exact ax it hi Gk
        . have:i∈Aa:=by rw [U];simp [ai]
          exact ax i (h.ow.at' i this) (al i this)
    . rw [Bt.PV h.ow.CY hold]
      exact KY h.ow.CY _
    . exact Ydf
    . rw [Bt.Gf];exact h.len
    . exact Ydf
 |full h0 h1 hf her hs hT=>
  rw [az] at hf hs her;rw [hd] at hf;have ar:Bt.Bb Aa it.k=none:=by
   exact Yfy
  have O:=h.tr.Aae ac h.z h.ow an it.k;have ag:=hmul (CA R t it.k root);refine .full (n:=CA R t it.k root) ar O ?_ ⟨hs.more (by omega) (Nat.le_refl _),h.z,h.sh,h.tr,h.ow,h.len,h.rt⟩ hi hT;rcases her with ⟨ae,ay⟩|ae
  . exact .inl ⟨ae,by omega⟩
  . exact .inr ae
 | @put _ st R1 F' h0 h1 hf hl hfr h64 hs hT O=>
   rw [az] at hf hl hs O ⊢;rw [hd] at hf;have ar:Bt.Bb Aa it.k=none:=by
    exact Yfy
   have aD:=h.tr.Aae ac h.z h.ow an it.k;have aE :Bt.DB R R1 t st.reverse:=⟨λx hx=>hfr.new x (List.mem_reverse.1 hx),List.nodup_iff_count.2 (λz=>by rw [List.count_reverse];exact List.nodup_iff_count.1 hfr.nodup z),λz I=>hfr.old z λh=>I (List.mem_reverse.2 h)⟩;obtain⟨R',now,au,aY,aw,aj,ah,aA⟩:=Bt.T3 ac it h.tr h.z h.ow ar an aE (by rw [List.length_reverse];exact hl);rw [aw] at hs O ⊢;dsimp only at hs O ⊢;have aB: ∀z,List.count z st.reverse=List.count z st:=(λz=>List.count_reverse);have aF: ∀z∈st,R z=none:=(λz I=>(hfr.new z I).1);have aR:=h.ne;have aZ:R it.kh≠none:=(by rw [hi.kt];simp);have a0:R it.vh≠none:=(by rw [hi.vt];simp);have aS: ∀z∈it.hs,R z≠none:=λz I=>by
    simp only [It.hs,List.mem_cons,List.not_mem_nil,or_false] at I;rcases I with rfl|rfl<;>assumption
   have aT: ∀z,List.count z st<=1:=List.nodup_iff_count.1 hfr.nodup;have aU: ∀z,0<List.count z st->List.count z (ns++Aa.flatMap It.hs)=0/\List.count z it.hs=0:=λz I=>by
    have J:=aF z (List.count_pos_iff.1 I);exact⟨List.count_eq_zero.2 λab=>aR z ab J,List.count_eq_zero.2 λab=>aS z ab J⟩
   have aC: ∀i:It,i.At R->(∀z∈i.hs,z∉ns)->i.At R' :=λi h1 ag=>h1.congr λz I=>by
    refine aA z (ag z I) λae=> ?_
    have J:=aF z (List.mem_reverse.1 ae);simp only [It.hs,List.mem_cons,List.not_mem_nil,or_false] at I;rcases I with rfl|rfl
    . rw [h1.kt] at J;cases J
    . rw [h1.vt] at J;cases J
   have Gk:=Yrj;have al: ∀i∈Aa,∀z∈i.hs,z∉ns:=λi hi z I O=>by
    exact Yqu
   have aG :au.length=ns.length+st.length:=by
    have hp:au.Perm (ns++st):=(List.perm_iff_count.2 λz=>by rw [ah z,List.count_append,aB]);rw [hp.length_eq,List.length_append]
   have aH: ∀z,z∈au ↔z∈ns\/z∈st:=λz=>by
    rw [<-List.count_pos_iff,<-List.count_pos_iff,<-List.count_pos_iff,ah z,aB];omega
   have aV:(0:Nat)∉ns:=(λab=>h.ne 0 (List.mem_append.2 (.inl ab)) h.z);have aW:(0:Nat)∉st.reverse:=(λab=>(aE.new 0 ab).2.1 rfl);have aX: ∀z∈au,∃ws,R' z=some ws/\ws.length=6*t:=λz I=>by
    rcases aj with ⟨_,_,ab,_⟩|⟨a,_,ab⟩
    . rw [ab] at I;simp at I
    . exact ab.Fp z I
   have aI:Bt.BL Aa it=Aa.take (AE (Bt.AJ Aa) it.k)++it::Aa.drop (AE (Bt.AJ Aa) it.k):=rfl;have a1:st.length*CD (6*t+2)<=st.length*2:=hmul _;rw [<-hl] at hs aD;refine .put (n:=st.length) ar aG aD ⟨hs.more (by omega) (Nat.le_refl _), ?_, ?_,aj,⟨?_, ?_, ?_⟩, ?_,O⟩ hT
   . rw [aA 0 aV aW];exact h.z
   . intro z ws I
     by_cases am:z∈au
     . obtain⟨aQ,ay,af⟩:=aX z am
       rw [ay] at I
       cases I
       have:=ac.2;omega
     . rw [aA z (λab=>am ((aH z).2 (.inl ab))) (λab=>am ((aH z).2 (.inr (List.mem_reverse.1 ab))))] at I
       exact h.sh z ws I
   . intro i aq
     rw [aI] at aq;rcases List.mem_append.1 aq with af|af
     . have:=List.mem_of_mem_take af
       exact aC i (h.ow.at' i this) (al i this)
     . rcases List.mem_cons.1 af with ai|ai
       . rw [ai];exact aC it hi Gk
       . have:=List.mem_of_mem_drop ai
         exact aC i (h.ow.at' i this) (al i this)
   . rw [Bt.LS h.ow.CY ar]
     exact KY h.ow.CY _
   . rw [List.nodup_iff_count]
     intro z;have J:=V z;have ab:=aT z;have aJ:=aU z;have a2:List.count z (Aa.flatMap It.hs)=List.count z ((Aa.take (AE (Bt.AJ Aa) it.k)).flatMap It.hs)+List.count z ((Aa.drop (AE (Bt.AJ Aa) it.k)).flatMap It.hs):=by
      conv=>lhs;rw [<-List.take_append_drop (AE (Bt.AJ Aa) it.k) Aa]
      rw [List.flatMap_append,List.count_append]
     rw [aI];simp only [List.count_append,List.flatMap_append,List.flatMap_cons] at J aJ ⊢;rw [ah z,aB];by_cases I:0<List.count z st
     . obtain⟨a3,a4⟩:=aJ I
       omega
     . omega
   . rw [List.length_append,List.length_reverse,Bt.E8,aG,h.len]
     omega
end
section
variable {w':World}  {F F':Nat->Prop} {R R':Zr} {H H':List Nat} {P q most last G t root:Nat} {Aa:List It} {ns:List Nat} {hg m:Nat}
end
section
variable {w':World}  {F F':Nat->Prop} {R R':Zr} {H H':List Nat} {P q most last G t root:Nat} {Aa:List It} {ns:List Nat} {hg m:Nat}
theorem AN.TZ(I:BN.A0 t)(h:AN w s F R H P q most last G t root Aa ns hg m)(it:It)(hi:it.At R)(hm:2<=m)(O:((ns++Aa.flatMap It.hs)++it.hs).Nodup)(U:Aa.length<549755813888)(J:it.kh<18446744073709551616/\it.vh<18446744073709551616):
 Calls prog 16 #[.pointer (some ⟨s,0,none⟩), .int .i64 t, .int .u64 root, .agg #[.int .u64 it.kh, .int .u64 it.vh]] w (On w s F H P q most last G t root Aa ns hg m it):=
 (Qs h.st h.sh I root h.rt it.kh it.vh J.1 J.2).mono λ_ _ V=>h.insert I it hi hm O U V
theorem AN.KX(I:BN.A0 t)(h:AN w s F R H P q most last G t root Aa ns hg m)(J:Aa.length<549755813888)(key:ByteArray):
 Calls prog 31 #[.pointer (some ⟨s,0,none⟩), .int .i64 t, .int .u64 root, .string key] w λe w' =>e= .returned (.tuple #[S7 ((Bt.Bb Aa key).map λi=>(i.kh,i.vh)), .bool (Bt.Bb Aa key).isSome])/\Below w.heap.size w w' :=by
 obtain⟨N,O,-⟩:=h.st.rd;have:=M0 O h.sh I root h.rt key;rw [h.tr.down I h.z h.ow J key] at this
 simpa using this
theorem Bt.Tree.size(I:BN.A0 t)(h:Bt.Tree R t root Aa ns hg)(J:R 0=none)(O:Aa.length<549755813888):Cq R t root=(Aa.length:Nat):=by
 have hs:(Af R t root).size=Aa.length:=by
  rcases h with ⟨rfl,rfl,_,_⟩|⟨a,_,h⟩
  . unfold Af;rw [J];rfl
  . exact h.sizeOf I
 unfold Cq;rw [hs];exact IntWalk.wrap64_in _ (by omega)
theorem AN.Yv(I:BN.A0 t)(h:AN w s F R H P q most last G t root Aa ns hg m)(J:Aa.length<549755813888):
 Calls prog 41 #[.pointer (some ⟨s,0,none⟩), .int .i64 t, .int .u64 root] w λe w' =>e= .returned (.int .i64 Aa.length)/\Below w.heap.size w w' :=by
 obtain⟨N,O,-⟩:=h.st.rd;have:=YP O t I root h.rt;rw [h.tr.size I h.z J] at this;exact this
theorem Bt.Tree.Z9(I:BN.A0 t)(h:Bt.Tree R t root Aa ns hg)(J:R 0=none)(O:Aa.length<549755813888):Bo R t 40 root=hg:=by
 rcases h with ⟨rfl,_,_,rfl⟩|⟨a,rfl,h⟩
 . unfold Bo
   rw [if_pos (by unfold Bk;rw [J];simp)]
 . exact Bt.OD I a 1 40 ⟨root,Aa,ns⟩ h (h.high I O)
theorem Bt.Tree.IJ(h:Bt.Tree R t root Aa ns hg): ∀x∈ns,∃ws,R x=some ws/\ws.length=6*t:=λx hx=>by
 rcases h with ⟨_,_,I,_⟩|⟨a,_,I⟩
 . rw [I] at hx;simp at hx
 . exact I.Fp x hx
theorem AN.words(h:AN w s F R H P q most last G t root Aa ns hg m)(hw:Jj R H P n):(6*t+2)*ns.length<=n:=by
 obtain⟨p,rfl,_,_,V⟩:=hw;have h1:=K9 (f:=λx=>((R x).getD []).length+2) ns H (List.nodup_append.1 h.ow.nodup).1 (λx hx=>(h.st.MH x).2 (h.ne x (List.mem_append.2 (.inl hx))));have I:(ns.map λx=>((R x).getD []).length+2)=List.replicate ns.length (6*t+2):=by
  rw [List.eq_replicate_iff];refine⟨by simp,λb J=> ?_⟩;obtain⟨x,hx,rfl⟩:=List.mem_map.1 J;obtain⟨ws,O,U⟩:=h.tr.IJ x hx;rw [O,<-U];rfl
 rw [I,List.sum_replicate_nat] at h1;rw [Nat.mul_comm];omega
def Ycu{P}(h:P:=by
 unfold BF;have I:ns.length<=n/(6*t):=by
  rw [Nat.le_div_iff_mul_le (by omega),Nat.mul_comm];refine Nat.le_trans (Nat.mul_le_mul_right _ (show 6*t<=6*t+2 by omega)) h1
 omega):=h
theorem AN.Ph(J:BN.A0 t)(h:AN w s F R H P q most last G t root Aa ns hg m)(O:Aa.length<549755813888)(hw:Jj R H P n):Bc R t (BF n t) 40 [] root=ns:=by
 have h1:=h.words hw;have t1:=J.1;have hm:ns.length<=BF n t:=by
  exact Ycu
 rcases h.tr with ⟨rfl,_,I,_⟩|⟨a,_,I⟩
 . rw [I]
   unfold Bc;rw [if_pos (.inl (by unfold Bk;rw [h.z];simp))]
 . have:=Bt.Ld J (BF n t) a 1 40 ⟨root,Aa,ns⟩ [] I (I.high J O) (by simpa using hm)
   simpa using this
theorem AN.Wl(I:BN.A0 t)(h:AN w s F R H P q most last G t root Aa ns hg m)(J:Aa.length<549755813888):
 Calls prog 39 #[.pointer (some ⟨s,0,none⟩), .int .i64 t, .int .u64 root] w λe w' => ∃v',e= .returned v' /\w'.ownsRow w.heap.size 23 1 v' ns.length (AF ns)/\Below w.heap.size w w' :=by
 obtain⟨N,O,hw⟩:=h.st.rd;have:=JM O t I root h.rt;rw [h.Ph I J hw] at this;exact this
end
theorem Qo{N nn:Nat}{R:Zr}(h:Rd N w s R nn)(t:Nat)(I:BN.A0 t):
 Calls prog 21 #[.pointer (some ⟨s,0,none⟩), .int .i64 t, .int .u64 0] w λe w' =>e= .returned (.int .i64 0)/\w' =w:=by
 have hA:=Zh (GQ h I);clear h I;go_enter func21,ntmps21;go_wp2_with fail;refine hA.mono ?_;rintro e w1 ⟨rfl,rfl⟩;go_wp2;go_ret;exact⟨rfl,rfl⟩
section
variable {w':World}  {F:Nat->Prop} {R:Zr} {H:List Nat} {P q most last G t root:Nat} {Aa:List It} {ns:List Nat} {hg m:Nat}
theorem Xx(l:List It):JY (l.map HY)=l.flatMap It.hs:=by
 unfold JY;rw [List.flatMap_map];rfl
theorem AN.RO(I:BN.A0 t)(h:AN w s F R H P q most last G t root Aa ns hg m)(O:Aa.length<549755813888)(hw:Jj R H P n):(AO R t 40 ([],BF n t) root).1=Aa.map HY:=by
 have h1:=h.words hw;have t1:=I.1;have hm:ns.length<=BF n t:=by
  exact Ycu
 rcases h.tr with ⟨rfl,U,_,_⟩|⟨a,_,J⟩
 . rw [U]
   unfold AO;rw [if_pos (.inl (by unfold Bk;rw [h.z];simp))];rfl
 . have:=Bt.S3 I a 1 40 ⟨root,Aa,ns⟩ ([],BF n t) J (J.high I O) hm
   rw [show AO R t 40 ([],BF n t) root=_ from this];rfl
theorem AN.Rh(I:BN.A0 t)(h:AN w s F R H P q most last G t root Aa ns hg m)(J:Aa.length<549755813888):
 Calls prog 37 #[.pointer (some ⟨s,0,none⟩), .int .i64 t, .int .u64 root] w λe w' => ∃v',e= .returned v' /\w'.ownsRow w.heap.size 31 2 v' Aa.length (EK (Aa.map HY))/\Below w.heap.size w w' :=by
 obtain⟨N,O,hw⟩:=h.st.rd;have:=Pw O t I root h.rt;rw [h.RO I J hw,List.length_map] at this;exact this
theorem Xz(h:AN w s F R H P q most last G t root Aa ns hg m)(j:Nat)(J:j<(Aa.map HY).length):M1 R (Aa.map HY) j:=by
 have I :j<Aa.length:=by simpa using J
 have g1: ∀i (hi:i<Aa.length),(Aa.map HY).getD i (0,0)=(Aa[i].kh,Aa[i].vh):=λi hi=>by simp [hi,HY]
 have ha:=h.ow.at' _ (List.getElem_mem I);refine⟨?_, ?_, ?_⟩
 . rw [g1 j I];exact(GK ha.kt ha.ks).2
 . rw [g1 j I];exact(GK ha.vt ha.vs).2
 . rcases Nat.eq_zero_or_pos j with h0|h0
   . exact .inl h0
   . refine .inr ?_
     have hm:j-1<Aa.length:=(by omega);have O:=h.ow.at' _ (List.getElem_mem hm);rw [g1 j I,g1 (j-1) hm];dsimp only;rw [Bt.Kk ha,Bt.Kk O];have U:=List.pairwise_iff_getElem.1 h.ow.CY (j-1) j (by rw [Bt.Bz];exact hm) (by rw [Bt.Bz];exact I) (by omega)
     simpa [Bt.AJ,It.pr] using U
theorem AN.O4(I:BN.A0 t)(h:AN w s F R H P q most last G t root Aa ns hg m)(J:Aa.length<549755813888):
 Calls prog 21 #[.pointer (some ⟨s,0,none⟩), .int .i64 t, .int .u64 root] w λe w' =>e= .returned (.int .i64 0)/\Below w.heap.size w w' :=by
 obtain⟨N,U,hw⟩:=h.st.rd;rcases Nat.eq_zero_or_pos root with h0|h0
 . rw [h0]
   exact(Qo U t I).mono (by rintro e w' ⟨rfl,rfl⟩;exact⟨rfl,Below.refl _ _⟩)
 . have O:root≠0:=by omega
   obtain⟨a,Z,hA⟩: ∃a,hg=a+1/\Bt.At R t a 1 ⟨root,Aa,ns⟩:=by
    rcases h.tr with ⟨h1,_⟩|h1
    . exact absurd h1 O
    . exact h1
   have aa:=h.ow.nodup;have V:=L5 U h.sh t I root h.rt O;rw [h.Ph I J hw,h.RO I J hw] at V;refine V.mono ?_;rintro e w' ⟨er,rfl,hs,ab⟩;have ac:Bk R t root=0:=(h.tr.Vw I).resolve_left O;have ae:(Af R t root).size=Aa.length:=hA.sizeOf I;have af:MF R t root=true:=by
    unfold MF;rw [if_neg (λag=>ag ac),h.tr.Z9 I h.z J,Z,Nat.add_sub_cancel];exact Bt.SI I a true ⟨root,Aa,ns⟩ hA (by show Aa.length<_;omega)
   have h0:=hs.Acb af (Xz h) (by rw [Xx];exact aa) (by rw [List.length_map,ae]);exact⟨by rw [h0];rfl,ab⟩
end
section
variable {w':World}  {F F0:Nat->Prop} {R:Zr} {H:List Nat} {P q most last G t root:Nat} {Aa:List It} {ns:List Nat} {hg m:Nat}
def Ydy{P}(h:P:=by
 have:=Hq U h.sh x (U.u64 O).1;obtain⟨g1,g2⟩:=GK O hs;unfold G7 at this;rw [g1,g2] at this;exact this):=h
theorem AN.get_at(h:AN w s F R H P q most last G t root Aa ns hg m){k:ByteArray}(O:R x=some (Tx.A9 k.data.toList))(hs:k.size<=1000):Calls prog 43 #[.pointer (some ⟨s,0,none⟩), .int .u64 x] w λe w' =>e= .returned (.tuple #[.string k, .int .i64 0])/\Below w.heap.size w w' :=by
 obtain⟨n,U,_⟩:=h.st.rd;exact Ydy
def ZR{P}(h:P:=by
 have I:l.length=Aa.length:=by rw [<-J,Bt.Bz]
 exact I):=h
theorem Sf(ac:BN.A0 t)(h:AN w s F R H P q most last G t root Aa ns hg 0)(U:Aa.length<=1000){A:Option Addr}(c:Nat){l:List Pr}(J:Bt.AJ Aa=l)(aG:AK w F0 A (B5 l)):
 Calls prog 24 #[.pointer (some ⟨s,0,none⟩), .int .i64 t, .int .u64 root, .slice A l.length c] w λe w' =>e= .returned (.bool true)/\Below w.heap.size w w' :=by
 have ar:=Zh (h.Rh ac (by omega));have aU:=Zh (λW (O:Below w.heap.size w W)=>(h.below O).O4 ac (by omega));have aV:=Zh (λW (O:Below w.heap.size w W)=>Yo (h.below O).st);have aW:=Zh (λW (O:Below w.heap.size w W)=>(h.below O).Wl ac (by omega));have aX:=Zh (λW (O:Below w.heap.size w W) (it:It) (hi:it∈Aa)=>(h.below O).get_at (h.ow.at' it hi).kt (h.ow.at' it hi).ks);have aY:=Zh (λW (O:Below w.heap.size w W) (it:It) (hi:it∈Aa)=>(h.below O).get_at (h.ow.at' it hi).vt (h.ow.at' it hi).vs);have au:=Zh (And.intro h.len (h.tr.IE ac));have ag:=ZR;have a0:Hid (∀j (ai:j<l.length) (ax:j<Aa.length),l[j]=(Aa[j].k,Aa[j].v)):=Zh λj ai ax=>by
  subst J;simp [Bt.AJ,It.pr]
 have a1:=Zh aG;obtain⟨L,aj⟩:=Zx (Aa.map HY);have ay:L.length=Aa.length:=by rw [aj,List.length_map]
 have a2:Hid (∀j (ai:j<L.length) (ax:j<Aa.length),L[j]=(Aa[j].kh,Aa[j].vh)):=Zh λj ai ax=>by
  subst aj;simp [HY]
 rw [<-aj,<-ay] at ar;have am:Aa.length=L.length:=ay.symm;rw [am] at U ag;simp only [am] at au;have a3:=Zh am;have a4:=Zh ag;rw [ag];clear h aG J aj ay am ag;go_enter func24,ntmps24;go_wp2_with fail;refine ar.mono ?_;rintro e w1 ⟨v9,rfl,az,aH⟩;obtain⟨be,bf,rfl⟩:=Ae az;have ae:=Zh aH;have aI:=Zh az;clear aH az ar;go_wp2_with fail;refine(aU _ ae).mono ?_;rintro e w2 ⟨rfl,I⟩;have af:=Dt;have aJ:=Zh (B6 aI I);clear I aI;go_wp2_with fail;refine(aV _ af).mono ?_;rintro e w3 ⟨bg,aK,rfl,aL,aM,aa⟩;obtain⟨bh,bi,rfl⟩:=Ae aM;have al:=K8;have aN:=Zh (B6 aJ aa);have a5:Hid (aK.length=H.length):=Zh aL.length_eq;clear aa aJ aM aL;go_wp2_with fail;refine(aW _ al).mono ?_;rintro e w4 ⟨bj,rfl,aO,Z⟩;obtain⟨bk,c7,rfl⟩:=Ae aO;have aA:=OZ;have a6:=Zh (B6 aN Z);have bm:((aK.length:Int) !=2*(L.length:Int)+(ns.length:Int))=false:=by
  have:=a5.out;have:=au.1;simp;omega
 have bo:IntKind.i64.wrap (2*(L.length:Int)+(ns.length:Int))=2*(L.length:Int)+(ns.length:Int):=by rw [IntKind.wrap_i64];have:=au.2;omega
 clear Z aN aO;go_wp2
 go_loopw [10] (λaB wr=> ∃j:Nat,j<=L.length/\aB= .int .i64 j/\Hid (Below w4.heap.size w4 wr)) (λaB _=>L.length-(intOf aB).toNat)
 case atStart=>exact⟨0,Nat.zero_le _,rfl,Zh (Below.refl _ _)⟩
 case round=>
  obtain⟨j,ai,rfl,aw⟩:=hrel;have aZ:=ZA;by_cases V:j<L.length
  . have ab:j<Aa.length:=by rw [a3.out];exact V
    have a7:=Zh (B6 a6 aw);obtain⟨g9,a8,bp,_,aC⟩:=JX a7 rfl (by omega);subst a8;have f1:=(aC j V).1;have f2:=(aC j V).2;simp only [a2.out j V ab] at f1 f2;have aD:j<l.length:=(by rw [a4.out];exact V);have ao:=(λW (U:Below w.heap.size w W)=>(a1.Aq (Ad.below U)).U5 aD);simp only [a0.out j aD ab] at ao;have aE:=Zh (aX wr aZ Aa[j] (List.getElem_mem ab));have aF:=Zh (λW U=>aY W U Aa[j] (List.getElem_mem ab));obtain⟨bq,aP⟩:=Zx (Aa[j].kh);obtain⟨b1,aQ⟩:=Zx (Aa[j].vh);obtain⟨br,aR⟩:=Zx (Aa[j].k);obtain⟨bs,aS⟩:=Zx (Aa[j].v);simp only [<-aP,<-aQ,<-aR,<-aS] at f1 f2 aE aF ao;have a9:=Zh ao;have ba:=Zh f2;have bb:=Zh (Am f2);clear ao aC aP aQ aR aS ab aD f2;go_wp2_with fail;refine aE.mono ?_;rintro e bu ⟨rfl,ah⟩;have aq:=Ygt;have aT:=Zh (aw.trans (ah.mono aw.size));have f2:=(ah.cell bb.out).trans ba.out;clear ah f1 aE;go_wp2_with fail;refine(aF _ aq).mono ?_;rintro e w6 ⟨rfl,an⟩;have bc:=Ygu;have bI:=Zh (aT.trans (an.mono aT.size));obtain⟨bv,os,bd,s1,s2⟩:=a9.out _ bc.out;subst bd;clear an f2 aF;exact Yfd
  . obtain rfl:j=L.length:=by omega
    go_wp2;go_ret;exact⟨rfl,aZ⟩
end
theorem Bt.Tree.ZJ{R:Zr}{t root:Nat}{Aa:List It}{ns:List Nat}{hg:Nat}(I:BN.A0 t)(h:Bt.Tree R t root Aa ns hg)(O:Aa.length<=101):hg<=6:=by
 rcases h with ⟨_,_,_,rfl⟩|⟨a,rfl,h⟩
 . omega
 . have h1:=h.YW I
   have U:2^a<=t^a:=Nat.pow_le_pow_left I.1 a;dsimp only at h1;have V:a<6:=Nat.lt_of_not_le λJ=>by
    have:=Nat.pow_le_pow_right (show 0<2 by omega) J;omega
   omega
section
variable {w':World}  {F:Nat->Prop} {R:Zr} {H:List Nat} {P q most last G t root:Nat} {Aa:List It} {ns:List Nat} {hg m:Nat}
inductive TQ(w:World)(s:Nat)(F:Nat->Prop)(P q most last G t root:Nat)(Aa:List It)(m:Nat)(it:It):Ending->World->Prop
 |here {w' :World} {old:It} {R' :Zr} {F' :Nat->Prop} {H' :List Nat} {ns' :List Nat} {hg' :Nat} (hf:Bt.Bb Aa it.k=some old) (hb:AN w' s F' R' H' (P+14) q most last (G+7) t root (Bt.CE Aa it) ns' hg' (m+2)) (ho:old.At R') (hnd:((ns' ++(Bt.CE Aa it).flatMap It.hs)++old.hs).Nodup) (hT:Ad w F w' F'):
  TQ w s F P q most last G t root Aa m it (.returned (.tuple #[.int .u64 root, .agg #[.int .u64 old.kh, .int .u64 old.vh], .bool true, .int .i64 0])) w'
 |put {w' :World} {now:Nat} {R' :Zr} {F' :Nat->Prop} {H' :List Nat} {ns' :List Nat} {hg' :Nat} (hf:Bt.Bb Aa it.k=none) (hb:AN w' s F' R' H' (P+14) q most last (G+7) t now (Bt.BL Aa it) ns' hg' m) (hT:Ad w F w' F'):
  TQ w s F P q most last G t root Aa m it (.returned (.tuple #[.int .u64 now, .agg #[.int .u64 0, .int .u64 0], .bool false, .int .i64 0])) w'
theorem AN.PC(J:BN.A0 t)(h:AN w s F R H P q most last G t root Aa ns hg (m+2))(it:It)(hi:it.At R)(O:((ns++Aa.flatMap It.hs)++it.hs).Nodup)(I:Aa.length<=101)(U:it.kh<18446744073709551616/\it.vh<18446744073709551616)(r1:(P+14)*64<=q)(r2:H.length+7<=most)(r3:G+7<=last):
 Calls prog 16 #[.pointer (some ⟨s,0,none⟩), .int .i64 t, .int .u64 root, .agg #[.int .u64 it.kh, .int .u64 it.vh]] w (TQ w s F P q most last G t root Aa m it):=
 (h.TZ J it hi (by omega) O (by omega) U).mono λe w' V=>by
  have hh:=h.tr.ZJ J I
  cases V with
  |here hf I ho hnd2 hT=>exact .here hf (I.more (by omega) (by omega)) ho hnd2 hT
  |put hf hl hn I hT=>exact .put hf (I.more (by omega) (by omega)) hT
  |full hf hn he I hi hT=>exfalso;omega
end
section
variable {w':World}  {F F':Nat->Prop} {R R':Zr} {H H':List Nat} {P q most last G t root:Nat} {Aa:List It} {ns:List Nat} {hg m:Nat}
theorem AN.less(h:AN w s F R H P q most last G t root Aa ns hg (m+1))(hx:R x≠none)(J:x∉ns++Aa.flatMap It.hs)(hs:Ah w' s F' (AQ R x none) (H.erase x) P q most last G):AN w' s F' (AQ R x none) (H.erase x) P q most last G t root Aa ns hg m:=by
 have hm:x∈H:=(h.st.MH x).2 hx;have he: ∀z∈ns++Aa.flatMap It.hs,AQ R x none z=R z:=λz I=>Aw (λe=>J (e▸I))
 have h0:x≠0:=λe=>hx (by rw [e];exact h.z)
 refine⟨hs, ?_, ?_, ?_,⟨?_,h.ow.CY,h.ow.nodup⟩, ?_,h.rt⟩
 . rw [Aw (λe=>h0 e.symm)];exact h.z
 . intro z ws I
   by_cases e:z=x
   . subst e;rw [AT] at I;cases I
   . rw [Aw e] at I;exact h.sh z ws I
 . rcases h.tr with h1|⟨a,h1,O⟩
   . exact .inl h1
   . exact .inr ⟨a,h1,O.congr λz I=>he z (List.mem_append.2 (.inl I))⟩
 . intro i hi
   exact(h.ow.at' i hi).congr λz I=>he z (List.mem_append.2 (.inr (List.mem_flatMap.2 ⟨i,hi,I⟩)))
 . rw [List.length_erase_of_mem hm,h.len];omega
end
theorem Ah.Da{F:Nat->Prop}{R:Zr}{H:List Nat}{P q most last G:Nat}(h:Ah w s F R H P q most last G):1<w.heap.size:=by
 obtain⟨J,⟨_,_,_,_,_,_,_,_,_,_,_,_,_,_,_,_,_,_,_,I⟩,-⟩:=h.rd;exact I.2
section
variable {w':World}  {F:Nat->Prop} {R:Zr} {H:List Nat} {P q most last G t root:Nat} {Aa:List It} {ns:List Nat} {hg m:Nat}
theorem F8{W:World}{I:Nat}{F' :Nat->Prop}{T:TypeId}{vs:List Value}(aa:AN W s F' R H P q most last G t root Aa ns hg m)(ab:Ad w F W F')(ac:w.heap.size<=I)(J:An W I T vs)(ae: ∃v,vs[0]? =some v/\ ∀p,v≠ .pointer p)(O: ¬F' I)(h1:s<I/\1<I)(c d:Value):
 AN ((W.setCell ⟨I,0,none⟩ c).setCell ⟨I,1,none⟩ d) s F' R H P q most last G t root Aa ns hg m/\Ad w F ((W.setCell ⟨I,0,none⟩ c).setCell ⟨I,1,none⟩ d) F' :=by
 obtain⟨v0,Z,V⟩:=ae;refine⟨{ aa with st:=aa.st.grown (Bi (A3 W I 0 _) (A3 _ I 1 _)) (λk U=> ?_) },ab.minus ((Ad.GI W F' I 0 _).trans (Ad.GI _ F' I 1 _)) ac⟩;exact Ydo
end
section
variable {w':World}  {F:Nat->Prop} {R:Zr} {H:List Nat} {P q most last G t root:Nat} {Aa:List It} {ns:List Nat} {hg m:Nat}
def AaF(w:World)(s:Nat)(F:Nat->Prop)(H:List Nat)(P q most last G t root:Nat)(Aa:List It)(ns:List Nat)(hg m:Nat)(p:Pr)(e:Ending)(w' :World):Prop:=
 ∃(it:It) (R' :Zr) (F' :Nat->Prop) (H' :List Nat),e= .returned (.agg #[.int .u64 it.kh, .int .u64 it.vh])/\it.k=p.1/\it.v=p.2/\AN w' s F' R' H' (P+6) q most last (G+2) t root Aa ns hg (m+2)/\it.At R' /\((ns++Aa.flatMap It.hs)++it.hs).Nodup/\Ad w F w' F' /\(it.kh<18446744073709551616/\it.vh<18446744073709551616)/\H'.length=H.length+2
def Ykp{P}(h:P:=by
 have I:=Zh (show w.heap.size<=ai/\w.heap.size<=aI/\s<aI/\1<aI from⟨by omega,by omega,by omega,by omega⟩);exact I):=h
def Ypf{P}(h:P:=by
 have I: ∀z,w.heap.size<=z-> ¬F z:=λz O J=>by have:=h.st.lt J;omega
 exact I):=h
theorem Nn(h:AN w s F R H P q most last G t root Aa ns hg m)(p:Pr)(h1:p.1.size<=1000)(al:p.2.size<=1000)(r1:(P+6)*64<=q)(r2:H.length+2<=most)(r3:G+2<=last):
 Calls prog 17 #[.pointer (some ⟨s,0,none⟩), .agg #[.string p.1, .string p.2]] w (AaF w s F H P q most last G t root Aa ns hg m p):=by
 have aU:=h.st.FP;have aV:=h.st.Da;obtain⟨aq,aC⟩:=Zx ((w.alloc (Obj.cells #[Value.string p.1,Value.string p.2] 45)).alloc (Obj.cells #[.int .u64 0, .int .u64 0] 31));obtain⟨ai,aB⟩:=Zx w.heap.size;obtain⟨aI,aN⟩:=Zx (w.heap.size+1);have V:=Xa;have J:An aq ai 45 [Value.string p.1,Value.string p.2]:=by rw [aC,aB];exact(An.new w 45 [Value.string p.1,Value.string p.2]).alloc _
 have ab:An aq aI 31 [.int .u64 0, .int .u64 0]:=by
  rw [aC,aN];have:=An.new (w.alloc (Obj.cells #[Value.string p.1,Value.string p.2] 45)) 31 [.int .u64 0, .int .u64 0]
  rwa [show(w.alloc (Obj.cells #[Value.string p.1,Value.string p.2] 45)).heap.size=w.heap.size+1 by simp] at this
 have aA:=Ypf;have aT:=Pn h1;have aS:=Pn al;have aG:=RY (n:=(Tx.A9 p.1.data.toList).length+2) (by omega);have aQ:=RY (n:=(Tx.A9 p.2.data.toList).length+2) (by omega);have aD:=Zh (SN (h.st.below V) p.1 h1);have an:=Zh (And.intro h (And.intro r1 (And.intro r2 r3)));have ao:=Zh (And.intro h1 al);have aa:=VB;have ac:=Ykp;obtain⟨aW,aE,aM⟩:=EA;have ar:=Zh aA;have au:=QG;have c3:aq.cell? ⟨ai,0,none⟩=some (.string p.1):=J.at' (i:=0) rfl;rw [aC,aB] at c3;clear h h1 al aG aQ aT aS aC aB aN V J ab aA aU aV r1 r2 r3;go_enter func17,ntmps17;go_wp2_with fail;rw [<-au.1,<-au.2.2,<-au.2.1];refine aD.mono ?_;clear c3;rintro e w1 (⟨I,aX,n1,af,ag,rfl,aw,am⟩|⟨er,aX,rfl,aF,aw,am⟩)
 . have aH:=Zh (SN aw p.2 ao.2)
   have aY:=Zh (aW.Aq am (ar _ ac.1));have aJ:=Zh (aE.Aq am (ar _ ac.2.1));have aK:=Zh (am.not aE.lt (ar _ ac.2.1));have c1:=aY.at' (i:=1) rfl;have aZ:=Zh (And.intro n1 (And.intro af ag));have a0:=Uk;clear aw am n1 aD af ag;go_wp2_with fail;refine aH.mono ?_;rintro e w2 (⟨O,F2,n2,ah,aj,rfl,ax,ae⟩|⟨er,F2,rfl,aF,ax,ae⟩)
   . have aL:=ae.not aJ.lt aK.out
     have z4:=aJ.Aq ae aK.out;have aO:=Zh (Df ax (a0.trans ae) ac.2.1 z4 ⟨_,rfl,λp ay=>by cases ay⟩ aL ac.2.2 (.int .u64 I) (.int .u64 O));obtain⟨⟨d0,d1⟩,f0,f1⟩:=CV z4;have a1:=Zh ((z4.set 0 (.int .u64 I)).set 1 (.int .u64 O));have a2:=Zh (And.intro n2 (And.intro ah aj));clear ax ae aH c1 aL z4 n2 ah aj;go_wp2;obtain⟨a3,r1⟩:=AX a1.out;refine bodyPost_ret (v:= .agg #[.int .u64 I, .int .u64 O]) (by simp [results,f17,go_sem,a3,r1]) rfl ?_;obtain⟨n1,af,ag⟩:=aZ.out;obtain⟨n2,ah,aj⟩:=a2.out;have U:=an.1;have az:I≠O:=(λe=>by rw [<-e,AT] at n2;cases n2);have aP :R O=none:=(by rwa [Aw (Ne.symm az)] at n2);have hold: ∀z,R z≠none->AQ (AQ R I (some (Tx.A9 p.1.data.toList))) O (some (Tx.A9 p.2.data.toList)) z=R z:=λz Z=>by
      rw [Aw (λe=>Z (by rw [e];exact aP)),Aw (λe=>Z (by rw [e];exact n1))]
     have hs:=aO.1.more (show P+CD ((Tx.A9 p.1.data.toList).length+2)+CD ((Tx.A9 p.2.data.toList).length+2)<=P+6 by have:=aa.out;omega) (show G+1+1<=G+2 by omega);have a4:A6 (AQ (AQ R I (some (Tx.A9 p.1.data.toList))) O (some (Tx.A9 p.2.data.toList))):=((U.sh.B7 I _ λws Z=>by cases Z;have:=aa.2.2.1;omega).B7 O _ λws Z=>by cases Z;have:=aa.2.2.2;omega);refine⟨⟨I,O,p.1,p.2⟩,_,_,_,rfl,rfl,rfl,U.grow (k:=2) hs hold (by rw [Aw (Ne.symm ah),Aw (Ne.symm af)];exact U.z) a4 (by simp),⟨?_,AT _ _ _,ao.1,ao.2⟩, ?_,aO.2,⟨ag,aj⟩,by simp⟩
     . show AQ (AQ R I _) O _ I=_
       rw [Aw az,AT]
     . rw [List.nodup_append]
       refine⟨U.ow.nodup,by simp [It.hs,az],λa ha b aR e=> ?_⟩;simp only [It.hs,List.mem_cons,List.not_mem_nil,or_false] at aR;rcases aR with rfl|rfl
       . exact U.ne a ha (by rw [e];exact n1)
       . exact U.ne a ha (by rw [e];exact aP)
   . exfalso
     have ay:=an.2;have a5:=aa.out;simp only [List.length_cons] at aF;omega
 . exfalso
   have ay:=an.2;have a5:=aa.out;omega
theorem N5(h:AN w s F R H P q most last G t root Aa ns hg (m+2)){it:It}(hi:it.At R)(al:((ns++Aa.flatMap It.hs)++it.hs).Nodup):
 Calls prog 20 #[.pointer (some ⟨s,0,none⟩), .agg #[.int .u64 it.kh, .int .u64 it.vh]] w λe w' => ∃(R' :Zr) (F' :Nat->Prop) (H' :List Nat),e= .returned (.tuple #[.agg #[.string it.k, .string it.v], .bool true])/\AN w' s F' R' H' P q most last G t root Aa ns hg m/\H'.length+2=H.length/\Ad w F w' F' :=by
 have ac:it.kh∉ns++Aa.flatMap It.hs:=λhm=>(List.nodup_append.1 al).2.2 _ hm it.kh (by simp [It.hs]) rfl
 have aK:it.vh∉ns++Aa.flatMap It.hs:=λhm=>(List.nodup_append.1 al).2.2 _ hm it.vh (by simp [It.hs]) rfl
 have ao:it.vh≠it.kh:=λe=>by
  have:=(List.nodup_append.1 al).2.1;simp [It.hs,e] at this
 have a3:=h.st.FP;have a4:=h.st.Da;obtain⟨aq,aC⟩:=Zx ((w.alloc (Obj.cells #[.int .u64 it.kh, .int .u64 it.vh] 31)).alloc (Obj.cells #[Value.string ⟨#[]⟩,Value.string ⟨#[]⟩] 45));obtain⟨ai,aB⟩:=Zx w.heap.size;obtain⟨aI,aN⟩:=Zx (w.heap.size+1);have V:=Xa;have J:An aq ai 31 [.int .u64 it.kh, .int .u64 it.vh]:=by rw [aC,aB];exact(An.new w 31 [.int .u64 it.kh, .int .u64 it.vh]).alloc _
 have ab:An aq aI 45 [Value.string ⟨#[]⟩,Value.string ⟨#[]⟩]:=by
  rw [aC,aN];have:=An.new (w.alloc (Obj.cells #[.int .u64 it.kh, .int .u64 it.vh] 31)) 45 [Value.string ⟨#[]⟩,Value.string ⟨#[]⟩]
  rwa [show(w.alloc (Obj.cells #[.int .u64 it.kh, .int .u64 it.vh] 31)).heap.size=w.heap.size+1 by simp] at this
 have aL:=Ypf;have ar:Hid (∀W,Below w.heap.size w W-> ∀(x:Nat) (k:ByteArray),R x=some (Tx.A9 k.data.toList)->k.size<=1000->Calls prog 43 #[.pointer (some ⟨s,0,none⟩), .int .u64 (x:Nat)] W λe w' =>e= .returned (.tuple #[.string k, .int .i64 0])/\Below W.heap.size W w'):=Zh (λW Z x k O hs=>by
  obtain⟨n,U,_⟩:=(h.st.below Z).rd;exact Ydy)
 have aM:=Zh (ar aq V it.kh it.k hi.kt hi.ks);have aO:=Zh (λW (Z:Below w.heap.size w W)=>ar W Z it.vh it.v hi.vt hi.vs);have au:R it.kh≠none:=by rw [hi.kt];simp
 have aw:it.kh∈H:=(h.st.MH it.kh).2 au;have aP:Hid (∀W,Below w.heap.size w W->Calls prog 38 #[.pointer (some ⟨s,0,none⟩), .int .u64 it.kh] W λe w' => ∃F2,e= .returned (.int .i64 0)/\AN w' s F2 (AQ R it.kh none) (H.erase it.kh) P q most last G t root Aa ns hg (m+1)/\Ad W F w' F2):=Zh (λW Z=>by
  have ax:=h.below Z;refine(Jl ax.st ax.sh hi.kt (Tx.Es it.k hi.ks).1).mono ?_;rintro e w' ⟨F2,rfl,ay,az⟩;exact⟨F2,rfl,AN.less (m:=m+1) ax au ac ay,az⟩)
 have aA:AQ R it.kh none it.vh=some (Tx.A9 it.v.data.toList):=by rw [Aw ao];exact hi.vt
 have aD:it.vh∈H.erase it.kh:=(List.mem_erase_of_ne ao).2 ((h.st.MH it.vh).2 (by rw [hi.vt];simp));have aQ:Hid (∀W F',AN W s F' (AQ R it.kh none) (H.erase it.kh) P q most last G t root Aa ns hg (m+1)->Calls prog 38 #[.pointer (some ⟨s,0,none⟩), .int .u64 it.vh] W λe w' => ∃F2,e= .returned (.int .i64 0)/\AN w' s F2 (AQ (AQ R it.kh none) it.vh none) ((H.erase it.kh).erase it.vh) P q most last G t root Aa ns hg m/\Ad W F' w' F2):=Zh (λW F' Z=>by
  refine(Jl Z.st Z.sh aA (Tx.Es it.v hi.vs).1).mono ?_;rintro e w' ⟨F2,rfl,ay,az⟩;exact⟨F2,rfl,Z.less (by rw [aA];simp) aK ay,az⟩)
 have hlen:Hid (((H.erase it.kh).erase it.vh).length+2=H.length):=Zh (by
  have h1:=List.length_erase_of_mem aw;have bd:=List.length_erase_of_mem aD;have be:=List.length_pos_of_mem aw;have bf:=List.length_pos_of_mem aD;omega)
 obtain⟨aU,aW,ae⟩:=EA;have am:=Zh aL;have aE:=QG;have ag:=Ykp;generalize (H.erase it.kh).erase it.vh=H2 at*;generalize AQ (AQ R it.kh none) it.vh none=R2 at*;generalize it.kh=kh at*;generalize it.vh=vh at*;generalize it.k=k at*;generalize it.v=v at*;have c3:aq.cell? ⟨ai,0,none⟩=some (.int .u64 kh):=J.at' (i:=0) rfl;rw [aC,aB] at c3;clear aC aB aN J ab V h aA aw aD au ac aK ao al hi ar aL a3 a4;go_enter func20,ntmps20;go_wp2_with fail;rw [<-aE.1,<-aE.2.2,<-aE.2.1];refine aM.mono ?_;clear c3;rintro e w1 ⟨rfl,I⟩;obtain⟨aR,a5⟩:=XX;have af:=Dt;have c1:=aR.at' (i:=1) rfl;clear I aM;go_wp2_with fail;refine(aO _ af).mono ?_;rintro e w2 ⟨rfl,aa⟩;have z3:=Zh (aR.below aa);have z4:=Zh (a5.below aa);have aF:=K8;have a7:=λX:Au F w2=>X.cell (z3.at' (i:=0) rfl) (am _ ag.1)
 have q1:=λX:Au F w2=>X.cell (z3.at' (i:=1) rfl) (am _ ag.1)
 clear aa c1 aO;go_wp2;refine As (λw' => ∃X:Au F w2,w' =X.W) [.r 0, .r 1, .r 2, .r 4, .r 5, .r 6, .a 3, .a 7, .r 8, .r 9] (Ay _ _) ?_
 iterate 6 (refine AH ?_;go_simp)
 clear a7 q1;refine AI _ rfl (λaG ah=> ?_);have aS:=Zh (aF.trans ((Ac w2).mono aF.size));go_wp2_with fail;refine(aP _ aS).mono ?_;rintro e w3 ⟨bg,rfl,aT,aX⟩;have aH:=Zh ((Ad.below (F:=F) (Ac w2)).trans aX);have aY:=Zh aT;clear aT aX aP aS;go_wp2;refine ah _ _ ⟨⟨w3,aH.size,λk ac aJ=>aH.keep k ac aJ⟩,rfl⟩ ?_;clear ah aG;refine AI _ rfl (λaG ah=> ?_);go_wp2_with fail;refine(aQ _ _ aY).mono ?_;rintro e w4 ⟨a8,rfl,aZ,a0⟩;have aj:=Zh (aH.trans a0);have a9:=Zh aZ;clear aZ a0 aQ aY;go_wp2;refine ah _ _ ⟨⟨w4,aj.size,λk ac aJ=>aj.keep k ac aJ⟩,rfl⟩ ?_;clear ah aG
 iterate 2 (refine AH ?_;go_simp)
 refine AP ?_;have an:=z4.Aq aj (am _ ag.2.1);have a1:=aj.not z4.lt (am _ ag.2.1);obtain⟨⟨d0,d1⟩,f0,f1⟩:=CV an;have ba:=Zh ((an.set 0 (.string k)).set 1 (.string v));have a2:=Zh (F8 a9 ((Ad.below (F:=F) aF).trans aj) ag.2.1 an ⟨_,rfl,λp bb=>by cases bb⟩ a1 ag.2.2 (.string k) (.string v));clear an a1;go_wp2;obtain⟨bc,r1⟩:=AX ba.out;exact bodyPost_ret (v:= .tuple #[.agg #[.string k, .string v], .bool true]) (by simp [results,f20,go_sem,bc,r1]) rfl ⟨R2,a8,H2,rfl,a2.1,hlen,a2.2⟩
end
section
variable (R:Zr) (t:Nat)
def CI(l:List Nat)(k:Nat):Nat:=if l= [] then 0 else (Af R t (l.getD k 0)).size
def Bl(n:BN)(k:Nat):Bool:=decide (k<n.kids.length)&&decide (t<=(Af R t (n.kids.getD k 0)).keys.length)
end
def Ip(a b:BN)(kh vh:Nat):BN:=⟨a.keys++kh::b.keys,a.Ab++vh::b.Ab,a.kids++b.kids,(a.size+(b.size+1))%18446744073709551616⟩
def Il(a b:BN)(kh vh more:Nat):BN:=⟨a.keys++ [kh],a.Ab++ [vh],a.kids++b.kids.take 1,(a.size+more)%18446744073709551616⟩
def Iq(b:BN)(more:Nat):BN:=⟨b.keys.drop 1,b.Ab.drop 1,b.kids.drop 1,(b.size+18446744073709551616-more)%18446744073709551616⟩
def Ik(a:BN)(more:Nat):BN:=⟨a.keys.take (a.keys.length-1),a.Ab.take (a.keys.length-1),a.kids.take a.keys.length,(a.size+18446744073709551616-more)%18446744073709551616⟩
def Ih(a b:BN)(kh vh more:Nat):BN:=⟨kh::b.keys,vh::b.Ab,(a.kids.drop a.keys.length).take 1++b.kids,(b.size+more)%18446744073709551616⟩
namespace BN
def Dm (n:BN)(k a b:Nat):BN:=⟨n.keys.set k a,n.Ab.set k b,n.kids,n.size⟩
def HI(n:BN)(k:Nat):BN:=⟨n.keys.eraseIdx k,n.Ab.eraseIdx k,n.kids,n.size⟩
def Jc(n:BN)(k:Nat):BN:=⟨n.keys,n.Ab,n.kids.eraseIdx k,n.size⟩
def less(n:BN):BN:=⟨n.keys,n.Ab,n.kids,(n.size+18446744073709551615)%18446744073709551616⟩
end BN
section
variable (R:Zr) (t:Nat)
def BO(n:BN)(k:Nat):(Zr) × BN:=
 (AQ (Bp R t (n.kids.getD k 0) (Ip (Af R t (n.kids.getD k 0)) (Af R t (n.kids.getD (k+1) 0)) (n.keys.getD k 0) (n.Ab.getD k 0))) (n.kids.getD (k+1) 0) none,(n.HI k).Jc (k+1))
def DF(n:BN)(k:Nat):(Zr) × BN:=
 let a:=Af R t (n.kids.getD k 0);let b:=Af R t (n.kids.getD (k+1) 0);let more:=(CI R t b.kids 0+1)%18446744073709551616
 (Bp (Bp R t (n.kids.getD k 0) (Il a b (n.keys.getD k 0) (n.Ab.getD k 0) more)) t (n.kids.getD (k+1) 0) (Iq b more),n.Dm k (b.keys.getD 0 0) (b.Ab.getD 0 0))
def E1(n:BN)(k:Nat):(Zr) × BN:=
 let a:=Af R t (n.kids.getD k 0);let b:=Af R t (n.kids.getD (k+1) 0);let more:=(CI R t a.kids (a.kids.length-1)+1)%18446744073709551616
 (Bp (Bp R t (n.kids.getD k 0) (Ik a more)) t (n.kids.getD (k+1) 0) (Ih a b (n.keys.getD k 0) (n.Ab.getD k 0) more),n.Dm k (a.keys.getD (a.keys.length-1) 0) (a.Ab.getD (a.keys.length-1) 0))
def Bw(n:BN)(k:Nat):(Zr) × BN × List Nat × Nat:=
 if Bl R t n k then (R,n,[],k)
 else if 0<k/\Bl R t n (k-1) then ((E1 R t n (k-1)).1,(E1 R t n (k-1)).2,[],k)
 else if Bl R t n (k+1) then ((DF R t n k).1,(DF R t n k).2,[],k)
 else if 0<k then ((BO R t n (k-1)).1,(BO R t n (k-1)).2,[n.kids.getD (k-1+1) 0],k-1)
 else if k+1<n.kids.length then ((BO R t n k).1,(BO R t n k).2,[n.kids.getD (k+1) 0],k)
 else (R,n,[],k)
end
abbrev Wh:=(Zr)->BN->Nat × Bool
def Ha(key:ByteArray):Wh:=λR n=>(DL R n.keys key,Gw R n.keys key)
def Cv:Wh:=λ_ n=>(0,decide (n.kids= [])&&decide (0<n.keys.length))
def Ci:Wh:=λ_ n=>if n.kids= [] then (n.keys.length-1,decide (0<n.keys.length)) else (n.keys.length,false)
def AR(t:Nat):Nat->(Zr)->Nat->Wh->(Zr) × List Nat × (Nat × Nat)
 |0,R,_,_=>(R,[],(0,0))
 |f+1,R,h,g=>tkGo t R h (Af R t h) (g R (Af R t h)).1 (g R (Af R t h)).2 (λR x=>AR t f R x g) (λR x=>AR t f R x Ci) (λR x=>AR t f R x Cv)
where
 tkGo (t:Nat) (R:Zr) (h:Nat) (n:BN) (k:Nat) (here:Bool) (rec recG recL:(Zr)->Nat->(Zr) × List Nat × (Nat × Nat)):(Zr) × List Nat × (Nat × Nat):=
  if n.kids= [] then cond here (Bp R t h (n.less.HI k),[],(n.keys.getD k 0,n.Ab.getD k 0)) (R,[],(0,0))
  else cond here
   (if Bl R t n k then tkIn t h n.less k (n.keys.getD k 0,n.Ab.getD k 0) (recG R (n.kids.getD k 0))
    else if Bl R t n (k+1) then tkIn t h n.less k (n.keys.getD k 0,n.Ab.getD k 0) (recL R (n.kids.getD (k+1) 0))
    else tkOn t h (BO R t n.less k).1 (BO R t n.less k).2 [n.kids.getD (k+1) 0] k rec)
   (tkOn t h (Bw R t n.less k).1 (Bw R t n.less k).2.1 (Bw R t n.less k).2.2.1 (Bw R t n.less k).2.2.2 rec)
 tkIn (t h:Nat) (n:BN) (k:Nat) (a:Nat × Nat) (p:(Zr) × List Nat × (Nat × Nat)):(Zr) × List Nat × (Nat × Nat):=
  (Bp p.1 t h (n.Dm k p.2.2.1 p.2.2.2),p.2.1,a)
 tkOn (t h:Nat) (R:Zr) (n:BN) (d:List Nat) (k:Nat) (rec:(Zr)->Nat->(Zr) × List Nat × (Nat × Nat)):(Zr) × List Nat × (Nat × Nat):=
  let p:=rec (Bp R t h n) (n.kids.getD k 0)
  (p.1,d++p.2.1,p.2.2)
namespace Bt
variable {lo lo1 lo2 more:Nat}
section
variable {R R':Zr} {t a:Nat}
theorem At.nd{s:Sb}(h:At R t a lo s): ∃n,KP R t s.h n/\lo<=n.keys.length/\(∀I,I <=n.keys.length->At R t a I s)/\n.size=s.Aa.length/\n.keys.length<=s.Aa.length:=by
 cases a with
 |zero=>
  obtain⟨h1,O,J⟩:=h;exact⟨Ar s.Aa,J,by simpa [Ar] using O,λI U=>⟨h1,by simpa [Ar] using U,J⟩,rfl,by simp [Ar]⟩
 |succ a=>
  obtain⟨c,l,h1,O,J,V,Z⟩:=h;exact⟨Al c l,V,by simpa [Al] using J,λI U=>⟨c,l,h1,O,by simpa [Al] using U,V,Z⟩,by rw [h1];rfl,by rw [h1,IK];simp [Al]⟩
theorem At.up(O:BN.A0 t){I:Nat}{s:Sb}(h:At R t a lo s)(J:I <=(Af R t s.h).keys.length):At R t a I s:=by
 obtain⟨n,h1,_,U,_⟩:=h.nd;exact U I (by rw [(h1.get O).1] at J;exact J)
def Yff{P}(h:P:=by
 simp only [List.length_append,List.length_cons];omega):=h
def Yrb{P}(h:P:=by
 have h0: ∀(c:Sb) (l:List Lk),(Al c l).Fits t->0∉(c.h::l.map (·.2.h)):=λc l O=>by
  exact Ych
 exact h0):=h
theorem TL(J:BN.A0 t){L D:Sb}(m:It)(af:At R t a lo1 L)(ag:At R t a lo2 D)(I:R 0=none)
 (U:(Af R t L.h).keys.length+1+(Af R t D.h).keys.length<=2*t-1) (al:L.Aa.length+1+D.Aa.length<18446744073709551616):
 ∃Z,(Ip (Af R t L.h) (Af R t D.h) m.kh m.vh).Fits t/\(∀x,Z.count x+ [D.h].count x=L.ns.count x+D.ns.count x)/\
  ∀R',R' L.h=some ((Ip (Af R t L.h) (Af R t D.h) m.kh m.vh).wd t)->(∀z,z∈Z ->z≠L.h->R' z=R z)->(L.ns++D.ns).Nodup->At R' t a (lo1+lo2+1) ⟨L.h,L.Aa++m::D.Aa,Z⟩:=by
 cases a with
 |zero=>
  obtain⟨h1,aa,ah⟩:=af;obtain⟨g1,g2,g3⟩:=ag;rw [(ah.get J).1,(g3.get J).1] at U ⊢;have e:Ip (Ar L.Aa) (Ar D.Aa) m.kh m.vh=Ar (L.Aa++m::D.Aa):=by
   unfold Ip Ar;simp only [List.map_append,List.map_cons,List.append_nil,List.length_append,List.length_cons,BN.mk.injEq,true_and];exact Nat.mod_eq_of_lt (by omega)
  rw [e];have O:(Ar (L.Aa++m::D.Aa)).Fits t:=Co (by
   simp only [Ar,List.length_map] at U;exact Yff)
  refine⟨[L.h],O,λx=>by rw [h1,g1],λR' ab _ _=>⟨rfl, ?_,ab,O⟩⟩
  show lo1+lo2+1<=(L.Aa++m::D.Aa).length
  exact Yff
 |succ a=>
  obtain⟨c,l,h1,aa,ah,ai,am,an⟩:=af;obtain⟨d,k,g1,g2,g3,g4,g5,g6⟩:=ag;rw [(ai.get J).1,(g4.get J).1] at U ⊢;have e:Ip (Al c l) (Al d k) m.kh m.vh=Al c (l++(m,d)::k):=by
   rw [h1,g1] at al;unfold Ip Al;simp only [List.map_append,List.map_cons,List.cons_append,BN.mk.injEq,true_and,CW,List.length_append,List.length_cons];exact Nat.mod_eq_of_lt (by omega)
  rw [e];have h0:=Yrb;have O:(Al c (l++(m,d)::k)).Fits t:=CC (by
   simp only [Al,List.length_map] at U;simp only [List.length_append,List.length_cons];omega) (by
   have q1:=h0 c l ai.2;have ac:=h0 d k g4.2;simp only [List.map_append,List.map_cons,List.mem_cons,List.mem_append,not_or] at q1 ac ⊢;exact⟨q1.1,q1.2,ac.1,ac.2⟩)
  refine⟨L.h::Ax c (l++(m,d)::k),O,λx=>by rw [aa,g2,Em];simp only [List.count_cons,List.count_append,List.count_nil];omega,λR' ab ao aj=> ?_⟩;rw [aa,g2,List.cons_append] at aj;have ae:=(List.nodup_cons.1 aj).1;simp only [List.mem_append,List.mem_cons,not_or] at ae;have V: ∀z,z∈Ax c l++Ax d k->R' z=R z:=λz I=>ao z (by rw [Em];exact List.mem_cons_of_mem _ I) λe=>by
   rw [e] at I;rcases List.mem_append.1 I with h|h
   . exact ae.1 h
   . exact ae.2.2 h
  refine⟨c,l++(m,d)::k, ?_,rfl, ?_,⟨ab,O⟩,am.congr λz I=>V z (List.mem_append.2 (.inl (List.mem_append.2 (.inl I)))),λp hp=> ?_⟩
  . show L.Aa++m::D.Aa=_
    rw [h1,g1,CW]
  . exact Yff
  . rcases List.mem_append.1 hp with hp|hp
    . exact(an p hp).congr λz I=>V z (List.mem_append.2 (.inl (C7 hp I)))
    . rcases List.mem_cons.1 hp with rfl|hp
      . exact g5.congr λz I=>V z (List.mem_append.2 (.inr (List.mem_append.2 (.inl I))))
      . exact(g6 p hp).congr λz I=>V z (List.mem_append.2 (.inr (C7 hp I)))
def YU{P}(h:P:=by
 simp only [List.length_append,List.length_cons,List.length_nil];omega):=h
def Yec{P}(h:P:=by
 rw [I,g2,Em,BB];simp only [Ax,List.flatMap_nil,List.append_nil,List.count_cons,List.count_append];omega):=h
theorem TA(V:BN.A0 t){L D:Sb}(m:It)(ah:At R t a lo1 L)(ai:At R t a (lo2+1) D)(aj:(Af R t L.h).keys.length+1<=2*t-1)(Z:L.Aa.length+1+D.Aa.length<18446744073709551616)(aa:more=(CI R t (Af R t D.h).kids 0+1)%18446744073709551616):
 ∃m' il id nl nd,m'.kh=(Af R t D.h).keys.getD 0 0/\m'.vh=(Af R t D.h).Ab.getD 0 0/\L.Aa++m::D.Aa=il++m' ::id/\L.Aa.length<il.length/\
  (Il (Af R t L.h) (Af R t D.h) m.kh m.vh more).Fits t/\(Iq (Af R t D.h) more).Fits t/\(∀x,nl.count x+nd.count x=L.ns.count x+D.ns.count x)/\L.h∈nl/\D.h∈nd/\
  ∀R',R' L.h=some ((Il (Af R t L.h) (Af R t D.h) m.kh m.vh more).wd t)->R' D.h=some ((Iq (Af R t D.h) more).wd t)->(∀z,z∈L.ns\/z∈D.ns->z≠L.h->z≠D.h->R' z=R z)->(L.ns++D.ns).Nodup->
   At R' t a (lo1+1) ⟨L.h,il,nl⟩/\At R' t a lo2 ⟨D.h,id,nd⟩:=by
 cases a with
 |zero=>
  obtain⟨h1,I,al⟩:=ah;obtain⟨g1,g2,g3⟩:=ai;rw [(al.get V).1,(g3.get V).1] at*;obtain⟨m',id,hid⟩: ∃m' id,D.Aa=m' ::id:=by
   cases hd:D.Aa with
   |nil=>rw [hd] at g2;simp at g2
   |cons m' id=>exact⟨m',id,rfl⟩
  rw [hid] at g2 g3 Z aa ⊢;have ab:more=1:=by rw [aa];simp [CI,Ar]
  subst ab;have ac:Il (Ar L.Aa) (Ar (m' ::id)) m.kh m.vh 1=Ar (L.Aa++ [m]):=by
   unfold Il Ar;simp only [List.map_append,List.map_cons,List.map_nil,List.take_nil,List.append_nil,List.length_append,List.length_cons,List.length_nil,BN.mk.injEq,true_and];exact Nat.mod_eq_of_lt (by omega)
  have ae:Iq (Ar (m' ::id)) 1=Ar id:=by
   simp only [List.length_cons] at Z;unfold Iq Ar;simp only [List.map_cons,List.drop_succ_cons,List.drop_zero,List.drop_nil,List.length_cons,BN.mk.injEq,true_and];omega
  rw [ac,ae];have f1:(Ar (L.Aa++ [m])).Fits t:=Co (by
   simp only [Ar,List.length_map] at aj;exact YU)
  have f2:(Ar id).Fits t:=Co (by have:=g3.2.1;simp only [Ar,List.length_map,List.length_cons] at this;omega);refine⟨m',L.Aa++ [m],id,[L.h],[D.h],by simp [Ar],by simp [Ar],by simp,by simp,f1,f2,λx=>by rw [h1,g1],by simp,by simp,λR' q1 U _ _=>⟨⟨rfl, ?_,q1,f1⟩,⟨rfl, ?_,U,f2⟩⟩⟩
  . show lo1+1<=(L.Aa++ [m]).length
    exact YU
  . show lo2<=id.length
    simp only [List.length_cons] at g2;omega
 |succ a=>
  obtain⟨c,l,h1,I,al,am,ar,au⟩:=ah;obtain⟨d,k,g1,g2,g3,g4,g5,g6⟩:=ai;rw [(am.get V).1,(g4.get V).1] at*;obtain⟨m',e,k',rfl⟩: ∃m' e k',k=(m',e)::k' :=by
   cases k with
   |nil=>simp at g3
   |cons p k' =>exact⟨p.1,p.2,k',rfl⟩
  rw [h1,g1] at Z;have hg:D.Aa=d.Aa++m' ::Aj e k' :=by rw [g1,BW]
  rw [BW] at Z;simp only [List.length_append,List.length_cons] at Z;have ab:more=d.Aa.length+1:=by
   rw [aa];unfold CI;rw [if_neg (by simp [Al])]
   show((Af R t d.h).size+1)%_=_
   rw [g5.sizeOf V];exact Nat.mod_eq_of_lt (by omega)
  subst ab;clear aa;have aw:(Aj c (l++ [(m,d)])).length=(Aj c l).length+(d.Aa.length+1):=by rw [CW];simp [Aj,rest];omega
  have ac:Il (Al c l) (Al d ((m',e)::k')) m.kh m.vh (d.Aa.length+1)=Al c (l++ [(m,d)]):=by
   unfold Il Al;simp only [List.map_append,List.map_cons,List.map_nil,List.cons_append,List.take_succ_cons,List.take_zero,BN.mk.injEq,true_and];rw [aw];exact Nat.mod_eq_of_lt (by omega)
  have ae:Iq (Al d ((m',e)::k')) (d.Aa.length+1)=Al e k' :=by
   unfold Iq Al;simp only [List.map_cons,List.drop_succ_cons,List.drop_zero,BN.mk.injEq,true_and,BW,List.length_append,List.length_cons];omega
  rw [ac,ae];have h0:=Yrb;have q1:=h0 c l am.2;have U:=h0 d _ g4.2;simp only [List.map_cons,List.mem_cons,not_or] at q1 U;have f1:(Al c (l++ [(m,d)])).Fits t:=CC (by
   simp only [Al,List.length_map] at aj;simp only [List.length_append,List.length_cons,List.length_nil];omega) (by
   simp only [List.map_append,List.map_cons,List.map_nil,List.mem_cons,List.mem_append,List.not_mem_nil,or_false,not_or];exact⟨q1.1,q1.2,U.1⟩)
  have f2:(Al e k').Fits t:=CC (by have:=g4.2.1;simp only [Al,List.length_map,List.length_cons] at this;omega) (by
   simp only [List.mem_cons,not_or];exact⟨U.2.1,U.2.2⟩)
  refine⟨m',Aj c (l++ [(m,d)]),Aj e k',L.h::Ax c (l++ [(m,d)]),D.h::Ax e k',by simp [Al],by simp [Al], ?_, ?_,f1,f2,λx=> ?_,by simp,by simp,λR' r1 r2 af an=> ?_⟩
  . rw [hg,h1,CW];simp [Aj,rest]
  . rw [h1,CW];simp
  . exact Yec
  . rw [I,g2,BB] at an
    rw [I,g2,BB] at af;have ao:=an;rw [List.nodup_append] at ao;obtain⟨n1,n2,n3⟩:=ao;have ax:=(List.nodup_cons.1 n1).1;have n5:=(List.nodup_cons.1 n2).1;have aq: ∀z,z∈Ax c l->R' z=R z:=(λz J=>af z (.inl (List.mem_cons_of_mem _ J)) (λe=>ax (by rw [<-e];exact J)) (λe=>n3 z (List.mem_cons_of_mem _ J) D.h (by simp) e));have hd: ∀z,z∈d.ns++Ax e k' ->R' z=R z:=(λz J=>af z (.inr (List.mem_cons_of_mem _ J)) (λag =>n3 L.h (by simp) z (List.mem_cons_of_mem _ J) ag.symm) (λag =>n5 (by rw [<-ag];exact J)));refine⟨⟨c,l++ [(m,d)],rfl,rfl,by simp;omega,⟨r1,f1⟩,ar.congr λz J=>aq z (List.mem_append.2 (.inl J)),λp hp=> ?_⟩,⟨e,k',rfl,rfl,by simp at g3;omega,⟨r2,f2⟩,(g6 (m',e) (by simp)).congr λz J=>hd z (List.mem_append.2 (.inr (List.mem_append.2 (.inl J)))),λp hp=>(g6 p (by simp [hp])).congr λz J=>hd z (List.mem_append.2 (.inr (C7 hp J)))⟩⟩;rcases List.mem_append.1 hp with hp|hp
    . exact(au p hp).congr λz J=>aq z (C7 hp J)
    . rw [List.mem_singleton] at hp
      rw [hp];exact g5.congr λz J=>hd z (List.mem_append.2 (.inl J))
theorem V5(V:BN.A0 t){L D:Sb}(m:It)(ao:At R t a (lo1+1) L)(aq:At R t a lo2 D)(ar:(Af R t D.h).keys.length+1<=2*t-1)(ab:L.Aa.length+1+D.Aa.length<18446744073709551616)(ac:more=(CI R t (Af R t L.h).kids ((Af R t L.h).kids.length-1)+1)%18446744073709551616):
 ∃m' il id nl nd,m'.kh=(Af R t L.h).keys.getD ((Af R t L.h).keys.length-1) 0/\m'.vh=(Af R t L.h).Ab.getD ((Af R t L.h).keys.length-1) 0/\L.Aa++m::D.Aa=il++m' ::id/\D.Aa.length<id.length/\
  (Ik (Af R t L.h) more).Fits t/\(Ih (Af R t L.h) (Af R t D.h) m.kh m.vh more).Fits t/\(∀x,nl.count x+nd.count x=L.ns.count x+D.ns.count x)/\L.h∈nl/\D.h∈nd/\
  ∀R',R' L.h=some ((Ik (Af R t L.h) more).wd t)->R' D.h=some ((Ih (Af R t L.h) (Af R t D.h) m.kh m.vh more).wd t)->(∀z,z∈L.ns\/z∈D.ns->z≠L.h->z≠D.h->R' z=R z)->(L.ns++D.ns).Nodup->
   At R' t a lo1 ⟨L.h,il,nl⟩/\At R' t a (lo2+1) ⟨D.h,id,nd⟩:=by
 cases a with
 |zero=>
  obtain⟨h1,I,U⟩:=ao;obtain⟨g1,g2,g3⟩:=aq;rw [(U.get V).1,(g3.get V).1] at*;obtain⟨il,m',Z⟩: ∃il m',L.Aa=il++ [m']:=⟨L.Aa.dropLast,L.Aa.getLast (by intro e;rw [e] at I;simp at I),(List.dropLast_concat_getLast _).symm⟩;rw [Z] at I U ab ac ⊢;have ae:more=1:=by rw [ac];simp [CI,Ar]
  subst ae;have hlen:(Ar (il++ [m'])).keys.length-1=il.length:=by simp [Ar]
  have af:Ik (Ar (il++ [m'])) 1=Ar il:=by
   unfold Ik;rw [hlen];unfold Ar;simp only [List.map_append,List.map_cons,List.map_nil,List.take_nil,BN.mk.injEq];simp only [List.length_append,List.length_cons,List.length_nil] at ab ⊢;refine⟨by simp,by simp,trivial,by omega⟩
  have ag:Ih (Ar (il++ [m'])) (Ar D.Aa) m.kh m.vh 1=Ar (m::D.Aa):=by
   unfold Ih Ar;simp only [List.map_cons,List.drop_nil,List.take_nil,List.nil_append,List.length_cons,BN.mk.injEq,true_and];exact Nat.mod_eq_of_lt (by omega)
  rw [af,ag];have f1:(Ar il).Fits t:=Co (by have:=U.2.1;simp only [Ar,List.length_map,List.length_append,List.length_cons,List.length_nil] at this;omega);have f2:(Ar (m::D.Aa)).Fits t:=Co (by
   simp only [Ar,List.length_map] at ar;simp only [List.length_cons];omega)
  refine⟨m',il,m::D.Aa,[L.h],[D.h],by rw [hlen];simp [Ar],by rw [hlen];simp [Ar],by simp,by simp,f1,f2,λx=>by rw [h1,g1],by simp,by simp,λR' q1 aa _ _=>⟨⟨rfl, ?_,q1,f1⟩,⟨rfl, ?_,aa,f2⟩⟩⟩
  . show lo1<=il.length
    simp only [List.length_append,List.length_cons,List.length_nil] at I;omega
  . show lo2+1<=(m::D.Aa).length
    simp only [List.length_cons];omega
 |succ a=>
  obtain⟨c,l,h1,I,U,ah,aA,ai⟩:=ao;obtain⟨d,k,g1,g2,g3,g4,g5,g6⟩:=aq;rw [(ah.get V).1,(g4.get V).1] at*;obtain⟨l',m',e,rfl⟩: ∃l' m' e,l=l' ++ [(m',e)]:=by
   have au:l≠ []:=(by intro e;rw [e] at U;simp at U);exact⟨l.dropLast,(l.getLast au).1,(l.getLast au).2,(List.dropLast_concat_getLast _).symm⟩
  have Z:Aj c (l' ++ [(m',e)])=Aj c l' ++m' ::e.Aa:=by rw [CW];simp [Aj,rest]
  rw [h1,g1,Z] at ab;simp only [List.length_append,List.length_cons] at ab;have hlen:(Al c (l' ++ [(m',e)])).keys.length-1=l'.length:=by simp [Al]
  have aw:(Al c (l' ++ [(m',e)])).keys.length=l'.length+1:=by simp [Al]
  have aj:(Al c (l' ++ [(m',e)])).kids=(c.h::l'.map (·.2.h))++ [e.h]:=by simp [Al]
  have ae:more=e.Aa.length+1:=by
   rw [ac];unfold CI;rw [if_neg (by simp [Al]),aj];have:((c.h::l'.map (·.2.h))++ [e.h]).getD (((c.h::l'.map (·.2.h))++ [e.h]).length-1) 0=e.h:=(by simp);rw [this,(ai (m',e) (by simp)).sizeOf V]
   show(e.Aa.length+1)%_=_
   exact Nat.mod_eq_of_lt (by omega)
  subst ae;clear ac;have aB:(Aj c (l' ++ [(m',e)])).length=(Aj c l').length+(e.Aa.length+1):=by rw [Z];simp
  have af:Ik (Al c (l' ++ [(m',e)])) (e.Aa.length+1)=Al c l' :=by
   unfold Ik;rw [hlen,aw,aj];unfold Al;simp only [BN.mk.injEq,aB];refine⟨by simp,by simp, ?_,by omega⟩;rw [List.take_left' (by simp)]
  have ag:Ih (Al c (l' ++ [(m',e)])) (Al d k) m.kh m.vh (e.Aa.length+1)=Al e ((m,d)::k):=by
   unfold Ih;rw [aw,aj,List.drop_left' (by simp)];unfold Al;simp only [List.map_cons,List.take_succ_cons,List.take_zero,List.cons_append,List.nil_append,BN.mk.injEq,true_and,BW,List.length_append,List.length_cons];rw [Nat.mod_eq_of_lt (by omega)];omega
  rw [af,ag];have h0:=Yrb;have q1:=h0 _ _ ah.2;have aa:=h0 d _ g4.2;simp only [List.map_append,List.map_cons,List.map_nil,List.mem_cons,List.mem_append,List.not_mem_nil,or_false,not_or] at q1 aa;have f1:(Al c l').Fits t:=CC (by have:=ah.2.1;simp only [Al,List.length_map,List.length_append,List.length_cons,List.length_nil] at this;omega) (by
   simp only [List.mem_cons,not_or];exact⟨q1.1,q1.2.1⟩)
  have f2:(Al e ((m,d)::k)).Fits t:=CC (by
   simp only [Al,List.length_map] at ar;simp only [List.length_cons];omega) (by
   simp only [List.map_cons,List.mem_cons,not_or];exact⟨q1.2.2,aa.1,aa.2⟩)
  refine⟨m',Aj c l',Aj e ((m,d)::k),L.h::Ax c l',D.h::Ax e ((m,d)::k),by rw [hlen];simp [Al],by rw [hlen];simp [Al], ?_, ?_,f1,f2,λx=> ?_,by simp,by simp,λR' r1 r2 al ax=> ?_⟩
  . rw [g1,h1,Z,BW];simp
  . rw [g1,BW];simp;omega
  . exact Yec
  . have ay:Ax c (l' ++ [(m',e)])=Ax c l' ++e.ns:=by rw [Em];simp [Ax]
    rw [I,g2,ay] at ax;rw [I,g2,ay] at al;have az:=ax;rw [List.nodup_append] at az;obtain⟨n1,n2,n3⟩:=az;have aC:=(List.nodup_cons.1 n1).1;have n5:=(List.nodup_cons.1 n2).1;have am: ∀z,z∈Ax c l' ++e.ns->R' z=R z:=(λz J=>al z (.inl (List.mem_cons_of_mem _ J)) (λe=>aC (by rw [<-e];exact J)) (λe=>n3 z (List.mem_cons_of_mem _ J) D.h (by simp) e));have hd: ∀z,z∈Ax d k->R' z=R z:=(λz J=>al z (.inr (List.mem_cons_of_mem _ J)) (λan =>n3 L.h (by simp) z (List.mem_cons_of_mem _ J) an.symm) (λan =>n5 (by rw [<-an];exact J)));refine⟨⟨c,l',rfl,rfl,by simp at U;omega,⟨r1,f1⟩,aA.congr λz J=>am z (List.mem_append.2 (.inl (List.mem_append.2 (.inl J)))),λp hp=>(ai p (by simp [hp])).congr λz J=>am z (List.mem_append.2 (.inl (C7 hp J)))⟩,⟨e,(m,d)::k,rfl,rfl,by simp;omega,⟨r2,f2⟩,(ai (m',e) (by simp)).congr λz J=>am z (List.mem_append.2 (.inr J)),λp hp=> ?_⟩⟩;rcases List.mem_cons.1 hp with rfl|hp
    . exact g5.congr λz J=>hd z (List.mem_append.2 (.inl J))
    . exact(g6 p hp).congr λz J=>hd z (C7 hp J)
end
end Bt
variable {A:Option Addr}{F:Nat->Prop}{bt c:Nat}{l:List Nat}{n:BN}{v:Value}
def Vt(w:World)(R:Zr)(t x:Nat)(e:Ending)(w' :World):Prop:=
 ∃v1 v2 v3,e= .returned (.agg #[v1,v2,v3, .int .u64 ((Af R t x).size:Nat)])/\AS w' w.heap.size v1 (Af R t x).keys v2 (Af R t x).Ab v3 (Af R t x).kids/\Below w.heap.size w w'
theorem C3.below{w w' :World}(h:C3 w F v n)(I:Below w.heap.size w w'):C3 w' F v n:=by
 obtain⟨⟨J,O,U,V,Z,ci,rfl,k1,k2,aa⟩,ab⟩:=h;exact⟨⟨J,O,U,V,Z,ci,rfl,k1.Aq (Ad.below I),k2.Aq (Ad.below I),aa.Aq (Ad.below I)⟩,ab⟩
section
variable {w w':World} {s N:Nat} {R:Zr} {nn:Nat}
theorem F9(h:Rd N w s R nn)(t:Nat)(au:BN.A0 t)(x:Nat)(hx:x<18446744073709551616):
 Calls prog 72 #[.agg #[.pointer (some ⟨s,0,none⟩), .int .i64 t], .int .u64 x] w (Vt w R t x):=by
 obtain⟨O,J⟩:=Zx ((w.alloc (Obj.cells #[.pointer (some ⟨s,0,none⟩), .int .i64 t] 77)).alloc (Obj.cells #[.slice none 0 0, .slice none 0 0, .slice none 0 0, .int .u64 0] 100));have ab:=Yc;obtain⟨ao,V⟩:=Zx (w.heap.size+1);have aq:An O ao 100 [.slice none 0 0, .slice none 0 0, .slice none 0 0, .int .u64 0]:=by
  rw [J,V];have:=An.new (w.alloc (Obj.cells #[.pointer (some ⟨s,0,none⟩), .int .i64 t] 77)) 100 [.slice none 0 0, .slice none 0 0, .slice none 0 0, .int .u64 0]
  rwa [show(w.alloc (Obj.cells #[.pointer (some ⟨s,0,none⟩), .int .i64 t] 77)).heap.size=w.heap.size+1 by simp] at this
 have g4:w.heap.size<=ao:=by omega
 have aw:=Zh (Lv (h.below ab) t au x hx);obtain⟨ax,ae,ay⟩:=EA;have ar:=Zh aq;clear h J ab aq V;go_enter func72,ntmps72;go_wp2_with fail;rw [<-ax.out,<-ay.out];refine aw.mono ?_;rintro e w3 ⟨v1,v2,v3,rfl,al,I⟩;obtain⟨aa,k1,rfl⟩:=Ae al.r1;obtain⟨Z,k2,rfl⟩:=Ae al.r2;obtain⟨U,ac,rfl⟩:=Ae al.r3;have ag:=Zh al;have ai:=Dt;have af:=Zh (ar.below I);have ah:=Zh ar.lt;have aF:=af.lt;clear al I;obtain⟨⟨c0,c1,c2,c3⟩,f0,f1,f2,f3⟩:=YM af.out;have aj:Hid (∀v1 v2 v3 W,AS W w.heap.size v1 (Af R t x).keys v2 (Af R t x).Ab v3 (Af R t x).kids->Below w.heap.size w W->Vt w R t x (.returned (.agg #[v1,v2,v3, .int .u64 ((Af R t x).size:Nat)])) W):=Zh (λv1 v2 v3 W h1 az=>⟨v1,v2,v3,rfl,h1,az⟩);generalize (Af R t x).keys.length=n1 at*;generalize (Af R t x).Ab.length=n2 at*;generalize (Af R t x).kids.length=n3 at*;generalize (Af R t x).size=n4 at*;generalize Bk R t x=er at*;obtain⟨am,aA,aB,an⟩:=Yin;unfold IN at am an;have aC:=Zh am;have aD:=Zh an;clear am aA aB an;go_wp2;obtain⟨aE,r1,r2,r3⟩:=C5 aC.out;refine bodyPost_ret (v:= .agg #[.slice aa n1 k1, .slice Z n2 k2, .slice U n3 ac, .int .u64 n4]) (by simp [results,f72,go_sem,aE,r1,r2,r3]) rfl aD.out
variable  {H:List Nat} {P q most last G:Nat}
theorem Ge(h:Ah w s F R H P q most last G)(t:Nat)(af:BN.A0 t)(x:Nat)(hx:x<18446744073709551616)(U:C3 w F v n)(V:n.Ok):
 Calls prog 126 #[.agg #[.pointer (some ⟨s,0,none⟩), .int .i64 t], .int .u64 x,v] w λe w' =>e= .returned (.tuple #[])/\Ah w' s F (Bp R t x n) H P q most last G/\Ad w F w' F:=by
 have Z:=U;obtain⟨⟨ag,ah,ai,aj,al,ci,rfl,k1,k2,am⟩,an⟩:=U;obtain⟨O,J⟩:=Zx ((w.alloc (Obj.cells #[.pointer (some ⟨s,0,none⟩), .int .i64 t] 77)).alloc (Obj.cells #[.slice ag n.keys.length ah, .slice ai n.Ab.length aj, .slice al n.kids.length ci, .int .u64 n.size] 100));have I:=Yc;have ao:=Zh (Gb (h.below I) t af x hx (Z.below I) V);have aq:=Zh J;have ar:=Zh I;generalize n.keys.length=n1 at*;generalize n.Ab.length=n2 at*;generalize n.kids.length=n3 at*;generalize n.size=au at*;clear h Z k1 k2 am an J I V;go_enter func126,ntmps126;go_wp2_with fail;rw [<-aq.out];refine ao.mono ?_;rintro e w3 ⟨rfl,aa,ac⟩;have ae:=Zh (And.intro aa ((Ad.below (F:=F) ar.out).trans ac));clear aa ac;go_wp2;go_end0;exact⟨rfl,ae.1,ae.2⟩
theorem RU(h:Ah w s F R H P q most last G){x:Nat}(hx:x<18446744073709551616)(I:R x=none):
 Calls prog 40 #[.pointer (some ⟨s,0,none⟩), .int .u64 x] w λe w' =>e= .returned (.int .i64 7)/\w=w' :=by
 obtain⟨a,ha,t,v,L,mem,sl,Fh,h⟩:=h;have hA:=Zh (PL h hx (h.no I));clear h I hx;go_enter func40,ntmps40;go_wp2_with fail;refine hA.mono ?_;rintro e w' ⟨rfl,rfl⟩;go_wp2;go_ret;exact⟨rfl,rfl⟩
theorem Kr(h:Ah w s F R H P q most last G)(x:Nat)(hx:x<18446744073709551616):
 Calls prog 40 #[.pointer (some ⟨s,0,none⟩), .int .u64 x] w λe w' => ∃(er:Nat) (F' :Nat->Prop),e= .returned (.int .i64 er)/\Ah w' s F' (AQ R x none) (H.erase x) P q most last G/\Ad w F w' F' :=by
 cases I:R x with
 |some ws=>exact(Jr h I).mono (by rintro e w' ⟨F',rfl,h1,J⟩;exact⟨0,F',rfl,h1,J⟩)
 |none=>
  have O:x∉H:=λhm=>(h.MH x).1 hm I
  have U:AQ R x none=R:=by
   funext y
   unfold AQ;by_cases e:y=x
   . rw [if_pos e,e,I]
   . rw [if_neg e]
  refine(RU h hx I).mono ?_;rintro e w' ⟨rfl,rfl⟩;rw [U,List.erase_of_not_mem O];exact⟨7,F,rfl,h,Ad.refl _ _⟩
end
section
variable {w w':World} {s N:Nat} {R:Zr} {nn:Nat}
def ZL{P}(h:P:=by
 have I:=λX:Au (λ_=>False) O=>X.cell ay (λh=>h)
 exact I):=h
def Yip{P}(h:P:=by
 have J:=λX:Au (λ_=>False) O=>X.cell (I.at' (i:=0) rfl) (λh=>h)
 have U:=λX:Au (λ_=>False) O=>X.cell (I.at' (i:=1) rfl) (λh=>h)
 exact And.intro J U):=h
theorem Ni(h:Rd N w s R nn)(t:Nat)(am:BN.A0 t)(ac:AK w F A (AF l))(ae: ∀x∈l,x<18446744073709551616)(k:Nat)(J:l= []\/k<l.length)(an:l.length<=100):
 Calls prog 174 #[.agg #[.pointer (some ⟨s,0,none⟩), .int .i64 t], .slice A l.length c, .int .i64 k] w λe w' =>e= .returned (.int .u64 (CI R t l k:Nat))/\Below w.heap.size w w' :=by
 obtain⟨O,U⟩:=Zx (w.alloc (Obj.cells #[.pointer (some ⟨s,0,none⟩), .int .i64 t] 77));have V:=EI;rcases J with J|J
 . subst J
   have Z:CI R t [] k=0:=rfl;rw [Z];clear h ac ae an;go_enter func174,ntmps174;go_wp2;go_ret;rw [<-U];exact⟨rfl,V⟩
 . have af: ¬l= []:=λe=>by rw [e] at J;simp at J
   have Z:CI R t l k=(Af R t l[k]).size:=by
    unfold CI;rw [if_neg af];simp [J]
   obtain⟨b,o,rfl,ag,ah⟩:=ac.num J;have ay:=ah O V;have ao:=ae _ (List.getElem_mem J);rw [Z];generalize l[k]=x at*;have aq:=Zh (λW (ag:Below w.heap.size w W)=>F9 (h.below ag) t am x ao);have I:An O w.heap.size 77 [.pointer (some ⟨s,0,none⟩), .int .i64 t]:=(by rw [U];exact An.new w 77 [.pointer (some ⟨s,0,none⟩), .int .i64 t]);have aA:((l.length:Int)==0)=false:=(by simp;omega);have aa:=Zh V;have ar:=Zh U;obtain⟨au,aw⟩:=Yip;have ax:=ZL;clear h ac ae ah Z af U V ay I;go_enter func174,ntmps174;go_wp2;rw [<-ar.out];refine As (λw' => ∃X:Au (λ_=>False) O,w' =X.W) [.r 0, .r 1, .r 2, .r 3, .r 4, .a 5, .r 6, .r 7] (Ay _ _) ?_
   iterate 5 (refine AH ?_;go_simp)
   clear au aw ax;refine AI _ rfl (λaz ai=> ?_);go_wp2_with fail;refine(aq _ (aa.trans ((Ac O).mono aa.size))).mono ?_;rintro e aB ⟨v1,v2,v3,rfl,ab,aj⟩;have al:=Zh ((Ac O).trans aj);obtain⟨aC,k1,rfl⟩:=Ae ab.r1;obtain⟨aD,k2,rfl⟩:=Ae ab.r2;obtain⟨aE,aF,rfl⟩:=Ae ab.r3;clear ab aj;go_wp2;refine ai _ _ (Ag al) ?_;clear ai az
   iterate 2 (refine AH ?_;go_simp)
   refine AP ?_;go_wp2;go_ret;exact⟨rfl,aa.trans (al.mono aa.size)⟩
end
section
variable {w w':World} {s N:Nat} {R:Zr} {nn:Nat}
theorem Ww(h:Rd N w s R nn)(U:A6 R){t:Nat}(c0:w.cell? ⟨bt,0,none⟩=some (.pointer (some ⟨s,0,none⟩)))(x:Nat)(hx:x<18446744073709551616)(key:ByteArray):
 Calls prog 75 #[.int .u64 x, .string key, .pointer (some ⟨bt,0,none⟩)] w λe w' =>e= .returned (.int .i64 (Tx.cmp (BG R x) key))/\Below w.heap.size w w' :=by
 have O:=Hq h U x hx;have I:=Zh (λW=>Tx.LM (BG R x) key W);unfold G7 at O;rw [show(G6 R x).getD ⟨#[]⟩=BG R x from rfl] at O;have J:=Zh O;clear h O;generalize Tx.cmp (BG R x) key=cc at*;generalize BG R x=V at*;generalize De R x=er at*;go_enter func75,ntmps75;exact Ycr
theorem QK(h:Rd N w s R nn)(aa:A6 R){t:Nat}(c0:w.cell? ⟨bt,0,none⟩=some (.pointer (some ⟨s,0,none⟩)))(V:AK w F A (AF l))(ab:l.length<=4398046511104)(hx: ∀i (hi:i<l.length),l[i]<18446744073709551616)(key:ByteArray):
 Calls prog 74 #[.slice A l.length c, .string key, .func (.func 75) #[] #[.pointer (some ⟨bt,0,none⟩)]] w λe w' =>e= .returned (.tuple #[.int .i64 (DL R l key:Nat), .bool (Gw R l key)])/\Below w.heap.size w w' :=by
 have Z:=Zh (λW (I:Below w.heap.size w W) i (hi:i<l.length)=>Ww (h.below I) aa (t:=t) ((I.cell (p:=⟨bt,0,none⟩) (Am c0)).trans c0) l[i] (hx i hi) key);obtain⟨hN,O,U,J⟩:=Yjt;clear h V c0;exact Yac
theorem WK(h:Rd N w s R nn)(ah:A6 R)(ai:C3 w F v n)(hx: ∀x∈n.keys,x<18446744073709551616){V t:Nat}(key:ByteArray)(Z:w.cell? ⟨V,0,none⟩=some (.string key))(c0:w.cell? ⟨bt,0,none⟩=some (.pointer (some ⟨s,0,none⟩))):
 Calls prog 73 #[v, .pointer (some ⟨V,0,none⟩), .pointer (some ⟨bt,0,none⟩)] w λe w' =>e= .returned (.tuple #[.int .i64 (Ha key R n).1, .bool (Ha key R n).2])/\Below w.heap.size w w' :=by
 obtain⟨⟨ab,aa,ac,ae,af,ci,rfl,k1,k2,aj⟩,l1,l2,l3⟩:=ai;obtain⟨O,U⟩:=Zx (w.alloc (Obj.cells #[.slice ab n.keys.length aa, .slice ac n.Ab.length ae, .slice af n.kids.length ci, .int .u64 (n.size:Nat)] 100));have J:=EI;have c1:=(J.cell (p:=⟨bt,0,none⟩) (Am c0)).trans c0;have I:=Zh (QK (h.below J) ah (t:=t) c1 (c:=aa) (k1.Aq (Ad.below (F:=F) J)) l1 (λi hi=>hx _ (List.getElem_mem hi)) key);have aI:=Zh J;have ag:=Zh U;have al:=Zh ((J.cell (p:=⟨V,0,none⟩) (Am Z)).trans Z);unfold Ha;generalize DL R n.keys key=am at*;generalize Gw R n.keys key=an at*;generalize n.keys.length=n1 at*;generalize n.Ab.length=n2 at*;generalize n.kids.length=n3 at*;have ao:(w.alloc (Obj.cells #[.slice ab n1 aa, .slice ac n2 ae, .slice af n3 ci, .int .u64 (n.size:Nat)] 100)).cell? ⟨V,0,none⟩=some (.string key):=by rw [<-ag.out];exact al.out
 clear h J U k1 k2 aj hx c1 c0 Z;go_enter func73,ntmps73;go_wp2_with fail;rw [<-ag.out];exact Ydp
end
section
variable {w w':World}   
def Ylj{P}(h:P:=by
 have Z:=Zh ((Below.refl w.heap.size w).alloc (Nat.le_refl _) (Obj.cells #[.slice V n.keys.length U, .slice I n.Ab.length J, .slice O n.kids.length ci, .int .u64 n.size] 100));exact Z):=h
theorem S2(R:Zr)(ac:C3 w F v n):
 Calls prog 35 #[v] w λe w' =>e= .returned (.tuple #[.int .i64 ((Cv R n).1:Nat), .bool (Cv R n).2])/\Below w.heap.size w w' :=by
 obtain⟨⟨V,U,I,J,O,ci,rfl,k1,k2,af⟩,l1,l2,l3⟩:=ac;have aa:Hid (∀W (b:Bool),b=(decide (n.kids.length=0)&&decide (0<n.keys.length))->Below w.heap.size w W->Ending.returned (.tuple #[.int .i64 0, .bool b])= .returned (.tuple #[.int .i64 ((Cv R n).1:Nat), .bool (Cv R n).2])/\Below w.heap.size w W):=Zh (λW b ae h1=>⟨by
  unfold Cv;rw [ae];simp [List.length_eq_zero_iff],h1⟩)
 have Z:=Ylj;generalize n.keys.length=n1 at*;generalize n.Ab.length=n2 at*;generalize n.kids.length=n3 at*;by_cases ab:n3=0
 . subst ab
   have d3:(((0:Nat):Int)==0)=true:=rfl;go_enter func35,ntmps35;go_wp2
   go_quiet (fail)
   go_wp2
   go_ret2
   exact aa.out _ _ (by simp) (Z.trans ((Tx.AL _ nq).mono Z.size))
 . have d3:((n3:Int)==0)=false:=by simp;omega
   go_enter func35,ntmps35;go_wp2
   go_quiet (fail)
   go_wp2
   go_ret2
   exact aa.out _ _ (by simp [ab]) (Z.trans ((Tx.AL _ nq).mono Z.size))
theorem Rz(R:Zr)(af:C3 w F v n):
 Calls prog 36 #[v] w λe w' =>e= .returned (.tuple #[.int .i64 ((Ci R n).1:Nat), .bool (Ci R n).2])/\Below w.heap.size w w' :=by
 obtain⟨⟨V,U,I,J,O,ci,rfl,k1,k2,ah⟩,l1,l2,l3⟩:=af;have ab:=Ylj;by_cases Z:n.kids= []
 . have ac:Hid ((Ci R n)=(n.keys.length-1,decide (0<n.keys.length))):=Zh (by unfold Ci;rw [if_pos Z])
   have ae:n.kids.length=0:=(by rw [Z];rfl);rw [ac.out];generalize n.keys.length=n1 at*;generalize n.Ab.length=n2 at*;generalize n.kids.length=n3 at*;subst ae;have d3:(((0:Nat):Int)==0)=true:=rfl;have am:IntKind.i64.wrap ((n1:Int)-1)=(n1:Int)-1:=(by rw [IntKind.wrap_i64];omega);obtain⟨ag,aa⟩:=Zx (w.alloc (Obj.cells #[.slice V n1 U, .slice I n2 J, .slice O 0 ci, .int .u64 n.size] 100));have bb:An ag w.heap.size 100 [.slice V n1 U, .slice I n2 J, .slice O 0 ci, .int .u64 n.size]:=(by rw [aa];exact An.new w _ _);have ai:Below w.heap.size w ag:=(by rw [aa];exact ab.out);have an:=Yjr;have aj:=Zh aa;have ao:max ((n1:Int)-1) 0=((n1-1:Nat):Int):=(by omega);clear ab aa bb k1 k2 ah;go_enter func36,ntmps36;go_wp2;rw [<-aj.out];refine As (λw' => ∃X:Au (λ_=>False) ag,w' =X.W) [.r 0, .r 1, .r 2, .r 3, .r 4, .r 5, .r 6, .r 7, .r 8, .r 9, .r 10] (Ay _ _) ?_
   iterate 11 (refine AH ?_;go_simp)
   refine AP ?_;go_wp2
   go_ret2
   exact⟨by simp,ai.drew⟩
 . have ac:Hid ((Ci R n)=(n.keys.length,false)):=Zh (by unfold Ci;rw [if_neg Z])
   have ae:n.kids.length≠0:=(λal=>Z (List.eq_nil_of_length_eq_zero al));rw [ac.out];generalize n.keys.length=n1 at*;generalize n.Ab.length=n2 at*;generalize n.kids.length=n3 at*;have d3:((n3:Int)==0)=false:=(by simp;omega);go_enter func36,ntmps36;go_wp2
   go_ret2
   exact⟨rfl,ab⟩
end
