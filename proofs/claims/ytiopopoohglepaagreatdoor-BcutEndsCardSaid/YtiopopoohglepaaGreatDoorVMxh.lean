/- A part. -/
import Derived.Test.YtiopopoohglepaaGreatDoorVMxe
import Derived.Test.YtiopopoohglepaaGreatDoorVMxg
set_option linter.all false
set_option maxRecDepth 100000
set_option maxHeartbeats 4000000
namespace Go.Proofs.YtiopopoohglepaaGreatDoor
open Go.Proofs.Tryz
open Go.RowKit Go.Shelf
theorem Wr{t:Nat}(d:BN.A1 t):CC (6*t+2)<=2:=by
 have:=d.2;unfold CC
 split<;>omega
namespace Bt
variable {hg root:Nat}{Aa:List It}{ns:List Nat}
section
variable {R R1:Zr} {t a lo:Nat}
theorem At.II(d:BN.A1 t): ∀{a lo:Nat} {s:Sb},At R t a lo s->1<=lo->s.ns.length<=s.Aa.length
 |0,lo,s,h,hlo=>by
  have h1:=h.1;have I:=h.2.1;rw [h1];simp;omega
 |a+1,lo,s,h,hlo=>by
  obtain⟨c,l,h1,I,ab,ac,J,O⟩:=h;have t1:=d.1;have ae:=At.II d J (by omega);have U: ∀p∈l,p.2.ns.length<=p.2.Aa.length:=λp hp=>At.II d (O p hp) (by omega)
  have V: ∀l:List Lk,(∀p∈l,p.2.ns.length<=p.2.Aa.length)->l.length+(l.flatMap λp=>p.2.ns).length<=(rest l).length:=by
   intro l
   induction l with
   |nil=>intro _;simp
   |cons p l ih=>
    intro h;have Z:=(ih λq aa=>h q (List.mem_cons_of_mem _ aa));have af:=h p (by simp);rw [BU,List.flatMap_cons];simp only [List.length_cons,List.length_append];omega
  have Z:=V l U;rw [h1,I];unfold Ah Ax;simp only [List.length_cons,List.length_append];omega
theorem Tree.II(d:BN.A1 t)(h:Tree R t root Aa ns hg):ns.length<=Aa.length:=by
 rcases h with ⟨_,rfl,rfl,_⟩|⟨a,_,h⟩
 . exact Nat.le_refl _
 . exact At.II d h (Nat.le_refl _)
theorem Tree.Ef(h:Tree R t root Aa ns hg)(e: ∀z,R z≠none->R1 z=R z):Tree R1 t root Aa ns hg:=by
 rcases h with h|⟨a,h1,d⟩
 . exact .inl h
 . exact .inr ⟨a,h1,d.Ef e⟩
theorem Own.Ef(h:Own R Aa ns)(e: ∀z,R z≠none->R1 z=R z):Own R1 Aa ns:=⟨λi hi=>(h.at' i hi).Ef e,h.Dn,h.nodup⟩
theorem Tree.zero(h:Tree R t root Aa ns hg)(J:R 0=none):root=0↔Aa= []:=by
 rcases h with ⟨h1,d,_,_⟩|⟨a,h1,d⟩
 . exact⟨λ_=>d,λ_=>h1⟩
 . have h0:root≠0:=λe=>d.FD J (by have:=DA d;rw [<-e];exact this)
   refine⟨λe=>absurd e h0,λe=> ?_⟩;have I:1<=Aa.length:=by
    cases a with
    |zero=>exact d.2.1
    |succ a=>
     obtain⟨c,l,I,U,O,V⟩:=d;rw [show Aa=Ah c l from I];unfold Ah
     cases l with
     |nil=>simp at O
     |cons p l=>rw [BU];simp;omega
   rw [e] at I;simp at I
theorem Tree.U9(d:BN.A1 t)(h:Tree R t root Aa ns hg):root=0\/Bm R t root=0:=by
 rcases h with h|⟨a,_,h⟩
 . exact .inl h.1
 . exact .inr (by obtain⟨n,h1,_⟩:=h.node;exact(h1.get d).2)
theorem Tree.down(d:BN.A1 t)(h:Tree R t root Aa ns hg)(J:R 0=none)(I:Own R Aa ns)(O:Aa.length<549755813888)(key:ByteArray):
 Bx R t key 40 root 0=((Bb Aa key).map (λi=>(i.kh,i.vh)),((AH (AI Aa) key:Nat):Int)):=by
 rcases h with ⟨rfl,rfl,_,_⟩|⟨a,_,h⟩
 . unfold Bx
   have he:Bm R t 0≠0:=by
    unfold Bm;rw [J];simp
   rw [if_pos he];rfl
 . have:=QN d key a 1 40 ⟨root,Aa,ns⟩ 0 h I.at' I.Dn (h.high d O) (by show 0+Aa.length<_;omega)
   simpa using this
theorem Rv{l:List It}{key:ByteArray}{i:It}(h:Bb l key=some i):i∈l/\i.k=key:=by
 unfold Bb at h;exact⟨List.mem_of_find?_eq_some h,by simpa using List.find?_some h⟩
end
end Bt
variable {G' P' n s x:Nat}{w:World}
structure AU(w:World)(s:Nat)(F:Nat->Prop)(R:Zr)(H:List Nat)(P q most last G t root:Nat)(Aa:List It)(ns:List Nat)(hg m:Nat):Prop where
 st:Am w s F R H P q most last G
 z:R 0=none
 sh:Ba R
 tr:Bt.Tree R t root Aa ns hg
 ow:Bt.Own R Aa ns
 len:H.length=2*Aa.length+ns.length+m
 rt:root<18446744073709551616
section
variable {w':World}  {F F':Nat->Prop} {R R':Zr} {H H':List Nat} {P q most last G t root:Nat} {Aa:List It} {ns:List Nat} {hg m:Nat}
theorem AU.below(h:AU w s F R H P q most last G t root Aa ns hg m)(d:Below w.heap.size w w'):AU w' s F R H P q most last G t root Aa ns hg m:={ h with st:=h.st.below d }
theorem AU.more(h:AU w s F R H P q most last G t root Aa ns hg m)(d:P<=P')(I:G<=G'):AU w s F R H P' q most last G' t root Aa ns hg m:={ h with st:=h.st.more d I }
theorem AU.start(h:Am w s F (λ_=>none) [] P q most last G)(t:Nat):AU w s F (λ_=>none) [] P q most last G t 0 [] [] 0 0:=
 ⟨h,rfl,(λx ws e=>by cases e), .inl ⟨rfl,rfl,rfl,rfl⟩,⟨λi hi=>by simp at hi,List.Pairwise.nil,by simp⟩,rfl,by decide⟩
theorem AU.ne(h:AU w s F R H P q most last G t root Aa ns hg m): ∀z∈ns++Aa.flatMap It.hs,R z≠none:=λz O=>by
 rcases List.mem_append.1 O with h1|h1
 . rcases h.tr with ⟨_,_,I,_⟩|⟨a,_,I⟩
   . rw [I] at h1;simp at h1
   . obtain⟨ws,d,_⟩:=I.Fm z h1;rw [d];simp
 . obtain⟨i,I,d⟩:=List.mem_flatMap.1 h1
   have J:=h.ow.at' i I;simp only [It.hs,List.mem_cons,List.not_mem_nil,or_false] at d;rcases d with d|d
   . rw [d,J.kt];simp
   . rw [d,J.vt];simp
theorem AU.grow(h:AU w s F R H P q most last G t root Aa ns hg m){k:Nat}(hs:Am w' s F' R' H' P' q most last G')(e: ∀z,R z≠none->R' z=R z)(d:R' 0=none)(I:Ba R')(J:H'.length=H.length+k):AU w' s F' R' H' P' q most last G' t root Aa ns hg (m+k):=
 ⟨hs,d,I,h.tr.Ef e,h.ow.Ef e,by rw [J,h.len];omega,h.rt⟩
inductive Oj(w:World)(s:Nat)(F:Nat->Prop)(H:List Nat)(P q most last G t root:Nat)(Aa:List It)(ns:List Nat)(hg m:Nat)(it:It):Ending->World->Prop
 |here {w' :World} {old:It} {R' :Zr} (hf:Bt.Bb Aa it.k=some old) (hb:AU w' s F R' H P q most last G t root (Bt.CD Aa it) ns hg m) (ho:old.At R') (hnd2:((ns++(Bt.CD Aa it).flatMap It.hs)++old.hs).Nodup) (hT:Ad w F w' F):
  Oj w s F H P q most last G t root Aa ns hg m it (.returned (.tuple #[.int .u64 root, .agg #[.int .u64 old.kh, .int .u64 old.vh], .bool true, .int .i64 0])) w'
 |put {w' :World} {now n:Nat} {R' :Zr} {F' :Nat->Prop} {H' :List Nat} {ns' :List Nat} {hg' :Nat} (hf:Bt.Bb Aa it.k=none) (hl:ns'.length=ns.length+n) (hn:n<=hg+1)
  (hb:AU w' s F' R' H' (P+n*2) q most last (G+n) t now (Bt.BF Aa it) ns' hg' (m-2)) (hT:Ad w F w' F'):
  Oj w s F H P q most last G t root Aa ns hg m it (.returned (.tuple #[.int .u64 now, .agg #[.int .u64 0, .int .u64 0], .bool false, .int .i64 0])) w'
 |full {w' :World} {n er:Nat} {R' :Zr} {F' :Nat->Prop} (hf:Bt.Bb Aa it.k=none) (hn:n<=hg+1) (he:(er=3/\q<(P+n*2)*64)\/(er=10/\(most<H.length+n\/last<G+n)))
  (hb:AU w' s F' R' H (P+n*2) q most last (G+n) t root Aa ns hg m) (hi:it.At R') (hT:Ad w F w' F'):
  Oj w s F H P q most last G t root Aa ns hg m it (.returned (.tuple #[.int .u64 0, .agg #[.int .u64 0, .int .u64 0], .bool false, .int .i64 er])) w'
def Yci{P}(h:P:=by
 have d:=List.count_pos_iff.2 J;simp only [List.count_append] at I;omega):=h
def Ydc{P}(h:P:=by
 rw [List.nodup_iff_count];intro z;have I:=U z;rw [Z];rw [O] at I;simp only [List.count_append,List.flatMap_append,List.flatMap_cons] at I ⊢;omega):=h
def Yft{P}(h:P:=by
 cases V:Bt.Bb Aa it.k with
 |none=>rfl
 |some old=>rw [V] at hf;simp at hf):=h
def Yqb{P}(h:P:=by
 have I:=U z;have O:=List.count_pos_iff.2 (List.mem_flatMap.2 ⟨i,hi,d⟩);exact Yci):=h
def Yqp{P}(h:P:=by
 have DF: ∀z∈it.hs,z∉ns:=λz d J=>by
  have I:=U z;have O:=List.count_pos_iff.2 d;exact Yci
 exact DF):=h
theorem AU.insert(ab:BN.A1 t)(h:AU w s F R H P q most last G t root Aa ns hg m)(it:It)(hi:it.At R)(hm:2<=m)(aK:((ns++Aa.flatMap It.hs)++it.hs).Nodup)(am:Aa.length<549755813888){e:Ending}
 (aL:Fc w s t F R H P q most last G root it.kh it.vh e w'):Oj w s F H P q most last G t root Aa ns hg m it e w' :=by
 have ay:BH R it.kh=it.k:=Bt.Kj hi;have aM:C8 R it.kh=0:=(GM hi.kt hi.ks).2;have hd:=h.tr.down ab h.z h.ow am it.k;have aN:=Wr ab;have hmul: ∀n,n*CC (6*t+2)<=n*2:=λn=>Nat.mul_le_mul_left n aN
 have U:=List.nodup_iff_count.1 aK
 cases aL with
 |bad hbad hb' =>
  exfalso
  rcases hbad with h1|⟨h1,af⟩
  . exact h1 aM
  . rcases h.tr.U9 ab with ac|ac
    . exact h1 ac
    . exact af ac
 |here h0 h1 hf hs hT=>
  rw [ay] at hf hs ⊢;rw [hd] at hf;obtain⟨old,hold⟩: ∃old,Bt.Bb Aa it.k=some old:=by
   cases V:Bt.Bb Aa it.k with
   |none=>rw [V] at hf;simp at hf
   |some old=>exact⟨old,rfl⟩
  obtain⟨an,aO⟩:=Bt.Rv hold;rcases h.tr with ⟨_,af,_⟩|⟨a,aP,az⟩
  . rw [af] at an;simp at an
  . obtain⟨R',au,ai,ag⟩:=Bt.SD ab it old a 1 40 ⟨root,Aa,ns⟩ az h.z (List.nodup_append.1 h.ow.nodup).1 h.ow.at' h.ow.Dn hold (az.high ab am)
    dsimp only at au ai ag;rw [au] at hs ⊢;dsimp only at hs ⊢;have aw: ∀i:It,i.At R->(∀z∈i.hs,z∉ns)->i.At R' :=(λi h1 af=>h1.congr λz d=>ag z (af z d));have DF:=Yqp;have aj: ∀i∈Aa,∀z∈i.hs,z∉ns:=λi hi z d J=>by
     exact Yqb
    obtain⟨u,v,O⟩:=List.append_of_mem an;have Z:Bt.CD Aa it=u++it::v:=by
     rw [O];exact Bt.LH (by rw [<-O];exact h.ow.Dn) aO
    refine .here hold ⟨hs, ?_, ?_, .inr ⟨a,aP,ai⟩,⟨?_, ?_, ?_⟩, ?_,h.rt⟩ (aw old (h.ow.at' old an) (aj old an)) ?_ hT
    . rw [ag 0 (az.FD h.z)];exact h.z
    . intro z ws d
      by_cases al:z∈ns
      . obtain⟨aQ,ax,ae⟩:=ai.Fm z al
        rw [ax] at d
        cases d
        have:=ab.2;omega
      . rw [ag z al] at d
        exact h.sh z ws d
    . intro i ao
      rw [Z] at ao;rcases List.mem_append.1 ao with ae|ae
      . have:i∈Aa:=by rw [O];simp [ae]
        exact aw i (h.ow.at' i this) (aj i this)
      . rcases List.mem_cons.1 ae with ah|ah
        . rw [ah];exact aw it hi DF
        . have:i∈Aa:=by rw [O];simp [ah]
          exact aw i (h.ow.at' i this) (aj i this)
    . rw [Bt.WV h.ow.Dn hold]
      exact H9 h.ow.Dn _
    . exact Ydc
    . rw [Bt.Hz];exact h.len
    . exact Ydc
 |full h0 h1 hf her hs hT=>
  rw [ay] at hf hs her;rw [hd] at hf;have aq:Bt.Bb Aa it.k=none:=by
   exact Yft
  have J:=h.tr.ZI ab h.z h.ow am it.k;have af:=hmul (Cz R t it.k root);refine .full (n:=Cz R t it.k root) aq J ?_ ⟨hs.more (by omega) (Nat.le_refl _),h.z,h.sh,h.tr,h.ow,h.len,h.rt⟩ hi hT;rcases her with ⟨ac,ax⟩|ac
  . exact .inl ⟨ac,by omega⟩
  . exact .inr ac
 | @put _ st R1 F' h0 h1 hf hl hfr h64 hs hT J=>
   rw [ay] at hf hl hs J ⊢;rw [hd] at hf;have aq:Bt.Bb Aa it.k=none:=by
    exact Yft
   have aD:=h.tr.ZI ab h.z h.ow am it.k;have aE :Bt.Dx R R1 t st.reverse:=⟨λx hx=>hfr.new x (List.mem_reverse.1 hx),List.nodup_iff_count.2 (λz=>by rw [List.count_reverse];exact List.nodup_iff_count.1 hfr.nodup z),λz d=>hfr.old z λh=>d (List.mem_reverse.2 h)⟩;obtain⟨R',now,ar,aY,au,ai,ag,aA⟩:=Bt.TL ab it h.tr h.z h.ow aq am aE (by rw [List.length_reverse];exact hl);rw [au] at hs J ⊢;dsimp only at hs J ⊢;have aB: ∀z,List.count z st.reverse=List.count z st:=(λz=>List.count_reverse);have aF: ∀z∈st,R z=none:=(λz d=>(hfr.new z d).1);have aR:=h.ne;have aZ:R it.kh≠none:=(by rw [hi.kt];simp);have a0:R it.vh≠none:=(by rw [hi.vt];simp);have aS: ∀z∈it.hs,R z≠none:=λz d=>by
    simp only [It.hs,List.mem_cons,List.not_mem_nil,or_false] at d;rcases d with rfl|rfl<;>assumption
   have aT: ∀z,List.count z st<=1:=List.nodup_iff_count.1 hfr.nodup;have aU: ∀z,0<List.count z st->List.count z (ns++Aa.flatMap It.hs)=0/\List.count z it.hs=0:=λz d=>by
    have I:=aF z (List.count_pos_iff.1 d);exact⟨List.count_eq_zero.2 λaa=>aR z aa I,List.count_eq_zero.2 λaa=>aS z aa I⟩
   have aC: ∀i:It,i.At R->(∀z∈i.hs,z∉ns)->i.At R' :=λi h1 af=>h1.congr λz d=>by
    refine aA z (af z d) λac=> ?_
    have I:=aF z (List.mem_reverse.1 ac);simp only [It.hs,List.mem_cons,List.not_mem_nil,or_false] at d;rcases d with rfl|rfl
    . rw [h1.kt] at I;cases I
    . rw [h1.vt] at I;cases I
   have DF:=Yqp;have aj: ∀i∈Aa,∀z∈i.hs,z∉ns:=λi hi z d J=>by
    exact Yqb
   have aG :ar.length=ns.length+st.length:=by
    have hp:ar.Perm (ns++st):=(List.perm_iff_count.2 λz=>by rw [ag z,List.count_append,aB]);rw [hp.length_eq,List.length_append]
   have aH: ∀z,z∈ar ↔z∈ns\/z∈st:=λz=>by
    rw [<-List.count_pos_iff,<-List.count_pos_iff,<-List.count_pos_iff,ag z,aB];omega
   have aV:(0:Nat)∉ns:=(λaa=>h.ne 0 (List.mem_append.2 (.inl aa)) h.z);have aW:(0:Nat)∉st.reverse:=(λaa=>(aE.new 0 aa).2.1 rfl);have aX: ∀z∈ar,∃ws,R' z=some ws/\ws.length=6*t:=λz d=>by
    rcases ai with ⟨_,_,aa,_⟩|⟨a,_,aa⟩
    . rw [aa] at d;simp at d
    . exact aa.Fm z d
   have aI:Bt.BF Aa it=Aa.take (AH (Bt.AI Aa) it.k)++it::Aa.drop (AH (Bt.AI Aa) it.k):=rfl;have a1:st.length*CC (6*t+2)<=st.length*2:=hmul _;rw [<-hl] at hs aD;refine .put (n:=st.length) aq aG aD ⟨hs.more (by omega) (Nat.le_refl _), ?_, ?_,ai,⟨?_, ?_, ?_⟩, ?_,J⟩ hT
   . rw [aA 0 aV aW];exact h.z
   . intro z ws d
     by_cases al:z∈ar
     . obtain⟨aQ,ax,ae⟩:=aX z al
       rw [ax] at d
       cases d
       have:=ab.2;omega
     . rw [aA z (λaa=>al ((aH z).2 (.inl aa))) (λaa=>al ((aH z).2 (.inr (List.mem_reverse.1 aa))))] at d
       exact h.sh z ws d
   . intro i ao
     rw [aI] at ao;rcases List.mem_append.1 ao with ae|ae
     . have:=List.mem_of_mem_take ae
       exact aC i (h.ow.at' i this) (aj i this)
     . rcases List.mem_cons.1 ae with ah|ah
       . rw [ah];exact aC it hi DF
       . have:=List.mem_of_mem_drop ah
         exact aC i (h.ow.at' i this) (aj i this)
   . rw [Bt.LM h.ow.Dn aq]
     exact H9 h.ow.Dn _
   . rw [List.nodup_iff_count]
     intro z;have I:=U z;have aa:=aT z;have aJ:=aU z;have a2:List.count z (Aa.flatMap It.hs)=List.count z ((Aa.take (AH (Bt.AI Aa) it.k)).flatMap It.hs)+List.count z ((Aa.drop (AH (Bt.AI Aa) it.k)).flatMap It.hs):=by
      conv=>lhs;rw [<-List.take_append_drop (AH (Bt.AI Aa) it.k) Aa]
      rw [List.flatMap_append,List.count_append]
     rw [aI];simp only [List.count_append,List.flatMap_append,List.flatMap_cons] at I aJ ⊢;rw [ag z,aB];by_cases d:0<List.count z st
     . obtain⟨a3,a4⟩:=aJ d
       omega
     . omega
   . rw [List.length_append,List.length_reverse,Bt.Gc,aG,h.len]
     omega
end
section
variable {w':World}  {F F':Nat->Prop} {R R':Zr} {H H':List Nat} {P q most last G t root:Nat} {Aa:List It} {ns:List Nat} {hg m:Nat}
end
section
variable {w':World}  {F F':Nat->Prop} {R R':Zr} {H H':List Nat} {P q most last G t root:Nat} {Aa:List It} {ns:List Nat} {hg m:Nat}
theorem AU.TH(d:BN.A1 t)(h:AU w s F R H P q most last G t root Aa ns hg m)(it:It)(hi:it.At R)(hm:2<=m)(J:((ns++Aa.flatMap It.hs)++it.hs).Nodup)(O:Aa.length<549755813888)(I:it.kh<18446744073709551616/\it.vh<18446744073709551616):
 Calls prog 16 #[.pointer (some ⟨s,0,none⟩), .int .i64 t, .int .u64 root, .agg #[.int .u64 it.kh, .int .u64 it.vh]] w (Oj w s F H P q most last G t root Aa ns hg m it):=
 (Qk h.st h.sh d root h.rt it.kh it.vh I.1 I.2).mono λ_ _ U=>h.insert d it hi hm J O U
theorem AU.KW(d:BN.A1 t)(h:AU w s F R H P q most last G t root Aa ns hg m)(I:Aa.length<549755813888)(key:ByteArray):
 Calls prog 31 #[.pointer (some ⟨s,0,none⟩), .int .i64 t, .int .u64 root, .string key] w λe w' =>e= .returned (.tuple #[SO ((Bt.Bb Aa key).map λi=>(i.kh,i.vh)), .bool (Bt.Bb Aa key).isSome])/\Below w.heap.size w w' :=by
 obtain⟨N,J,-⟩:=h.st.rd;have:=MX J h.sh d root h.rt key;rw [h.tr.down d h.z h.ow I key] at this
 simpa using this
theorem Bt.Tree.size(d:BN.A1 t)(h:Bt.Tree R t root Aa ns hg)(I:R 0=none)(J:Aa.length<549755813888):Cq R t root=(Aa.length:Nat):=by
 have hs:(Ag R t root).size=Aa.length:=by
  rcases h with ⟨rfl,rfl,_,_⟩|⟨a,_,h⟩
  . unfold Ag;rw [I];rfl
  . exact h.sizeOf d
 unfold Cq;rw [hs];exact IntWalk.wrap64_in _ (by omega)
theorem AU.X3(d:BN.A1 t)(h:AU w s F R H P q most last G t root Aa ns hg m)(I:Aa.length<549755813888):
 Calls prog 41 #[.pointer (some ⟨s,0,none⟩), .int .i64 t, .int .u64 root] w λe w' =>e= .returned (.int .i64 Aa.length)/\Below w.heap.size w w' :=by
 obtain⟨N,J,-⟩:=h.st.rd;have:=Ys J t d root h.rt;rw [h.tr.size d h.z I] at this;exact this
theorem Bt.Tree.ZD(d:BN.A1 t)(h:Bt.Tree R t root Aa ns hg)(I:R 0=none)(J:Aa.length<549755813888):Bp R t 40 root=hg:=by
 rcases h with ⟨rfl,_,_,rfl⟩|⟨a,rfl,h⟩
 . unfold Bp
   rw [if_pos (by unfold Bm;rw [I];simp)]
 . exact Bt.Oz d a 1 40 ⟨root,Aa,ns⟩ h (h.high d J)
theorem Bt.Tree.L4(h:Bt.Tree R t root Aa ns hg): ∀x∈ns,∃ws,R x=some ws/\ws.length=6*t:=λx hx=>by
 rcases h with ⟨_,_,d,_⟩|⟨a,_,d⟩
 . rw [d] at hx;simp at hx
 . exact d.Fm x hx
theorem AU.words(h:AU w s F R H P q most last G t root Aa ns hg m)(hw:Jl R H P n):(6*t+2)*ns.length<=n:=by
 obtain⟨p,rfl,_,_,U⟩:=hw;have h1:=SG (f:=λx=>((R x).getD []).length+2) ns H (List.nodup_append.1 h.ow.nodup).1 (λx hx=>(h.st.SB x).2 (h.ne x (List.mem_append.2 (.inl hx))));have d:(ns.map λx=>((R x).getD []).length+2)=List.replicate ns.length (6*t+2):=by
  rw [List.eq_replicate_iff];refine⟨by simp,λb I=> ?_⟩;obtain⟨x,hx,rfl⟩:=List.mem_map.1 I;obtain⟨ws,J,O⟩:=h.tr.L4 x hx;rw [J,<-O];rfl
 rw [d,List.sum_replicate_nat] at h1;rw [Nat.mul_comm];omega
def Ycs{P}(h:P:=by
 unfold BQ;have d:ns.length<=n/(6*t):=by
  rw [Nat.le_div_iff_mul_le (by omega),Nat.mul_comm];refine Nat.le_trans (Nat.mul_le_mul_right _ (show 6*t<=6*t+2 by omega)) h1
 omega):=h
theorem AU.Pf(I:BN.A1 t)(h:AU w s F R H P q most last G t root Aa ns hg m)(J:Aa.length<549755813888)(hw:Jl R H P n):Bg R t (BQ n t) 40 [] root=ns:=by
 have h1:=h.words hw;have t1:=I.1;have hm:ns.length<=BQ n t:=by
  exact Ycs
 rcases h.tr with ⟨rfl,_,d,_⟩|⟨a,_,d⟩
 . rw [d]
   unfold Bg;rw [if_pos (.inl (by unfold Bm;rw [h.z];simp))]
 . have:=Bt.QU I (BQ n t) a 1 40 ⟨root,Aa,ns⟩ [] d (d.high I J) (by simpa using hm)
   simpa using this
theorem AU.VW(d:BN.A1 t)(h:AU w s F R H P q most last G t root Aa ns hg m)(I:Aa.length<549755813888):
 Calls prog 39 #[.pointer (some ⟨s,0,none⟩), .int .i64 t, .int .u64 root] w λe w' => ∃v',e= .returned v' /\w'.ownsRow w.heap.size 23 1 v' ns.length (AG ns)/\Below w.heap.size w w' :=by
 obtain⟨N,J,hw⟩:=h.st.rd;have:=M4 J t d root h.rt;rw [h.Pf d I hw] at this;exact this
end
theorem Qg{N nn:Nat}{R:Zr}(h:Rd N w s R nn)(t:Nat)(I:BN.A1 t):
 Calls prog 21 #[.pointer (some ⟨s,0,none⟩), .int .i64 t, .int .u64 0] w λe w' =>e= .returned (.int .i64 0)/\w' =w:=by
 have d:=Zh (GU h I);clear h I;go_enter func21,ntmps21;exact Yfg
section
variable {w':World}  {F:Nat->Prop} {R:Zr} {H:List Nat} {P q most last G t root:Nat} {Aa:List It} {ns:List Nat} {hg m:Nat}
theorem W5(l:List It):JX (l.map IQ)=l.flatMap It.hs:=by
 unfold JX;rw [List.flatMap_map];rfl
theorem AU.RB(d:BN.A1 t)(h:AU w s F R H P q most last G t root Aa ns hg m)(J:Aa.length<549755813888)(hw:Jl R H P n):(AN R t 40 ([],BQ n t) root).1=Aa.map IQ:=by
 have h1:=h.words hw;have t1:=d.1;have hm:ns.length<=BQ n t:=by
  exact Ycs
 rcases h.tr with ⟨rfl,O,_,_⟩|⟨a,_,I⟩
 . rw [O]
   unfold AN;rw [if_pos (.inl (by unfold Bm;rw [h.z];simp))];rfl
 . have:=Bt.SK d a 1 40 ⟨root,Aa,ns⟩ ([],BQ n t) I (I.high d J) hm
   rw [show AN R t 40 ([],BQ n t) root=_ from this];rfl
theorem AU.Xg(d:BN.A1 t)(h:AU w s F R H P q most last G t root Aa ns hg m)(I:Aa.length<549755813888):
 Calls prog 37 #[.pointer (some ⟨s,0,none⟩), .int .i64 t, .int .u64 root] w λe w' => ∃v',e= .returned v' /\w'.ownsRow w.heap.size 31 2 v' Aa.length (EI (Aa.map IQ))/\Below w.heap.size w w' :=by
 obtain⟨N,J,hw⟩:=h.st.rd;have:=Pq J t d root h.rt;rw [h.RB d I hw,List.length_map] at this;exact this
theorem W8(h:AU w s F R H P q most last G t root Aa ns hg m)(j:Nat)(I:j<(Aa.map IQ).length):MY R (Aa.map IQ) j:=by
 have d :j<Aa.length:=by simpa using I
 have g1: ∀i (hi:i<Aa.length),(Aa.map IQ).getD i (0,0)=(Aa[i].kh,Aa[i].vh):=λi hi=>by simp [hi,IQ]
 have ha:=h.ow.at' _ (List.getElem_mem d);refine⟨?_, ?_, ?_⟩
 . rw [g1 j d];exact(GM ha.kt ha.ks).2
 . rw [g1 j d];exact(GM ha.vt ha.vs).2
 . rcases Nat.eq_zero_or_pos j with h0|h0
   . exact .inl h0
   . refine .inr ?_
     have hm:j-1<Aa.length:=(by omega);have J:=h.ow.at' _ (List.getElem_mem hm);rw [g1 j d,g1 (j-1) hm];dsimp only;rw [Bt.Kj ha,Bt.Kj J];have O:=List.pairwise_iff_getElem.1 h.ow.Dn (j-1) j (by rw [Bt.Bn];exact hm) (by rw [Bt.Bn];exact d) (by omega)
     simpa [Bt.AI,It.pr] using O
theorem AU.O2(d:BN.A1 t)(h:AU w s F R H P q most last G t root Aa ns hg m)(I:Aa.length<549755813888):
 Calls prog 21 #[.pointer (some ⟨s,0,none⟩), .int .i64 t, .int .u64 root] w λe w' =>e= .returned (.int .i64 0)/\Below w.heap.size w w' :=by
 obtain⟨N,O,hw⟩:=h.st.rd;rcases Nat.eq_zero_or_pos root with h0|h0
 . rw [h0]
   exact(Qg O t d).mono (by rintro e w' ⟨rfl,rfl⟩;exact⟨rfl,Below.refl _ _⟩)
 . have J:root≠0:=by omega
   obtain⟨a,Z,U⟩: ∃a,hg=a+1/\Bt.At R t a 1 ⟨root,Aa,ns⟩:=by
    rcases h.tr with ⟨h1,_⟩|h1
    . exact absurd h1 J
    . exact h1
   have aa:=h.ow.nodup;have V:=Q8 O h.sh t d root h.rt J;rw [h.Pf d I hw,h.RB d I hw] at V;refine V.mono ?_;rintro e w' ⟨er,rfl,hs,ab⟩;have ac:Bm R t root=0:=(h.tr.U9 d).resolve_left J;have ae:(Ag R t root).size=Aa.length:=U.sizeOf d;have af:OJ R t root=true:=by
    unfold OJ;rw [if_neg (λag=>ag ac),h.tr.ZD d h.z I,Z,Nat.add_sub_cancel];exact Bt.Sk d a true ⟨root,Aa,ns⟩ U (by show Aa.length<_;omega)
   have h0:=hs.AbD af (W8 h) (by rw [W5];exact aa) (by rw [List.length_map,ae]);exact⟨by rw [h0];rfl,ab⟩
end
section
variable {w':World}  {F F0:Nat->Prop} {R:Zr} {H:List Nat} {P q most last G t root:Nat} {Aa:List It} {ns:List Nat} {hg m:Nat}
def Ydt{P}(h:P:=by
 have:=Hs O h.sh x (O.u64 d).1;obtain⟨g1,g2⟩:=GM d hs;unfold G9 at this;rw [g1,g2] at this;exact this):=h
theorem AU.get_at(h:AU w s F R H P q most last G t root Aa ns hg m){k:ByteArray}(d:R x=some (Tx.A8 k.data.toList))(hs:k.size<=1000):Calls prog 43 #[.pointer (some ⟨s,0,none⟩), .int .u64 x] w λe w' =>e= .returned (.tuple #[.string k, .int .i64 0])/\Below w.heap.size w w' :=by
 obtain⟨n,O,_⟩:=h.st.rd;exact Ydt
theorem XN(aa:BN.A1 t)(h:AU w s F R H P q most last G t root Aa ns hg 0)(J:Aa.length<=1000){A:Option Addr}(c:Nat){l:List Pr}(aq:Bt.AI Aa=l)(aF:AJ w F0 A (Bv l)):
 Calls prog 24 #[.pointer (some ⟨s,0,none⟩), .int .i64 t, .int .u64 root, .slice A l.length c] w λe w' =>e= .returned (.bool true)/\Below w.heap.size w w' :=by
 have ar:=Zh (h.Xg aa (by omega));have aU:=Zh (λW (d:Below w.heap.size w W)=>(h.below d).O2 aa (by omega));have aV:=Zh (λW (d:Below w.heap.size w W)=>R8 (h.below d).st);have aW:=Zh (λW (d:Below w.heap.size w W)=>(h.below d).VW aa (by omega));have aX:=Zh (λW (d:Below w.heap.size w W) (it:It) (hi:it∈Aa)=>(h.below d).get_at (h.ow.at' it hi).kt (h.ow.at' it hi).ks);have aY:=Zh (λW (d:Below w.heap.size w W) (it:It) (hi:it∈Aa)=>(h.below d).get_at (h.ow.at' it hi).vt (h.ow.at' it hi).vs);have au:=Zh (And.intro h.len (h.tr.II aa));have ab:l.length=Aa.length:=by rw [<-aq,Bt.Bn]
 have aZ:Hid (∀j (ae:j<l.length) (aw:j<Aa.length),l[j]=(Aa[j].k,Aa[j].v)):=Zh λj ae aw=>by
  subst aq;simp [Bt.AI,It.pr]
 have a0:=Zh aF;obtain⟨L,aj⟩:=Zx (Aa.map IQ);have ay:L.length=Aa.length:=by rw [aj,List.length_map]
 have a1:Hid (∀j (ae:j<L.length) (aw:j<Aa.length),L[j]=(Aa[j].kh,Aa[j].vh)):=Zh λj ae aw=>by
  subst aj;simp [IQ]
 rw [<-aj,<-ay] at ar;have an:Aa.length=L.length:=ay.symm;rw [an] at J ab;simp only [an] at au;have a2:=Zh an;have a3:=Zh ab;rw [ab];clear h aF aq aj ay an ab;go_enter func24,ntmps24;go_wp2_with fail;refine ar.mono ?_;rintro e w1 ⟨v9,rfl,az,aG⟩;obtain⟨bd,be,rfl⟩:=Ae az;have ac:=Zh aG;have aH:=Zh az;clear aG az ar;go_wp2_with fail;refine(aU _ ac).mono ?_;rintro e w2 ⟨rfl,I⟩;have af:=DR;have aI:=Zh (B8 aH I);clear I aH;go_wp2_with fail;refine(aV _ af).mono ?_;rintro e w3 ⟨bf,aJ,rfl,aK,aL,V⟩;obtain⟨bg,bh,rfl⟩:=Ae aL;have ax:=Jt;have aM:=Zh (B8 aI V);have a4:Hid (aJ.length=H.length):=Zh aK.length_eq;clear V aI aL aK;go_wp2_with fail;refine(aW _ ax).mono ?_;rintro e w4 ⟨bi,rfl,aN,U⟩;obtain⟨bj,c7,rfl⟩:=Ae aN;have al:=QK;have a5:=Zh (B8 aM U);have bk:((aJ.length:Int) !=2*(L.length:Int)+(ns.length:Int))=false:=by
  have:=a4.out;have:=au.1;simp;omega
 have bm:IntKind.i64.wrap (2*(L.length:Int)+(ns.length:Int))=2*(L.length:Int)+(ns.length:Int):=by rw [IntKind.wrap_i64];have:=au.2;omega
 clear U aM aN;go_wp2
 go_loopw [10] (λaA wr=> ∃j:Nat,j<=L.length/\aA= .int .i64 j/\Hid (Below w4.heap.size w4 wr)) (λaA _=>L.length-(intOf aA).toNat)
 case atStart=>exact⟨0,Nat.zero_le _,rfl,Zh (Below.refl _ _)⟩
 case round=>
  obtain⟨j,ae,rfl,ah⟩:=hrel;have aT:=Ym;by_cases O:j<L.length
  . have Z:j<Aa.length:=by rw [a2.out];exact O
    have a6:=Zh (B8 a5 ah);obtain⟨g9,a7,bo,_,aB⟩:=Nk a6 rfl (by omega);subst a7;have f1:=(aB j O).1;have f2:=(aB j O).2;simp only [a1.out j O Z] at f1 f2;have aC:j<l.length:=(by rw [a3.out];exact O);have ao:=(λW (J:Below w.heap.size w W)=>(a0.Ar (Ad.below J)).Ka aC);simp only [aZ.out j aC Z] at ao;have aD:=Zh (aX wr aT Aa[j] (List.getElem_mem Z));have aE:=Zh (λW J=>aY W J Aa[j] (List.getElem_mem Z));obtain⟨bp,aO⟩:=Zx (Aa[j].kh);obtain⟨b1,aP⟩:=Zx (Aa[j].vh);obtain⟨bq,aQ⟩:=Zx (Aa[j].k);obtain⟨br,aR⟩:=Zx (Aa[j].v);simp only [<-aO,<-aP,<-aQ,<-aR] at f1 f2 aD aE ao;have a8:=Zh ao;have a9:=Zh f2;have ba:=Zh (Al f2);clear ao aB aO aP aQ aR Z aC f2;go_wp2_with fail;refine aD.mono ?_;rintro e bs ⟨rfl,ag⟩;have am:=Ygr;have aS:=Zh (ah.trans (ag.mono ah.size));have f2:=(ag.cell ba.out).trans a9.out;clear ag f1 aD;go_wp2_with fail;refine(aE _ am).mono ?_;rintro e bu ⟨rfl,ai⟩;have bb:=Ygs;have bI:=Zh (aS.trans (ai.mono aS.size));obtain⟨bv,os,bc,s1,s2⟩:=a8.out _ bb.out;subst bc;clear ai f2 aE;exact Yey
  . obtain rfl:j=L.length:=by omega
    go_wp2;go_ret;exact⟨rfl,aT⟩
end
theorem Bt.Tree.Zf{R:Zr}{t root:Nat}{Aa:List It}{ns:List Nat}{hg:Nat}(d:BN.A1 t)(h:Bt.Tree R t root Aa ns hg)(J:Aa.length<=101):hg<=6:=by
 rcases h with ⟨_,_,_,rfl⟩|⟨a,rfl,h⟩
 . omega
 . have h1:=h.Yz d
   have O:2^a<=t^a:=Nat.pow_le_pow_left d.1 a;dsimp only at h1;have U:a<6:=Nat.lt_of_not_le λI=>by
    have:=Nat.pow_le_pow_right (show 0<2 by omega) I;omega
   omega
section
variable {w':World}  {F:Nat->Prop} {R:Zr} {H:List Nat} {P q most last G t root:Nat} {Aa:List It} {ns:List Nat} {hg m:Nat}
inductive Ty(w:World)(s:Nat)(F:Nat->Prop)(P q most last G t root:Nat)(Aa:List It)(m:Nat)(it:It):Ending->World->Prop
 |here {w' :World} {old:It} {R' :Zr} {F' :Nat->Prop} {H' :List Nat} {ns' :List Nat} {hg' :Nat} (hf:Bt.Bb Aa it.k=some old) (hb:AU w' s F' R' H' (P+14) q most last (G+7) t root (Bt.CD Aa it) ns' hg' (m+2)) (ho:old.At R') (hnd:((ns' ++(Bt.CD Aa it).flatMap It.hs)++old.hs).Nodup) (hT:Ad w F w' F'):
  Ty w s F P q most last G t root Aa m it (.returned (.tuple #[.int .u64 root, .agg #[.int .u64 old.kh, .int .u64 old.vh], .bool true, .int .i64 0])) w'
 |put {w' :World} {now:Nat} {R' :Zr} {F' :Nat->Prop} {H' :List Nat} {ns' :List Nat} {hg' :Nat} (hf:Bt.Bb Aa it.k=none) (hb:AU w' s F' R' H' (P+14) q most last (G+7) t now (Bt.BF Aa it) ns' hg' m) (hT:Ad w F w' F'):
  Ty w s F P q most last G t root Aa m it (.returned (.tuple #[.int .u64 now, .agg #[.int .u64 0, .int .u64 0], .bool false, .int .i64 0])) w'
theorem AU.LB(I:BN.A1 t)(h:AU w s F R H P q most last G t root Aa ns hg (m+2))(it:It)(hi:it.At R)(J:((ns++Aa.flatMap It.hs)++it.hs).Nodup)(d:Aa.length<=101)(O:it.kh<18446744073709551616/\it.vh<18446744073709551616)(r1:(P+14)*64<=q)(r2:H.length+7<=most)(r3:G+7<=last):
 Calls prog 16 #[.pointer (some ⟨s,0,none⟩), .int .i64 t, .int .u64 root, .agg #[.int .u64 it.kh, .int .u64 it.vh]] w (Ty w s F P q most last G t root Aa m it):=
 (h.TH I it hi (by omega) J (by omega) O).mono λe w' U=>by
  have hh:=h.tr.Zf I d
  cases U with
  |here hf d ho hnd2 hT=>exact .here hf (d.more (by omega) (by omega)) ho hnd2 hT
  |put hf hl hn d hT=>exact .put hf (d.more (by omega) (by omega)) hT
  |full hf hn he d hi hT=>exfalso;omega
end
section
variable {w':World}  {F F':Nat->Prop} {R R':Zr} {H H':List Nat} {P q most last G t root:Nat} {Aa:List It} {ns:List Nat} {hg m:Nat}
theorem AU.less(h:AU w s F R H P q most last G t root Aa ns hg (m+1))(hx:R x≠none)(I:x∉ns++Aa.flatMap It.hs)(hs:Am w' s F' (AT R x none) (H.erase x) P q most last G):AU w' s F' (AT R x none) (H.erase x) P q most last G t root Aa ns hg m:=by
 have hm:x∈H:=(h.st.SB x).2 hx;have he: ∀z∈ns++Aa.flatMap It.hs,AT R x none z=R z:=λz d=>As (λe=>I (e▸d))
 have h0:x≠0:=λe=>hx (by rw [e];exact h.z)
 refine⟨hs, ?_, ?_, ?_,⟨?_,h.ow.Dn,h.ow.nodup⟩, ?_,h.rt⟩
 . rw [As (λe=>h0 e.symm)];exact h.z
 . intro z ws d
   by_cases e:z=x
   . subst e;rw [AR] at d;cases d
   . rw [As e] at d;exact h.sh z ws d
 . rcases h.tr with h1|⟨a,h1,J⟩
   . exact .inl h1
   . exact .inr ⟨a,h1,J.congr λz d=>he z (List.mem_append.2 (.inl d))⟩
 . intro i hi
   exact(h.ow.at' i hi).congr λz d=>he z (List.mem_append.2 (.inr (List.mem_flatMap.2 ⟨i,hi,d⟩)))
 . rw [List.length_erase_of_mem hm,h.len];omega
end
theorem Am.CU{F:Nat->Prop}{R:Zr}{H:List Nat}{P q most last G:Nat}(h:Am w s F R H P q most last G):1<w.heap.size:=by
 obtain⟨I,⟨_,_,_,_,_,_,_,_,_,_,_,_,_,_,_,_,_,_,_,d⟩,-⟩:=h.rd;exact d.2
section
variable {w':World}  {F:Nat->Prop} {R:Zr} {H:List Nat} {P q most last G t root:Nat} {Aa:List It} {ns:List Nat} {hg m:Nat}
theorem Lb{W:World}{I:Nat}{F' :Nat->Prop}{T:TypeId}{vs:List Value}(aa:AU W s F' R H P q most last G t root Aa ns hg m)(ab:Ad w F W F')(ac:w.heap.size<=I)(U:An W I T vs)(ae: ∃v,vs[0]? =some v/\ ∀p,v≠ .pointer p)(V: ¬F' I)(h1:s<I/\1<I)(c d:Value):
 AU ((W.setCell ⟨I,0,none⟩ c).setCell ⟨I,1,none⟩ d) s F' R H P q most last G t root Aa ns hg m/\Ad w F ((W.setCell ⟨I,0,none⟩ c).setCell ⟨I,1,none⟩ d) F' :=by
 obtain⟨v0,J,Z⟩:=ae;refine⟨{ aa with st:=aa.st.grown (Bh (A3 W I 0 _) (A3 _ I 1 _)) (λk O=> ?_) },ab.minus ((Ad.GK W F' I 0 _).trans (Ad.GK _ F' I 1 _)) ac⟩;exact Ydk
end
section
variable {w':World}  {F:Nat->Prop} {R:Zr} {H:List Nat} {P q most last G t root:Nat} {Aa:List It} {ns:List Nat} {hg m:Nat}
def Z8(w:World)(s:Nat)(F:Nat->Prop)(H:List Nat)(P q most last G t root:Nat)(Aa:List It)(ns:List Nat)(hg m:Nat)(p:Pr)(e:Ending)(w' :World):Prop:=
 ∃(it:It) (R' :Zr) (F' :Nat->Prop) (H' :List Nat),e= .returned (.agg #[.int .u64 it.kh, .int .u64 it.vh])/\it.k=p.1/\it.v=p.2/\AU w' s F' R' H' (P+6) q most last (G+2) t root Aa ns hg (m+2)/\it.At R' /\((ns++Aa.flatMap It.hs)++it.hs).Nodup/\Ad w F w' F' /\(it.kh<18446744073709551616/\it.vh<18446744073709551616)/\H'.length=H.length+2
def Yki{P}(h:P:=by
 have d:=Zh (show w.heap.size<=aK/\w.heap.size<=aN/\s<aN/\1<aN from⟨by omega,by omega,by omega,by omega⟩);exact d):=h
def Yoq{P}(h:P:=by
 have d: ∀z,w.heap.size<=z-> ¬F z:=λz J I=>by have:=h.st.lt I;omega
 exact d):=h
theorem JS(h:AU w s F R H P q most last G t root Aa ns hg m)(p:Pr)(h1:p.1.size<=1000)(aj:p.2.size<=1000)(r1:(P+6)*64<=q)(r2:H.length+2<=most)(r3:G+2<=last):
 Calls prog 17 #[.pointer (some ⟨s,0,none⟩), .agg #[.string p.1, .string p.2]] w (Z8 w s F H P q most last G t root Aa ns hg m p):=by
 have aR:=h.st.FN;have aU:=h.st.CU;obtain⟨ai,aB⟩:=Zx ((w.alloc (Obj.cells #[Value.string p.1,Value.string p.2] 45)).alloc (Obj.cells #[.int .u64 0, .int .u64 0] 31));obtain⟨aK,aC⟩:=Zx w.heap.size;obtain⟨aN,aM⟩:=Zx (w.heap.size+1);have Z:=VC;have J:An ai aK 45 [Value.string p.1,Value.string p.2]:=by rw [aB,aC];exact(An.new w 45 [Value.string p.1,Value.string p.2]).alloc _
 have ab:An ai aN 31 [.int .u64 0, .int .u64 0]:=by
  rw [aB,aM];have:=An.new (w.alloc (Obj.cells #[Value.string p.1,Value.string p.2] 45)) 31 [.int .u64 0, .int .u64 0]
  rwa [show(w.alloc (Obj.cells #[Value.string p.1,Value.string p.2] 45)).heap.size=w.heap.size+1 by simp] at this
 have ay:=Yoq;have aS:=Pj h1;have aT:=Pj aj;have aH:=RK (n:=(Tx.A8 p.1.data.toList).length+2) (by omega);have aQ:=RK (n:=(Tx.A8 p.2.data.toList).length+2) (by omega);have az:=Zh (Ss (h.st.below Z) p.1 h1);have al:=Zh (And.intro h (And.intro r1 (And.intro r2 r3)));have an:=Zh (And.intro h1 aj);have V:=Vh;have aa:=Yki;obtain⟨aV,aA,aL⟩:=EW;have ao:=Zh ay;have aq:=Qf;have c3:ai.cell? ⟨aK,0,none⟩=some (.string p.1):=J.at' (i:=0) rfl;rw [aB,aC] at c3;clear h h1 aj aH aQ aS aT aB aC aM Z J ab ay aR aU r1 r2 r3;go_enter func17,ntmps17;go_wp2_with fail;rw [<-aq.1,<-aq.2.2,<-aq.2.1];refine az.mono ?_;clear c3;rintro e w1 (⟨d,aW,n1,ae,af,rfl,ar,am⟩|⟨er,aW,rfl,aD,ar,am⟩)
 . have aE:=Zh (Ss ar p.2 an.2)
   have aX:=Zh (aV.Ar am (ao _ aa.1));have aF:=Zh (aA.Ar am (ao _ aa.2.1));have aG:=Zh (am.not aA.lt (ao _ aa.2.1));have c1:=aX.at' (i:=1) rfl;have aY:=Zh (And.intro n1 (And.intro ae af));have aZ:=Un;clear ar am n1 az ae af;go_wp2_with fail;refine aE.mono ?_;rintro e w2 (⟨I,a0,n2,ag,ah,rfl,au,ac⟩|⟨er,a0,rfl,aD,au,ac⟩)
   . have aI:=ac.not aF.lt aG.out
     have z4:=aF.Ar ac aG.out;have aJ:=Zh (C9 au (aZ.trans ac) aa.2.1 z4 ⟨_,rfl,λp aw=>by cases aw⟩ aI aa.2.2 (.int .u64 d) (.int .u64 I));obtain⟨⟨d0,d1⟩,f0,f1⟩:=Dl z4;have a1:=Zh ((z4.set 0 (.int .u64 d)).set 1 (.int .u64 I));have a2:=Zh (And.intro n2 (And.intro ag ah));clear au ac aE c1 aI z4 n2 ag ah;go_wp2;obtain⟨a3,r1⟩:=A2 a1.out;refine bodyPost_ret (v:= .agg #[.int .u64 d, .int .u64 I]) (by simp [results,f17,go_sem,a3,r1]) rfl ?_;obtain⟨n1,ae,af⟩:=aY.out;obtain⟨n2,ag,ah⟩:=a2.out;have O:=al.1;have ax:d≠I:=(λe=>by rw [<-e,AR] at n2;cases n2);have aO :R I=none:=(by rwa [As (Ne.symm ax)] at n2);have hold: ∀z,R z≠none->AT (AT R d (some (Tx.A8 p.1.data.toList))) I (some (Tx.A8 p.2.data.toList)) z=R z:=λz U=>by
      rw [As (λe=>U (by rw [e];exact aO)),As (λe=>U (by rw [e];exact n1))]
     have hs:=aJ.1.more (show P+CC ((Tx.A8 p.1.data.toList).length+2)+CC ((Tx.A8 p.2.data.toList).length+2)<=P+6 by have:=V.out;omega) (show G+1+1<=G+2 by omega);have a4:Ba (AT (AT R d (some (Tx.A8 p.1.data.toList))) I (some (Tx.A8 p.2.data.toList))):=((O.sh.B5 d _ λws U=>by cases U;have:=V.2.2.1;omega).B5 I _ λws U=>by cases U;have:=V.2.2.2;omega);refine⟨⟨d,I,p.1,p.2⟩,_,_,_,rfl,rfl,rfl,O.grow (k:=2) hs hold (by rw [As (Ne.symm ag),As (Ne.symm ae)];exact O.z) a4 (by simp),⟨?_,AR _ _ _,an.1,an.2⟩, ?_,aJ.2,⟨af,ah⟩,by simp⟩
     . show AT (AT R d _) I _ d=_
       rw [As ax,AR]
     . rw [List.nodup_append]
       refine⟨O.ow.nodup,by simp [It.hs,ax],λa ha b aP e=> ?_⟩;simp only [It.hs,List.mem_cons,List.not_mem_nil,or_false] at aP;rcases aP with rfl|rfl
       . exact O.ne a ha (by rw [e];exact n1)
       . exact O.ne a ha (by rw [e];exact aO)
   . exfalso
     have aw:=al.2;have a5:=V.out;simp only [List.length_cons] at aD;omega
 . exfalso
   have aw:=al.2;have a5:=V.out;omega
theorem J6(h:AU w s F R H P q most last G t root Aa ns hg (m+2)){it:It}(hi:it.At R)(al:((ns++Aa.flatMap It.hs)++it.hs).Nodup):
 Calls prog 20 #[.pointer (some ⟨s,0,none⟩), .agg #[.int .u64 it.kh, .int .u64 it.vh]] w λe w' => ∃(R' :Zr) (F' :Nat->Prop) (H' :List Nat),e= .returned (.tuple #[.agg #[.string it.k, .string it.v], .bool true])/\AU w' s F' R' H' P q most last G t root Aa ns hg m/\H'.length+2=H.length/\Ad w F w' F' :=by
 have ae:it.kh∉ns++Aa.flatMap It.hs:=λhm=>(List.nodup_append.1 al).2.2 _ hm it.kh (by simp [It.hs]) rfl
 have aI:it.vh∉ns++Aa.flatMap It.hs:=λhm=>(List.nodup_append.1 al).2.2 _ hm it.vh (by simp [It.hs]) rfl
 have ao:it.vh≠it.kh:=λe=>by
  have:=(List.nodup_append.1 al).2.1;simp [It.hs,e] at this
 have a4:=h.st.FN;have a5:=h.st.CU;obtain⟨ai,aB⟩:=Zx ((w.alloc (Obj.cells #[.int .u64 it.kh, .int .u64 it.vh] 31)).alloc (Obj.cells #[Value.string ⟨#[]⟩,Value.string ⟨#[]⟩] 45));obtain⟨aK,aC⟩:=Zx w.heap.size;obtain⟨aN,aM⟩:=Zx (w.heap.size+1);have Z:=VC;have J:An ai aK 31 [.int .u64 it.kh, .int .u64 it.vh]:=by rw [aB,aC];exact(An.new w 31 [.int .u64 it.kh, .int .u64 it.vh]).alloc _
 have ab:An ai aN 45 [Value.string ⟨#[]⟩,Value.string ⟨#[]⟩]:=by
  rw [aB,aM];have:=An.new (w.alloc (Obj.cells #[.int .u64 it.kh, .int .u64 it.vh] 31)) 45 [Value.string ⟨#[]⟩,Value.string ⟨#[]⟩]
  rwa [show(w.alloc (Obj.cells #[.int .u64 it.kh, .int .u64 it.vh] 31)).heap.size=w.heap.size+1 by simp] at this
 have aJ:=Yoq;have aq:Hid (∀W,Below w.heap.size w W-> ∀(x:Nat) (k:ByteArray),R x=some (Tx.A8 k.data.toList)->k.size<=1000->Calls prog 43 #[.pointer (some ⟨s,0,none⟩), .int .u64 (x:Nat)] W λe w' =>e= .returned (.tuple #[.string k, .int .i64 0])/\Below W.heap.size W w'):=Zh (λW U x k d hs=>by
  obtain⟨n,O,_⟩:=(h.st.below U).rd;exact Ydt)
 have aL:=Zh (aq ai Z it.kh it.k hi.kt hi.ks);have aO:=Zh (λW (U:Below w.heap.size w W)=>aq W U it.vh it.v hi.vt hi.vs);have ar:R it.kh≠none:=by rw [hi.kt];simp
 have au:it.kh∈H:=(h.st.SB it.kh).2 ar;have aP:Hid (∀W,Below w.heap.size w W->Calls prog 38 #[.pointer (some ⟨s,0,none⟩), .int .u64 it.kh] W λe w' => ∃aa,e= .returned (.int .i64 0)/\AU w' s aa (AT R it.kh none) (H.erase it.kh) P q most last G t root Aa ns hg (m+1)/\Ad W F w' aa):=Zh (λW U=>by
  have aw:=h.below U;refine(Pu aw.st aw.sh hi.kt (Tx.GI it.k hi.ks).1).mono ?_;rintro e w' ⟨aa,rfl,ax,ay⟩;exact⟨aa,rfl,AU.less (m:=m+1) aw ar ae ax,ay⟩)
 have az:AT R it.kh none it.vh=some (Tx.A8 it.v.data.toList):=by rw [As ao];exact hi.vt
 have aA:it.vh∈H.erase it.kh:=(List.mem_erase_of_ne ao).2 ((h.st.SB it.vh).2 (by rw [hi.vt];simp));have aQ:Hid (∀W F',AU W s F' (AT R it.kh none) (H.erase it.kh) P q most last G t root Aa ns hg (m+1)->Calls prog 38 #[.pointer (some ⟨s,0,none⟩), .int .u64 it.vh] W λe w' => ∃aa,e= .returned (.int .i64 0)/\AU w' s aa (AT (AT R it.kh none) it.vh none) ((H.erase it.kh).erase it.vh) P q most last G t root Aa ns hg m/\Ad W F' w' aa):=Zh (λW F' U=>by
  refine(Pu U.st U.sh az (Tx.GI it.v hi.vs).1).mono ?_;rintro e w' ⟨aa,rfl,ax,ay⟩;exact⟨aa,rfl,U.less (by rw [az];simp) aI ax,ay⟩)
 have hlen:Hid (((H.erase it.kh).erase it.vh).length+2=H.length):=Zh (by
  have h1:=List.length_erase_of_mem au;have bd:=List.length_erase_of_mem aA;have be:=List.length_pos_of_mem au;have bf:=List.length_pos_of_mem aA;omega)
 obtain⟨aU,aW,ac⟩:=EW;have am:=Zh aJ;have aD:=Qf;have ag:=Yki;generalize (H.erase it.kh).erase it.vh=H2 at*;generalize AT (AT R it.kh none) it.vh none=R2 at*;generalize it.kh=kh at*;generalize it.vh=vh at*;generalize it.k=k at*;generalize it.v=v at*;have c3:ai.cell? ⟨aK,0,none⟩=some (.int .u64 kh):=J.at' (i:=0) rfl;rw [aB,aC] at c3;clear aB aC aM J ab Z h az au aA ar ae aI ao al hi aq aJ a4 a5;go_enter func20,ntmps20;go_wp2_with fail;rw [<-aD.1,<-aD.2.2,<-aD.2.1];refine aL.mono ?_;clear c3;rintro e w1 ⟨rfl,I⟩;obtain⟨aR,a6⟩:=Xx;have af:=DR;have c1:=aR.at' (i:=1) rfl;clear I aL;go_wp2_with fail;refine(aO _ af).mono ?_;rintro e w2 ⟨rfl,V⟩;have z3:=Zh (aR.below V);have z4:=Zh (a6.below V);have aE:=Jt;have a7:=λX:Au F w2=>X.cell (z3.at' (i:=0) rfl) (am _ ag.1)
 have q1:=λX:Au F w2=>X.cell (z3.at' (i:=1) rfl) (am _ ag.1)
 clear V c1 aO;go_wp2;refine Aw (λw' => ∃X:Au F w2,w' =X.W) [.r 0, .r 1, .r 2, .r 4, .r 5, .r 6, .a 3, .a 7, .r 8, .r 9] (Ay _ _) ?_
 iterate 6 (refine AE ?_;go_simp)
 clear a7 q1;refine AK _ rfl (λaF ah=> ?_);have aS:=Zh (aE.trans ((Ac w2).mono aE.size));go_wp2_with fail;refine(aP _ aS).mono ?_;rintro e w3 ⟨bg,rfl,aT,aX⟩;have aG:=Zh ((Ad.below (F:=F) (Ac w2)).trans aX);have aY:=Zh aT;clear aT aX aP aS;go_wp2;refine ah _ _ ⟨⟨w3,aG.size,λk ae aH=>aG.keep k ae aH⟩,rfl⟩ ?_;clear ah aF;refine AK _ rfl (λaF ah=> ?_);go_wp2_with fail;refine(aQ _ _ aY).mono ?_;rintro e w4 ⟨a8,rfl,aZ,a1⟩;have aj:=Zh (aG.trans a1);have a9:=Zh aZ;clear aZ a1 aQ aY;go_wp2;refine ah _ _ ⟨⟨w4,aj.size,λk ae aH=>aj.keep k ae aH⟩,rfl⟩ ?_;clear ah aF
 iterate 2 (refine AE ?_;go_simp)
 refine AO ?_;have an:=z4.Ar aj (am _ ag.2.1);have a2:=aj.not z4.lt (am _ ag.2.1);obtain⟨⟨d0,d1⟩,f0,f1⟩:=Dl an;have ba:=Zh ((an.set 0 (.string k)).set 1 (.string v));have a3:=Zh (Lb a9 ((Ad.below (F:=F) aE).trans aj) ag.2.1 an ⟨_,rfl,λp bb=>by cases bb⟩ a2 ag.2.2 (.string k) (.string v));clear an a2;go_wp2;obtain⟨bc,r1⟩:=A2 ba.out;exact bodyPost_ret (v:= .tuple #[.agg #[.string k, .string v], .bool true]) (by simp [results,f20,go_sem,bc,r1]) rfl ⟨R2,a8,H2,rfl,a3.1,hlen,a3.2⟩
end
section
variable (R:Zr) (t:Nat)
def CH(l:List Nat)(k:Nat):Nat:=if l= [] then 0 else (Ag R t (l.getD k 0)).size
def Bk(n:BN)(k:Nat):Bool:=decide (k<n.kids.length)&&decide (t<=(Ag R t (n.kids.getD k 0)).keys.length)
end
def Iv(a b:BN)(kh vh:Nat):BN:=⟨a.keys++kh::b.keys,a.Ab++vh::b.Ab,a.kids++b.kids,(a.size+(b.size+1))%18446744073709551616⟩
def Iq(a b:BN)(kh vh more:Nat):BN:=⟨a.keys++ [kh],a.Ab++ [vh],a.kids++b.kids.take 1,(a.size+more)%18446744073709551616⟩
def Ix(b:BN)(more:Nat):BN:=⟨b.keys.drop 1,b.Ab.drop 1,b.kids.drop 1,(b.size+18446744073709551616-more)%18446744073709551616⟩
def Io(a:BN)(more:Nat):BN:=⟨a.keys.take (a.keys.length-1),a.Ab.take (a.keys.length-1),a.kids.take a.keys.length,(a.size+18446744073709551616-more)%18446744073709551616⟩
def Ik(a b:BN)(kh vh more:Nat):BN:=⟨kh::b.keys,vh::b.Ab,(a.kids.drop a.keys.length).take 1++b.kids,(b.size+more)%18446744073709551616⟩
namespace BN
def Dg (n:BN)(k a b:Nat):BN:=⟨n.keys.set k a,n.Ab.set k b,n.kids,n.size⟩
def HN(n:BN)(k:Nat):BN:=⟨n.keys.eraseIdx k,n.Ab.eraseIdx k,n.kids,n.size⟩
def Jd(n:BN)(k:Nat):BN:=⟨n.keys,n.Ab,n.kids.eraseIdx k,n.size⟩
def less(n:BN):BN:=⟨n.keys,n.Ab,n.kids,(n.size+18446744073709551615)%18446744073709551616⟩
end BN
section
variable (R:Zr) (t:Nat)
def BO(n:BN)(k:Nat):(Zr) × BN:=
 (AT (Bq R t (n.kids.getD k 0) (Iv (Ag R t (n.kids.getD k 0)) (Ag R t (n.kids.getD (k+1) 0)) (n.keys.getD k 0) (n.Ab.getD k 0))) (n.kids.getD (k+1) 0) none,(n.HN k).Jd (k+1))
def DB(n:BN)(k:Nat):(Zr) × BN:=
 let a:=Ag R t (n.kids.getD k 0);let b:=Ag R t (n.kids.getD (k+1) 0);let more:=(CH R t b.kids 0+1)%18446744073709551616
 (Bq (Bq R t (n.kids.getD k 0) (Iq a b (n.keys.getD k 0) (n.Ab.getD k 0) more)) t (n.kids.getD (k+1) 0) (Ix b more),n.Dg k (b.keys.getD 0 0) (b.Ab.getD 0 0))
def EZ(n:BN)(k:Nat):(Zr) × BN:=
 let a:=Ag R t (n.kids.getD k 0);let b:=Ag R t (n.kids.getD (k+1) 0);let more:=(CH R t a.kids (a.kids.length-1)+1)%18446744073709551616
 (Bq (Bq R t (n.kids.getD k 0) (Io a more)) t (n.kids.getD (k+1) 0) (Ik a b (n.keys.getD k 0) (n.Ab.getD k 0) more),n.Dg k (a.keys.getD (a.keys.length-1) 0) (a.Ab.getD (a.keys.length-1) 0))
def By(n:BN)(k:Nat):(Zr) × BN × List Nat × Nat:=
 if Bk R t n k then (R,n,[],k)
 else if 0<k/\Bk R t n (k-1) then ((EZ R t n (k-1)).1,(EZ R t n (k-1)).2,[],k)
 else if Bk R t n (k+1) then ((DB R t n k).1,(DB R t n k).2,[],k)
 else if 0<k then ((BO R t n (k-1)).1,(BO R t n (k-1)).2,[n.kids.getD (k-1+1) 0],k-1)
 else if k+1<n.kids.length then ((BO R t n k).1,(BO R t n k).2,[n.kids.getD (k+1) 0],k)
 else (R,n,[],k)
end
abbrev Wh:=(Zr)->BN->Nat × Bool
def He(key:ByteArray):Wh:=λR n=>(DJ R n.keys key,Gx R n.keys key)
def Cu:Wh:=λ_ n=>(0,decide (n.kids= [])&&decide (0<n.keys.length))
def Ci:Wh:=λ_ n=>if n.kids= [] then (n.keys.length-1,decide (0<n.keys.length)) else (n.keys.length,false)
def AP(t:Nat):Nat->(Zr)->Nat->Wh->(Zr) × List Nat × (Nat × Nat)
 |0,R,_,_=>(R,[],(0,0))
 |f+1,R,h,g=>tkGo t R h (Ag R t h) (g R (Ag R t h)).1 (g R (Ag R t h)).2 (λR x=>AP t f R x g) (λR x=>AP t f R x Ci) (λR x=>AP t f R x Cu)
where
 tkGo (t:Nat) (R:Zr) (h:Nat) (n:BN) (k:Nat) (here:Bool) (rec recG recL:(Zr)->Nat->(Zr) × List Nat × (Nat × Nat)):(Zr) × List Nat × (Nat × Nat):=
  if n.kids= [] then cond here (Bq R t h (n.less.HN k),[],(n.keys.getD k 0,n.Ab.getD k 0)) (R,[],(0,0))
  else cond here
   (if Bk R t n k then tkIn t h n.less k (n.keys.getD k 0,n.Ab.getD k 0) (recG R (n.kids.getD k 0))
    else if Bk R t n (k+1) then tkIn t h n.less k (n.keys.getD k 0,n.Ab.getD k 0) (recL R (n.kids.getD (k+1) 0))
    else tkOn t h (BO R t n.less k).1 (BO R t n.less k).2 [n.kids.getD (k+1) 0] k rec)
   (tkOn t h (By R t n.less k).1 (By R t n.less k).2.1 (By R t n.less k).2.2.1 (By R t n.less k).2.2.2 rec)
 tkIn (t h:Nat) (n:BN) (k:Nat) (a:Nat × Nat) (p:(Zr) × List Nat × (Nat × Nat)):(Zr) × List Nat × (Nat × Nat):=
  (Bq p.1 t h (n.Dg k p.2.2.1 p.2.2.2),p.2.1,a)
 tkOn (t h:Nat) (R:Zr) (n:BN) (d:List Nat) (k:Nat) (rec:(Zr)->Nat->(Zr) × List Nat × (Nat × Nat)):(Zr) × List Nat × (Nat × Nat):=
  let p:=rec (Bq R t h n) (n.kids.getD k 0)
  (p.1,d++p.2.1,p.2.2)
namespace Bt
variable {lo lo1 lo2 more:Nat}
section
variable {R R':Zr} {t a:Nat}
theorem At.nd{s:Sb}(h:At R t a lo s): ∃n,KO R t s.h n/\lo<=n.keys.length/\(∀d,d <=n.keys.length->At R t a d s)/\n.size=s.Aa.length/\n.keys.length<=s.Aa.length:=by
 cases a with
 |zero=>
  obtain⟨h1,J,I⟩:=h;exact⟨Aq s.Aa,I,by simpa [Aq] using J,λd O=>⟨h1,by simpa [Aq] using O,I⟩,rfl,by simp [Aq]⟩
 |succ a=>
  obtain⟨c,l,h1,J,I,U,V⟩:=h;exact⟨Aj c l,U,by simpa [Aj] using I,λd O=>⟨c,l,h1,J,by simpa [Aj] using O,U,V⟩,by rw [h1];rfl,by rw [h1,IN];simp [Aj]⟩
theorem At.up(J:BN.A1 t){d:Nat}{s:Sb}(h:At R t a lo s)(I:d <=(Ag R t s.h).keys.length):At R t a d s:=by
 obtain⟨n,h1,_,O,_⟩:=h.nd;exact O d (by rw [(h1.get J).1] at I;exact I)
def ZX{P}(h:P:=by
 simp only [List.length_append,List.length_cons];omega):=h
def Yqi{P}(h:P:=by
 have h0: ∀(c:Sb) (l:List Lk),(Aj c l).Fits t->0∉(c.h::l.map (·.2.h)):=λc l O=>by
  exact Ych
 exact h0):=h
theorem Tq(J:BN.A1 t){L D:Sb}(m:It)(af:At R t a lo1 L)(ag:At R t a lo2 D)(I:R 0=none)
 (U:(Ag R t L.h).keys.length+1+(Ag R t D.h).keys.length<=2*t-1) (al:L.Aa.length+1+D.Aa.length<18446744073709551616):
 ∃Z,(Iv (Ag R t L.h) (Ag R t D.h) m.kh m.vh).Fits t/\(∀x,Z.count x+ [D.h].count x=L.ns.count x+D.ns.count x)/\
  ∀R',R' L.h=some ((Iv (Ag R t L.h) (Ag R t D.h) m.kh m.vh).wd t)->(∀z,z∈Z ->z≠L.h->R' z=R z)->(L.ns++D.ns).Nodup->At R' t a (lo1+lo2+1) ⟨L.h,L.Aa++m::D.Aa,Z⟩:=by
 cases a with
 |zero=>
  obtain⟨h1,aa,ah⟩:=af;obtain⟨g1,g2,g3⟩:=ag;rw [(ah.get J).1,(g3.get J).1] at U ⊢;have e:Iv (Aq L.Aa) (Aq D.Aa) m.kh m.vh=Aq (L.Aa++m::D.Aa):=by
   unfold Iv Aq;simp only [List.map_append,List.map_cons,List.append_nil,List.length_append,List.length_cons,BN.mk.injEq,true_and];exact Nat.mod_eq_of_lt (by omega)
  rw [e];have O:(Aq (L.Aa++m::D.Aa)).Fits t:=Co (by
   simp only [Aq,List.length_map] at U;exact ZX)
  refine⟨[L.h],O,λx=>by rw [h1,g1],λR' ab _ _=>⟨rfl, ?_,ab,O⟩⟩
  show lo1+lo2+1<=(L.Aa++m::D.Aa).length
  exact ZX
 |succ a=>
  obtain⟨c,l,h1,aa,ah,ai,am,an⟩:=af;obtain⟨d,k,g1,g2,g3,g4,g5,g6⟩:=ag;rw [(ai.get J).1,(g4.get J).1] at U ⊢;have e:Iv (Aj c l) (Aj d k) m.kh m.vh=Aj c (l++(m,d)::k):=by
   rw [h1,g1] at al;unfold Iv Aj;simp only [List.map_append,List.map_cons,List.cons_append,BN.mk.injEq,true_and,CS,List.length_append,List.length_cons];exact Nat.mod_eq_of_lt (by omega)
  rw [e];have h0:=Yqi;have O:(Aj c (l++(m,d)::k)).Fits t:=CB (by
   simp only [Aj,List.length_map] at U;simp only [List.length_append,List.length_cons];omega) (by
   have q1:=h0 c l ai.2;have ac:=h0 d k g4.2;simp only [List.map_append,List.map_cons,List.mem_cons,List.mem_append,not_or] at q1 ac ⊢;exact⟨q1.1,q1.2,ac.1,ac.2⟩)
  refine⟨L.h::Ax c (l++(m,d)::k),O,λx=>by rw [aa,g2,El];simp only [List.count_cons,List.count_append,List.count_nil];omega,λR' ab ao aj=> ?_⟩;rw [aa,g2,List.cons_append] at aj;have ae:=(List.nodup_cons.1 aj).1;simp only [List.mem_append,List.mem_cons,not_or] at ae;have V: ∀z,z∈Ax c l++Ax d k->R' z=R z:=λz I=>ao z (by rw [El];exact List.mem_cons_of_mem _ I) λe=>by
   rw [e] at I;rcases List.mem_append.1 I with h|h
   . exact ae.1 h
   . exact ae.2.2 h
  refine⟨c,l++(m,d)::k, ?_,rfl, ?_,⟨ab,O⟩,am.congr λz I=>V z (List.mem_append.2 (.inl (List.mem_append.2 (.inl I)))),λp hp=> ?_⟩
  . show L.Aa++m::D.Aa=_
    rw [h1,g1,CS]
  . exact ZX
  . rcases List.mem_append.1 hp with hp|hp
    . exact(an p hp).congr λz I=>V z (List.mem_append.2 (.inl (C2 hp I)))
    . rcases List.mem_cons.1 hp with rfl|hp
      . exact g5.congr λz I=>V z (List.mem_append.2 (.inr (List.mem_append.2 (.inl I))))
      . exact(g6 p hp).congr λz I=>V z (List.mem_append.2 (.inr (C2 hp I)))
def YX{P}(h:P:=by
 simp only [List.length_append,List.length_cons,List.length_nil];omega):=h
def Ydx{P}(h:P:=by
 rw [I,g2,El,BC];simp only [Ax,List.flatMap_nil,List.append_nil,List.count_cons,List.count_append];omega):=h
theorem Te(V:BN.A1 t){L D:Sb}(m:It)(ah:At R t a lo1 L)(ai:At R t a (lo2+1) D)(aj:(Ag R t L.h).keys.length+1<=2*t-1)(Z:L.Aa.length+1+D.Aa.length<18446744073709551616)(aa:more=(CH R t (Ag R t D.h).kids 0+1)%18446744073709551616):
 ∃m' il id nl nd,m'.kh=(Ag R t D.h).keys.getD 0 0/\m'.vh=(Ag R t D.h).Ab.getD 0 0/\L.Aa++m::D.Aa=il++m' ::id/\L.Aa.length<il.length/\
  (Iq (Ag R t L.h) (Ag R t D.h) m.kh m.vh more).Fits t/\(Ix (Ag R t D.h) more).Fits t/\(∀x,nl.count x+nd.count x=L.ns.count x+D.ns.count x)/\L.h∈nl/\D.h∈nd/\
  ∀R',R' L.h=some ((Iq (Ag R t L.h) (Ag R t D.h) m.kh m.vh more).wd t)->R' D.h=some ((Ix (Ag R t D.h) more).wd t)->(∀z,z∈L.ns\/z∈D.ns->z≠L.h->z≠D.h->R' z=R z)->(L.ns++D.ns).Nodup->
   At R' t a (lo1+1) ⟨L.h,il,nl⟩/\At R' t a lo2 ⟨D.h,id,nd⟩:=by
 cases a with
 |zero=>
  obtain⟨h1,I,al⟩:=ah;obtain⟨g1,g2,g3⟩:=ai;rw [(al.get V).1,(g3.get V).1] at*;obtain⟨m',id,hid⟩: ∃m' id,D.Aa=m' ::id:=by
   cases hd:D.Aa with
   |nil=>rw [hd] at g2;simp at g2
   |cons m' id=>exact⟨m',id,rfl⟩
  rw [hid] at g2 g3 Z aa ⊢;have ab:more=1:=by rw [aa];simp [CH,Aq]
  subst ab;have ac:Iq (Aq L.Aa) (Aq (m' ::id)) m.kh m.vh 1=Aq (L.Aa++ [m]):=by
   unfold Iq Aq;simp only [List.map_append,List.map_cons,List.map_nil,List.take_nil,List.append_nil,List.length_append,List.length_cons,List.length_nil,BN.mk.injEq,true_and];exact Nat.mod_eq_of_lt (by omega)
  have ae:Ix (Aq (m' ::id)) 1=Aq id:=by
   simp only [List.length_cons] at Z;unfold Ix Aq;simp only [List.map_cons,List.drop_succ_cons,List.drop_zero,List.drop_nil,List.length_cons,BN.mk.injEq,true_and];omega
  rw [ac,ae];have f1:(Aq (L.Aa++ [m])).Fits t:=Co (by
   simp only [Aq,List.length_map] at aj;exact YX)
  have f2:(Aq id).Fits t:=Co (by have:=g3.2.1;simp only [Aq,List.length_map,List.length_cons] at this;omega);refine⟨m',L.Aa++ [m],id,[L.h],[D.h],by simp [Aq],by simp [Aq],by simp,by simp,f1,f2,λx=>by rw [h1,g1],by simp,by simp,λR' q1 U _ _=>⟨⟨rfl, ?_,q1,f1⟩,⟨rfl, ?_,U,f2⟩⟩⟩
  . show lo1+1<=(L.Aa++ [m]).length
    exact YX
  . show lo2<=id.length
    simp only [List.length_cons] at g2;omega
 |succ a=>
  obtain⟨c,l,h1,I,al,am,ar,au⟩:=ah;obtain⟨d,k,g1,g2,g3,g4,g5,g6⟩:=ai;rw [(am.get V).1,(g4.get V).1] at*;obtain⟨m',e,k',rfl⟩: ∃m' e k',k=(m',e)::k' :=by
   cases k with
   |nil=>simp at g3
   |cons p k' =>exact⟨p.1,p.2,k',rfl⟩
  rw [h1,g1] at Z;have hg:D.Aa=d.Aa++m' ::Ah e k' :=by rw [g1,BW]
  rw [BW] at Z;simp only [List.length_append,List.length_cons] at Z;have ab:more=d.Aa.length+1:=by
   rw [aa];unfold CH;rw [if_neg (by simp [Aj])]
   show((Ag R t d.h).size+1)%_=_
   rw [g5.sizeOf V];exact Nat.mod_eq_of_lt (by omega)
  subst ab;clear aa;have aw:(Ah c (l++ [(m,d)])).length=(Ah c l).length+(d.Aa.length+1):=by rw [CS];simp [Ah,rest];omega
  have ac:Iq (Aj c l) (Aj d ((m',e)::k')) m.kh m.vh (d.Aa.length+1)=Aj c (l++ [(m,d)]):=by
   unfold Iq Aj;simp only [List.map_append,List.map_cons,List.map_nil,List.cons_append,List.take_succ_cons,List.take_zero,BN.mk.injEq,true_and];rw [aw];exact Nat.mod_eq_of_lt (by omega)
  have ae:Ix (Aj d ((m',e)::k')) (d.Aa.length+1)=Aj e k' :=by
   unfold Ix Aj;simp only [List.map_cons,List.drop_succ_cons,List.drop_zero,BN.mk.injEq,true_and,BW,List.length_append,List.length_cons];omega
  rw [ac,ae];have h0:=Yqi;have q1:=h0 c l am.2;have U:=h0 d _ g4.2;simp only [List.map_cons,List.mem_cons,not_or] at q1 U;have f1:(Aj c (l++ [(m,d)])).Fits t:=CB (by
   simp only [Aj,List.length_map] at aj;simp only [List.length_append,List.length_cons,List.length_nil];omega) (by
   simp only [List.map_append,List.map_cons,List.map_nil,List.mem_cons,List.mem_append,List.not_mem_nil,or_false,not_or];exact⟨q1.1,q1.2,U.1⟩)
  have f2:(Aj e k').Fits t:=CB (by have:=g4.2.1;simp only [Aj,List.length_map,List.length_cons] at this;omega) (by
   simp only [List.mem_cons,not_or];exact⟨U.2.1,U.2.2⟩)
  refine⟨m',Ah c (l++ [(m,d)]),Ah e k',L.h::Ax c (l++ [(m,d)]),D.h::Ax e k',by simp [Aj],by simp [Aj], ?_, ?_,f1,f2,λx=> ?_,by simp,by simp,λR' r1 r2 af an=> ?_⟩
  . rw [hg,h1,CS];simp [Ah,rest]
  . rw [h1,CS];simp
  . exact Ydx
  . rw [I,g2,BC] at an
    rw [I,g2,BC] at af;have ao:=an;rw [List.nodup_append] at ao;obtain⟨n1,n2,n3⟩:=ao;have ax:=(List.nodup_cons.1 n1).1;have n5:=(List.nodup_cons.1 n2).1;have aq: ∀z,z∈Ax c l->R' z=R z:=(λz J=>af z (.inl (List.mem_cons_of_mem _ J)) (λe=>ax (by rw [<-e];exact J)) (λe=>n3 z (List.mem_cons_of_mem _ J) D.h (by simp) e));have hd: ∀z,z∈d.ns++Ax e k' ->R' z=R z:=(λz J=>af z (.inr (List.mem_cons_of_mem _ J)) (λag =>n3 L.h (by simp) z (List.mem_cons_of_mem _ J) ag.symm) (λag =>n5 (by rw [<-ag];exact J)));refine⟨⟨c,l++ [(m,d)],rfl,rfl,by simp;omega,⟨r1,f1⟩,ar.congr λz J=>aq z (List.mem_append.2 (.inl J)),λp hp=> ?_⟩,⟨e,k',rfl,rfl,by simp at g3;omega,⟨r2,f2⟩,(g6 (m',e) (by simp)).congr λz J=>hd z (List.mem_append.2 (.inr (List.mem_append.2 (.inl J)))),λp hp=>(g6 p (by simp [hp])).congr λz J=>hd z (List.mem_append.2 (.inr (C2 hp J)))⟩⟩;rcases List.mem_append.1 hp with hp|hp
    . exact(au p hp).congr λz J=>aq z (C2 hp J)
    . rw [List.mem_singleton] at hp
      rw [hp];exact g5.congr λz J=>hd z (List.mem_append.2 (.inl J))
theorem VJ(V:BN.A1 t){L D:Sb}(m:It)(ao:At R t a (lo1+1) L)(aq:At R t a lo2 D)(ar:(Ag R t D.h).keys.length+1<=2*t-1)(ab:L.Aa.length+1+D.Aa.length<18446744073709551616)(ac:more=(CH R t (Ag R t L.h).kids ((Ag R t L.h).kids.length-1)+1)%18446744073709551616):
 ∃m' il id nl nd,m'.kh=(Ag R t L.h).keys.getD ((Ag R t L.h).keys.length-1) 0/\m'.vh=(Ag R t L.h).Ab.getD ((Ag R t L.h).keys.length-1) 0/\L.Aa++m::D.Aa=il++m' ::id/\D.Aa.length<id.length/\
  (Io (Ag R t L.h) more).Fits t/\(Ik (Ag R t L.h) (Ag R t D.h) m.kh m.vh more).Fits t/\(∀x,nl.count x+nd.count x=L.ns.count x+D.ns.count x)/\L.h∈nl/\D.h∈nd/\
  ∀R',R' L.h=some ((Io (Ag R t L.h) more).wd t)->R' D.h=some ((Ik (Ag R t L.h) (Ag R t D.h) m.kh m.vh more).wd t)->(∀z,z∈L.ns\/z∈D.ns->z≠L.h->z≠D.h->R' z=R z)->(L.ns++D.ns).Nodup->
   At R' t a lo1 ⟨L.h,il,nl⟩/\At R' t a (lo2+1) ⟨D.h,id,nd⟩:=by
 cases a with
 |zero=>
  obtain⟨h1,I,U⟩:=ao;obtain⟨g1,g2,g3⟩:=aq;rw [(U.get V).1,(g3.get V).1] at*;obtain⟨il,m',Z⟩: ∃il m',L.Aa=il++ [m']:=⟨L.Aa.dropLast,L.Aa.getLast (by intro e;rw [e] at I;simp at I),(List.dropLast_concat_getLast _).symm⟩;rw [Z] at I U ab ac ⊢;have ae:more=1:=by rw [ac];simp [CH,Aq]
  subst ae;have hlen:(Aq (il++ [m'])).keys.length-1=il.length:=by simp [Aq]
  have af:Io (Aq (il++ [m'])) 1=Aq il:=by
   unfold Io;rw [hlen];unfold Aq;simp only [List.map_append,List.map_cons,List.map_nil,List.take_nil,BN.mk.injEq];simp only [List.length_append,List.length_cons,List.length_nil] at ab ⊢;refine⟨by simp,by simp,trivial,by omega⟩
  have ag:Ik (Aq (il++ [m'])) (Aq D.Aa) m.kh m.vh 1=Aq (m::D.Aa):=by
   unfold Ik Aq;simp only [List.map_cons,List.drop_nil,List.take_nil,List.nil_append,List.length_cons,BN.mk.injEq,true_and];exact Nat.mod_eq_of_lt (by omega)
  rw [af,ag];have f1:(Aq il).Fits t:=Co (by have:=U.2.1;simp only [Aq,List.length_map,List.length_append,List.length_cons,List.length_nil] at this;omega);have f2:(Aq (m::D.Aa)).Fits t:=Co (by
   simp only [Aq,List.length_map] at ar;simp only [List.length_cons];omega)
  refine⟨m',il,m::D.Aa,[L.h],[D.h],by rw [hlen];simp [Aq],by rw [hlen];simp [Aq],by simp,by simp,f1,f2,λx=>by rw [h1,g1],by simp,by simp,λR' q1 aa _ _=>⟨⟨rfl, ?_,q1,f1⟩,⟨rfl, ?_,aa,f2⟩⟩⟩
  . show lo1<=il.length
    simp only [List.length_append,List.length_cons,List.length_nil] at I;omega
  . show lo2+1<=(m::D.Aa).length
    simp only [List.length_cons];omega
 |succ a=>
  obtain⟨c,l,h1,I,U,ah,aA,ai⟩:=ao;obtain⟨d,k,g1,g2,g3,g4,g5,g6⟩:=aq;rw [(ah.get V).1,(g4.get V).1] at*;obtain⟨l',m',e,rfl⟩: ∃l' m' e,l=l' ++ [(m',e)]:=by
   have au:l≠ []:=(by intro e;rw [e] at U;simp at U);exact⟨l.dropLast,(l.getLast au).1,(l.getLast au).2,(List.dropLast_concat_getLast _).symm⟩
  have Z:Ah c (l' ++ [(m',e)])=Ah c l' ++m' ::e.Aa:=by rw [CS];simp [Ah,rest]
  rw [h1,g1,Z] at ab;simp only [List.length_append,List.length_cons] at ab;have hlen:(Aj c (l' ++ [(m',e)])).keys.length-1=l'.length:=by simp [Aj]
  have aw:(Aj c (l' ++ [(m',e)])).keys.length=l'.length+1:=by simp [Aj]
  have aj:(Aj c (l' ++ [(m',e)])).kids=(c.h::l'.map (·.2.h))++ [e.h]:=by simp [Aj]
  have ae:more=e.Aa.length+1:=by
   rw [ac];unfold CH;rw [if_neg (by simp [Aj]),aj];have:((c.h::l'.map (·.2.h))++ [e.h]).getD (((c.h::l'.map (·.2.h))++ [e.h]).length-1) 0=e.h:=(by simp);rw [this,(ai (m',e) (by simp)).sizeOf V]
   show(e.Aa.length+1)%_=_
   exact Nat.mod_eq_of_lt (by omega)
  subst ae;clear ac;have aB:(Ah c (l' ++ [(m',e)])).length=(Ah c l').length+(e.Aa.length+1):=by rw [Z];simp
  have af:Io (Aj c (l' ++ [(m',e)])) (e.Aa.length+1)=Aj c l' :=by
   unfold Io;rw [hlen,aw,aj];unfold Aj;simp only [BN.mk.injEq,aB];refine⟨by simp,by simp, ?_,by omega⟩;rw [List.take_left' (by simp)]
  have ag:Ik (Aj c (l' ++ [(m',e)])) (Aj d k) m.kh m.vh (e.Aa.length+1)=Aj e ((m,d)::k):=by
   unfold Ik;rw [aw,aj,List.drop_left' (by simp)];unfold Aj;simp only [List.map_cons,List.take_succ_cons,List.take_zero,List.cons_append,List.nil_append,BN.mk.injEq,true_and,BW,List.length_append,List.length_cons];rw [Nat.mod_eq_of_lt (by omega)];omega
  rw [af,ag];have h0:=Yqi;have q1:=h0 _ _ ah.2;have aa:=h0 d _ g4.2;simp only [List.map_append,List.map_cons,List.map_nil,List.mem_cons,List.mem_append,List.not_mem_nil,or_false,not_or] at q1 aa;have f1:(Aj c l').Fits t:=CB (by have:=ah.2.1;simp only [Aj,List.length_map,List.length_append,List.length_cons,List.length_nil] at this;omega) (by
   simp only [List.mem_cons,not_or];exact⟨q1.1,q1.2.1⟩)
  have f2:(Aj e ((m,d)::k)).Fits t:=CB (by
   simp only [Aj,List.length_map] at ar;simp only [List.length_cons];omega) (by
   simp only [List.map_cons,List.mem_cons,not_or];exact⟨q1.2.2,aa.1,aa.2⟩)
  refine⟨m',Ah c l',Ah e ((m,d)::k),L.h::Ax c l',D.h::Ax e ((m,d)::k),by rw [hlen];simp [Aj],by rw [hlen];simp [Aj], ?_, ?_,f1,f2,λx=> ?_,by simp,by simp,λR' r1 r2 al ax=> ?_⟩
  . rw [g1,h1,Z,BW];simp
  . rw [g1,BW];simp;omega
  . exact Ydx
  . have ay:Ax c (l' ++ [(m',e)])=Ax c l' ++e.ns:=by rw [El];simp [Ax]
    rw [I,g2,ay] at ax;rw [I,g2,ay] at al;have az:=ax;rw [List.nodup_append] at az;obtain⟨n1,n2,n3⟩:=az;have aC:=(List.nodup_cons.1 n1).1;have n5:=(List.nodup_cons.1 n2).1;have am: ∀z,z∈Ax c l' ++e.ns->R' z=R z:=(λz J=>al z (.inl (List.mem_cons_of_mem _ J)) (λe=>aC (by rw [<-e];exact J)) (λe=>n3 z (List.mem_cons_of_mem _ J) D.h (by simp) e));have hd: ∀z,z∈Ax d k->R' z=R z:=(λz J=>al z (.inr (List.mem_cons_of_mem _ J)) (λan =>n3 L.h (by simp) z (List.mem_cons_of_mem _ J) an.symm) (λan =>n5 (by rw [<-an];exact J)));refine⟨⟨c,l',rfl,rfl,by simp at U;omega,⟨r1,f1⟩,aA.congr λz J=>am z (List.mem_append.2 (.inl (List.mem_append.2 (.inl J)))),λp hp=>(ai p (by simp [hp])).congr λz J=>am z (List.mem_append.2 (.inl (C2 hp J)))⟩,⟨e,(m,d)::k,rfl,rfl,by simp;omega,⟨r2,f2⟩,(ai (m',e) (by simp)).congr λz J=>am z (List.mem_append.2 (.inr J)),λp hp=> ?_⟩⟩;rcases List.mem_cons.1 hp with rfl|hp
    . exact g5.congr λz J=>hd z (List.mem_append.2 (.inl J))
    . exact(g6 p hp).congr λz J=>hd z (C2 hp J)
end
end Bt
variable {A:Option Addr}{F:Nat->Prop}{bt c:Nat}{l:List Nat}{n:BN}{v:Value}
def U6(w:World)(R:Zr)(t x:Nat)(e:Ending)(w' :World):Prop:=
 ∃v1 v2 v3,e= .returned (.agg #[v1,v2,v3, .int .u64 ((Ag R t x).size:Nat)])/\AQ w' w.heap.size v1 (Ag R t x).keys v2 (Ag R t x).Ab v3 (Ag R t x).kids/\Below w.heap.size w w'
theorem CX.below{w w' :World}(h:CX w F v n)(d:Below w.heap.size w w'):CX w' F v n:=by
 obtain⟨⟨I,J,O,U,V,ci,rfl,k1,k2,Z⟩,aa⟩:=h;exact⟨⟨I,J,O,U,V,ci,rfl,k1.Ar (Ad.below d),k2.Ar (Ad.below d),Z.Ar (Ad.below d)⟩,aa⟩
section
variable {w w':World} {s N:Nat} {R:Zr} {nn:Nat}
theorem F6(h:Rd N w s R nn)(t:Nat)(ar:BN.A1 t)(x:Nat)(hx:x<18446744073709551616):
 Calls prog 72 #[.agg #[.pointer (some ⟨s,0,none⟩), .int .i64 t], .int .u64 x] w (U6 w R t x):=by
 obtain⟨d,J⟩:=Zx ((w.alloc (Obj.cells #[.pointer (some ⟨s,0,none⟩), .int .i64 t] 77)).alloc (Obj.cells #[.slice none 0 0, .slice none 0 0, .slice none 0 0, .int .u64 0] 100));have ab:=Xb;obtain⟨an,Z⟩:=Zx (w.heap.size+1);have ao:An d an 100 [.slice none 0 0, .slice none 0 0, .slice none 0 0, .int .u64 0]:=by
  rw [J,Z];have:=An.new (w.alloc (Obj.cells #[.pointer (some ⟨s,0,none⟩), .int .i64 t] 77)) 100 [.slice none 0 0, .slice none 0 0, .slice none 0 0, .int .u64 0]
  rwa [show(w.alloc (Obj.cells #[.pointer (some ⟨s,0,none⟩), .int .i64 t] 77)).heap.size=w.heap.size+1 by simp] at this
 have g4:w.heap.size<=an:=by omega
 have au:=Zh (Lj (h.below ab) t ar x hx);obtain⟨aw,ac,ax⟩:=EW;have aq:=Zh ao;clear h J ab ao Z;go_enter func72,ntmps72;go_wp2_with fail;rw [<-aw.out,<-ax.out];refine au.mono ?_;rintro e w3 ⟨v1,v2,v3,rfl,aj,I⟩;obtain⟨U,k1,rfl⟩:=Ae aj.r1;obtain⟨aa,k2,rfl⟩:=Ae aj.r2;obtain⟨O,V,rfl⟩:=Ae aj.r3;have ai:=Zh aj;have ag:=DR;have ae:=Zh (aq.below I);have ah:=Zh aq.lt;have aE:=ae.lt;clear aj I;obtain⟨⟨c0,c1,c2,c3⟩,f0,f1,f2,f3⟩:=Yq ae.out;have af:Hid (∀v1 v2 v3 W,AQ W w.heap.size v1 (Ag R t x).keys v2 (Ag R t x).Ab v3 (Ag R t x).kids->Below w.heap.size w W->U6 w R t x (.returned (.agg #[v1,v2,v3, .int .u64 ((Ag R t x).size:Nat)])) W):=Zh (λv1 v2 v3 W h1 ay=>⟨v1,v2,v3,rfl,h1,ay⟩);generalize (Ag R t x).keys.length=n1 at*;generalize (Ag R t x).Ab.length=n2 at*;generalize (Ag R t x).kids.length=n3 at*;generalize (Ag R t x).size=n4 at*;generalize Bm R t x=er at*;obtain⟨al,az,aA,am⟩:=Yil;unfold IS at al am;have aB:=Zh al;have aC:=Zh am;clear al az aA am;go_wp2;obtain⟨aD,r1,r2,r3⟩:=C5 aB.out;refine bodyPost_ret (v:= .agg #[.slice U n1 k1, .slice aa n2 k2, .slice O n3 V, .int .u64 n4]) (by simp [results,f72,go_sem,aD,r1,r2,r3]) rfl aC.out
variable  {H:List Nat} {P q most last G:Nat}
theorem Gb(h:Am w s F R H P q most last G)(t:Nat)(ae:BN.A1 t)(x:Nat)(hx:x<18446744073709551616)(O:CX w F v n)(U:n.Ok):
 Calls prog 126 #[.agg #[.pointer (some ⟨s,0,none⟩), .int .i64 t], .int .u64 x,v] w λe w' =>e= .returned (.tuple #[])/\Am w' s F (Bq R t x n) H P q most last G/\Ad w F w' F:=by
 have V:=O;obtain⟨⟨af,ag,ah,ai,aj,ci,rfl,k1,k2,al⟩,am⟩:=O;obtain⟨d,J⟩:=Zx ((w.alloc (Obj.cells #[.pointer (some ⟨s,0,none⟩), .int .i64 t] 77)).alloc (Obj.cells #[.slice af n.keys.length ag, .slice ah n.Ab.length ai, .slice aj n.kids.length ci, .int .u64 n.size] 100));have I:=Xb;have an:=Zh (F8 (h.below I) t ae x hx (V.below I) U);have ao:=Zh J;have aq:=Zh I;generalize n.keys.length=n1 at*;generalize n.Ab.length=n2 at*;generalize n.kids.length=n3 at*;generalize n.size=ar at*;clear h V k1 k2 al am J I U;go_enter func126,ntmps126;go_wp2_with fail;rw [<-ao.out];refine an.mono ?_;rintro e w3 ⟨rfl,Z,aa⟩;have ac:=Zh (And.intro Z ((Ad.below (F:=F) aq.out).trans aa));clear Z aa;go_wp2;go_end0;exact⟨rfl,ac.1,ac.2⟩
theorem RG(h:Am w s F R H P q most last G){x:Nat}(hx:x<18446744073709551616)(d:R x=none):
 Calls prog 40 #[.pointer (some ⟨s,0,none⟩), .int .u64 x] w λe w' =>e= .returned (.int .i64 7)/\w=w' :=by
 obtain⟨a,ha,t,v,L,mem,sl,Fh,h⟩:=h;have I:=Zh (PE h hx (h.no d));clear h d hx;go_enter func40,ntmps40;go_wp2_with fail;refine I.mono ?_;rintro e w' ⟨rfl,rfl⟩;go_wp2;go_ret;exact⟨rfl,rfl⟩
theorem Kq(h:Am w s F R H P q most last G)(x:Nat)(hx:x<18446744073709551616):
 Calls prog 40 #[.pointer (some ⟨s,0,none⟩), .int .u64 x] w λe w' => ∃(er:Nat) (F' :Nat->Prop),e= .returned (.int .i64 er)/\Am w' s F' (AT R x none) (H.erase x) P q most last G/\Ad w F w' F' :=by
 cases d:R x with
 |some ws=>exact(LQ h d).mono (by rintro e w' ⟨F',rfl,h1,I⟩;exact⟨0,F',rfl,h1,I⟩)
 |none=>
  have J:x∉H:=λhm=>(h.SB x).1 hm d
  have O:AT R x none=R:=by
   funext y
   unfold AT;by_cases e:y=x
   . rw [if_pos e,e,d]
   . rw [if_neg e]
  refine(RG h hx d).mono ?_;rintro e w' ⟨rfl,rfl⟩;rw [O,List.erase_of_not_mem J];exact⟨7,F,rfl,h,Ad.refl _ _⟩
end
section
variable {w w':World} {s N:Nat} {R:Zr} {nn:Nat}
def Z3{P}(h:P:=by
 have d:=λX:Au (λ_=>False) O=>X.cell a3 (λh=>h)
 exact d):=h
theorem Ng(h:Rd N w s R nn)(t:Nat)(aj:BN.A1 t)(Z:AJ w F A (AG l))(aa: ∀x∈l,x<18446744073709551616)(k:Nat)(d:l= []\/k<l.length)(al:l.length<=100):
 Calls prog 174 #[.agg #[.pointer (some ⟨s,0,none⟩), .int .i64 t], .slice A l.length c, .int .i64 k] w λe w' =>e= .returned (.int .u64 (CH R t l k:Nat))/\Below w.heap.size w w' :=by
 obtain⟨O,ae⟩:=Zx (w.alloc (Obj.cells #[.pointer (some ⟨s,0,none⟩), .int .i64 t] 77));have I:=G5;rcases d with d|d
 . subst d
   have J:CH R t [] k=0:=rfl;rw [J];clear h Z aa al;go_enter func174,ntmps174;go_wp2;go_ret;rw [<-ae];exact⟨rfl,I⟩
 . have ab: ¬l= []:=λe=>by rw [e] at d;simp at d
   have J:CH R t l k=(Ag R t l[k]).size:=by
    unfold CH;rw [if_neg ab];simp [d]
   obtain⟨b,o,rfl,ac,af⟩:=Z.num d;have a3:=af O I;have am:=aa _ (List.getElem_mem d);rw [J];generalize l[k]=x at*;have an:=Zh (λW (ac:Below w.heap.size w W)=>F6 (h.below ac) t aj x am);have aS:An O w.heap.size 77 [.pointer (some ⟨s,0,none⟩), .int .i64 t]:=(by rw [ae];exact An.new w 77 [.pointer (some ⟨s,0,none⟩), .int .i64 t]);have ax:((l.length:Int)==0)=false:=(by simp;omega);have U:=Zh I;have ao:=Zh ae;obtain⟨aq,ar⟩:=Yhx;have au:=Z3;clear h Z aa af J ab ae I a3 aS;go_enter func174,ntmps174;go_wp2;rw [<-ao.out];refine Aw (λw' => ∃X:Au (λ_=>False) O,w' =X.W) [.r 0, .r 1, .r 2, .r 3, .r 4, .a 5, .r 6, .r 7] (Ay _ _) ?_
   iterate 5 (refine AE ?_;go_simp)
   clear aq ar au;refine AK _ rfl (λaw ag=> ?_);go_wp2_with fail;refine(an _ (U.trans ((Ac O).mono U.size))).mono ?_;rintro e ay ⟨v1,v2,v3,rfl,V,ah⟩;have ai:=Zh ((Ac O).trans ah);obtain⟨az,k1,rfl⟩:=Ae V.r1;obtain⟨aA,k2,rfl⟩:=Ae V.r2;obtain⟨aB,aC,rfl⟩:=Ae V.r3;clear V ah;go_wp2;refine ag _ _ (Af ai) ?_;clear ag aw
   iterate 2 (refine AE ?_;go_simp)
   refine AO ?_;go_wp2;go_ret;exact⟨rfl,U.trans (ai.mono U.size)⟩
end
section
variable {w w':World} {s N:Nat} {R:Zr} {nn:Nat}
theorem V8(h:Rd N w s R nn)(O:Ba R){t:Nat}(c0:w.cell? ⟨bt,0,none⟩=some (.pointer (some ⟨s,0,none⟩)))(x:Nat)(hx:x<18446744073709551616)(key:ByteArray):
 Calls prog 75 #[.int .u64 x, .string key, .pointer (some ⟨bt,0,none⟩)] w λe w' =>e= .returned (.int .i64 (Tx.cmp (BH R x) key))/\Below w.heap.size w w' :=by
 have J:=Hs h O x hx;have d:=Zh (λW=>Tx.LG (BH R x) key W);unfold G9 at J;rw [show(G8 R x).getD ⟨#[]⟩=BH R x from rfl] at J;have I:=Zh J;clear h J;generalize Tx.cmp (BH R x) key=cc at*;generalize BH R x=U at*;generalize C8 R x=er at*;go_enter func75,ntmps75;exact Ycq
theorem QC(h:Rd N w s R nn)(Z:Ba R){t:Nat}(c0:w.cell? ⟨bt,0,none⟩=some (.pointer (some ⟨s,0,none⟩)))(U:AJ w F A (AG l))(aa:l.length<=4398046511104)(hx: ∀i (hi:i<l.length),l[i]<18446744073709551616)(key:ByteArray):
 Calls prog 74 #[.slice A l.length c, .string key, .func (.func 75) #[] #[.pointer (some ⟨bt,0,none⟩)]] w λe w' =>e= .returned (.tuple #[.int .i64 (DJ R l key:Nat), .bool (Gx R l key)])/\Below w.heap.size w w' :=by
 have V:=Zh (λW (d:Below w.heap.size w W) i (hi:i<l.length)=>V8 (h.below d) Z (t:=t) ((d.cell (p:=⟨bt,0,none⟩) (Al c0)).trans c0) l[i] (hx i hi) key);obtain⟨hN,I,O,J⟩:=Yjp;clear h U c0;exact Yac
theorem Wo(h:Rd N w s R nn)(ag:Ba R)(ah:CX w F v n)(hx: ∀x∈n.keys,x<18446744073709551616){J t:Nat}(key:ByteArray)(U:w.cell? ⟨J,0,none⟩=some (.string key))(c0:w.cell? ⟨bt,0,none⟩=some (.pointer (some ⟨s,0,none⟩))):
 Calls prog 73 #[v, .pointer (some ⟨J,0,none⟩), .pointer (some ⟨bt,0,none⟩)] w λe w' =>e= .returned (.tuple #[.int .i64 (He key R n).1, .bool (He key R n).2])/\Below w.heap.size w w' :=by
 obtain⟨⟨Z,V,aa,ab,ac,ci,rfl,k1,k2,ai⟩,l1,l2,l3⟩:=ah;obtain⟨O,ae⟩:=Zx (w.alloc (Obj.cells #[.slice Z n.keys.length V, .slice aa n.Ab.length ab, .slice ac n.kids.length ci, .int .u64 (n.size:Nat)] 100));have I:=G5;have c1:=(I.cell (p:=⟨bt,0,none⟩) (Al c0)).trans c0;have d:=Zh (QC (h.below I) ag (t:=t) c1 (c:=V) (k1.Ar (Ad.below (F:=F) I)) l1 (λi hi=>hx _ (List.getElem_mem hi)) key);have aI:=Zh I;have af:=Zh ae;have aj:=Zh ((I.cell (p:=⟨J,0,none⟩) (Al U)).trans U);unfold He;generalize DJ R n.keys key=al at*;generalize Gx R n.keys key=am at*;generalize n.keys.length=n1 at*;generalize n.Ab.length=n2 at*;generalize n.kids.length=n3 at*;have an:(w.alloc (Obj.cells #[.slice Z n1 V, .slice aa n2 ab, .slice ac n3 ci, .int .u64 (n.size:Nat)] 100)).cell? ⟨J,0,none⟩=some (.string key):=by rw [<-af.out];exact aj.out
 clear h I ae k1 k2 ai hx c1 c0 U;go_enter func73,ntmps73;go_wp2_with fail;rw [<-af.out];exact Ydl
end
section
variable {w w':World}   
def Ylb{P}(h:P:=by
 have O:=Zh ((Below.refl w.heap.size w).alloc (Nat.le_refl _) (Obj.cells #[.slice J n.keys.length d, .slice U n.Ab.length I, .slice V n.kids.length ci, .int .u64 n.size] 100));exact O):=h
theorem SJ(R:Zr)(ab:CX w F v n):
 Calls prog 35 #[v] w λe w' =>e= .returned (.tuple #[.int .i64 ((Cu R n).1:Nat), .bool (Cu R n).2])/\Below w.heap.size w w' :=by
 obtain⟨⟨J,d,U,I,V,ci,rfl,k1,k2,ae⟩,l1,l2,l3⟩:=ab;have Z:Hid (∀W (b:Bool),b=(decide (n.kids.length=0)&&decide (0<n.keys.length))->Below w.heap.size w W->Ending.returned (.tuple #[.int .i64 0, .bool b])= .returned (.tuple #[.int .i64 ((Cu R n).1:Nat), .bool (Cu R n).2])/\Below w.heap.size w W):=Zh (λW b ac h1=>⟨by
  unfold Cu;rw [ac];simp [List.length_eq_zero_iff],h1⟩)
 have O:=Ylb;generalize n.keys.length=n1 at*;generalize n.Ab.length=n2 at*;generalize n.kids.length=n3 at*;by_cases aa:n3=0
 . subst aa
   have d3:(((0:Nat):Int)==0)=true:=rfl;go_enter func35,ntmps35;go_wp2
   go_quiet (fail)
   go_wp2
   go_ret2
   exact Z.out _ _ (by simp) (O.trans ((Tx.AL _ nq).mono O.size))
 . have d3:((n3:Int)==0)=false:=by simp;omega
   go_enter func35,ntmps35;go_wp2
   go_quiet (fail)
   go_wp2
   go_ret2
   exact Z.out _ _ (by simp [aa]) (O.trans ((Tx.AL _ nq).mono O.size))
theorem Rl(R:Zr)(af:CX w F v n):
 Calls prog 36 #[v] w λe w' =>e= .returned (.tuple #[.int .i64 ((Ci R n).1:Nat), .bool (Ci R n).2])/\Below w.heap.size w w' :=by
 obtain⟨⟨J,d,U,I,V,ci,rfl,k1,k2,ag⟩,l1,l2,l3⟩:=af;have ab:=Ylb;by_cases Z:n.kids= []
 . have ac:Hid ((Ci R n)=(n.keys.length-1,decide (0<n.keys.length))):=Zh (by unfold Ci;rw [if_pos Z])
   have ae:n.kids.length=0:=(by rw [Z];rfl);rw [ac.out];generalize n.keys.length=n1 at*;generalize n.Ab.length=n2 at*;generalize n.kids.length=n3 at*;subst ae;have d3:(((0:Nat):Int)==0)=true:=rfl;have al:IntKind.i64.wrap ((n1:Int)-1)=(n1:Int)-1:=(by rw [IntKind.wrap_i64];omega);obtain⟨O,aa⟩:=Zx (w.alloc (Obj.cells #[.slice J n1 d, .slice U n2 I, .slice V 0 ci, .int .u64 n.size] 100));have a6:An O w.heap.size 100 [.slice J n1 d, .slice U n2 I, .slice V 0 ci, .int .u64 n.size]:=(by rw [aa];exact An.new w _ _);have ah:Below w.heap.size w O:=(by rw [aa];exact ab.out);have am:=Yit;have ai:=Zh aa;have an:max ((n1:Int)-1) 0=((n1-1:Nat):Int):=(by omega);clear ab aa a6 k1 k2 ag;go_enter func36,ntmps36;go_wp2;rw [<-ai.out];refine Aw (λw' => ∃X:Au (λ_=>False) O,w' =X.W) [.r 0, .r 1, .r 2, .r 3, .r 4, .r 5, .r 6, .r 7, .r 8, .r 9, .r 10] (Ay _ _) ?_
   iterate 11 (refine AE ?_;go_simp)
   refine AO ?_;go_wp2
   go_ret2
   exact⟨by simp,ah.drew⟩
 . have ac:Hid ((Ci R n)=(n.keys.length,false)):=Zh (by unfold Ci;rw [if_neg Z])
   have ae:n.kids.length≠0:=(λaj=>Z (List.eq_nil_of_length_eq_zero aj));rw [ac.out];generalize n.keys.length=n1 at*;generalize n.Ab.length=n2 at*;generalize n.kids.length=n3 at*;have d3:((n3:Int)==0)=false:=(by simp;omega);go_enter func36,ntmps36;go_wp2
   go_ret2
   exact⟨rfl,ab⟩
end
