/-
  The seat's own texts, part xi: Bf1, Bf2, Bf3, Bk7, RankP, Bf4, Marks, BnOk, Base16w.
-/
import Derived.Test.YthcmecokejemcaaGreatDoorWMxf
import Derived.Test.YthcmecokejemcaaGreatDoorWMxh
import Derived.WalkLawsBesides
import Derived.Laws.MakeOwn
import Derived.Laws.OwnMore
set_option linter.unusedSimpArgs false
set_option linter.unusedVariables false
set_option maxHeartbeats 4000000
namespace Go.Proofs.YthcmecokejemcaaGreatDoor
open Go.RowKit Go.Shelf
theorem pgs_node{t:Nat}(ht:BN.Deg t):pgsN (6*t+2)≤2:=by
 have:=ht.2
 unfold pgsN
 split<;>omega
namespace Bt
section
variable {R R1:Nat→Option (List Nat)} {t a lo:Nat}
theorem At.ns_le(ht:BN.Deg t): ∀{a lo:Nat} {s:Sb},At R t a lo s→1≤lo→s.ns.length≤s.its.length
 |0,lo,s,h,hlo=>by
  have h1:=h.1
  have h2:=h.2.1
  rw [h1]
  simp
  omega
 |a+1,lo,s,h,hlo=>by
  obtain⟨c,l,h1,h2,h3,h4,h5,h6⟩:=h
  have t1:=ht.1
  have hc:=At.ns_le ht h5 (by omega)
  have hl: ∀p∈l,p.2.ns.length≤p.2.its.length:=fun p hp=>At.ns_le ht (h6 p hp) (by omega)
  have hsum: ∀l:List Lk,(∀p∈l,p.2.ns.length≤p.2.its.length)→l.length+(l.flatMap fun p=>p.2.ns).length≤(rest l).length:=by
   intro l
   induction l with
   |nil=>intro _;simp
   |cons p l ih=>
    intro h
    have h7:=ih fun q hq=>h q (List.mem_cons_of_mem _ hq)
    have h8:=h p (by simp)
    rw [rest_cons,List.flatMap_cons]
    simp only [List.length_cons,List.length_append]
    omega
  have h7:=hsum l hl
  rw [h1,h2]
  unfold itsOf nsOf
  simp only [List.length_cons,List.length_append]
  omega
theorem Tree.ns_le(ht:BN.Deg t){root:Nat}{its:List It}{ns:List Nat}{hg:Nat}(h:Tree R t root its ns hg):ns.length≤its.length:=by
 rcases h with ⟨_,rfl,rfl,_⟩|⟨a,_,h⟩
 · exact Nat.le_refl _
 · exact At.ns_le ht h (Nat.le_refl _)
theorem Tree.congr' {root:Nat}{its:List It}{ns:List Nat}{hg:Nat}(h:Tree R t root its ns hg)(e: ∀z,R z≠none→R1 z=R z):Tree R1 t root its ns hg:=by
 rcases h with h|⟨a,h1,h2⟩
 · exact .inl h
 · exact .inr ⟨a,h1,h2.congr' e⟩
theorem Own.congr' {its:List It}{ns:List Nat}(h:Own R its ns)(e: ∀z,R z≠none→R1 z=R z):Own R1 its ns:=⟨fun i hi=>(h.at' i hi).congr' e,h.rise,h.nodup⟩
theorem Tree.zero{root:Nat}{its:List It}{ns:List Nat}{hg:Nat}(h:Tree R t root its ns hg)(hz:R 0=none):root=0↔its= []:=by
 rcases h with ⟨h1,h2,_,_⟩|⟨a,h1,h2⟩
 · exact⟨fun _=>h2,fun _=>h1⟩
 · have h0:root≠0:=fun e=>h2.ns_zero hz (by have:=ns_pos h2;rw [←e];exact this)
   refine⟨fun e=>absurd e h0,fun e=> ?_⟩
   have h3:1≤its.length:=by
    cases a with
    |zero=>exact h2.2.1
    |succ a=>
     obtain⟨c,l,h3,h4,h5,h6⟩:=h2
     rw [show its=itsOf c l from h3]
     unfold itsOf
     cases l with
     |nil=>simp at h5
     |cons p l=>rw [rest_cons];simp;omega
   rw [e] at h3
   simp at h3
theorem Tree.bnE0(ht:BN.Deg t){root:Nat}{its:List It}{ns:List Nat}{hg:Nat}(h:Tree R t root its ns hg):root=0∨bnE R t root=0:=by
 rcases h with h|⟨a,_,h⟩
 · exact .inl h.1
 · exact .inr (by obtain⟨n,h1,_⟩:=h.node;exact(h1.get ht).2)
theorem Tree.down(ht:BN.Deg t){root:Nat}{its:List It}{ns:List Nat}{hg:Nat}(h:Tree R t root its ns hg)(hz:R 0=none)(ho:Own R its ns)(hb:its.length<549755813888)(key:ByteArray):
 bdown R t key 40 root 0=((findI its key).map (fun i=>(i.kh,i.vh)),((rankL (prs its) key:Nat):Int)):=by
 rcases h with ⟨rfl,rfl,_,_⟩|⟨a,_,h⟩
 · unfold bdown
   have he:bnE R t 0≠0:=by
    unfold bnE
    rw [hz]
    simp
   rw [if_pos he]
   rfl
 · have:=bdown_right ht key a 1 40 ⟨root,its,ns⟩ 0 h ho.at' ho.rise (h.high ht hb) (by show 0+its.length<_;omega)
   simpa using this
theorem findI_some{l:List It}{key:ByteArray}{i:It}(h:findI l key=some i):i∈l∧i.k=key:=by
 unfold findI at h
 exact⟨List.mem_of_find?_eq_some h,by simpa using List.find?_some h⟩
end
end Bt
structure BtIn(w:World)(s:Nat)(F:Nat→Prop)(R:Nat→Option (List Nat))(H:List Nat)(P q most last G t root:Nat)(its:List It)(ns:List Nat)(hg m:Nat):Prop where
 st:StoreIs w s F R H P q most last G
 z:R 0=none
 sh:Short R
 tr:Bt.Tree R t root its ns hg
 ow:Bt.Own R its ns
 len:H.length=2*its.length+ns.length+m
 rt:root<18446744073709551616
section
variable {w w' :World} {s:Nat} {F F' :Nat→Prop} {R R' :Nat→Option (List Nat)} {H H' :List Nat} {P q most last G t root:Nat} {its:List It} {ns:List Nat} {hg m:Nat}
theorem BtIn.below(h:BtIn w s F R H P q most last G t root its ns hg m)(hb:Below w.heap.size w w'):BtIn w' s F R H P q most last G t root its ns hg m:={ h with st:=h.st.below hb }
theorem BtIn.more(h:BtIn w s F R H P q most last G t root its ns hg m){P' G' :Nat}(hP:P≤P')(hG:G≤G'):BtIn w s F R H P' q most last G' t root its ns hg m:={ h with st:=h.st.more hP hG }
theorem BtIn.start(h:StoreIs w s F (fun _=>none) [] P q most last G)(t:Nat):BtIn w s F (fun _=>none) [] P q most last G t 0 [] [] 0 0:=
 ⟨h,rfl,(fun x ws e=>by cases e), .inl ⟨rfl,rfl,rfl,rfl⟩,⟨fun i hi=>by simp at hi,List.Pairwise.nil,by simp⟩,rfl,by decide⟩
theorem BtIn.ne(h:BtIn w s F R H P q most last G t root its ns hg m): ∀z∈ns++its.flatMap It.hs,R z≠none:=fun z hz=>by
 rcases List.mem_append.1 hz with h1|h1
 · rcases h.tr with ⟨_,_,h2,_⟩|⟨a,_,h2⟩
   · rw [h2] at h1;simp at h1
   · obtain⟨ws,h3,_⟩:=h2.ns_rec z h1;rw [h3];simp
 · obtain⟨i,h2,h3⟩:=List.mem_flatMap.1 h1
   have h4:=h.ow.at' i h2
   simp only [It.hs,List.mem_cons,List.not_mem_nil,or_false] at h3
   rcases h3 with h3|h3
   · rw [h3,h4.kt];simp
   · rw [h3,h4.vt];simp
theorem BtIn.grow(h:BtIn w s F R H P q most last G t root its ns hg m){P' G' k:Nat}(hs:StoreIs w' s F' R' H' P' q most last G')(e: ∀z,R z≠none→R' z=R z)(hz:R' 0=none)(hsh:Short R')(hl:H'.length=H.length+k):BtIn w' s F' R' H' P' q most last G' t root its ns hg (m+k):=
 ⟨hs,hz,hsh,h.tr.congr' e,h.ow.congr' e,by rw [hl,h.len];omega,h.rt⟩
inductive InsIn(w:World)(s:Nat)(F:Nat→Prop)(H:List Nat)(P q most last G t root:Nat)(its:List It)(ns:List Nat)(hg m:Nat)(it:It):Ending→World→Prop
 |here {w' :World} {old:It} {R' :Nat→Option (List Nat)} (hf:Bt.findI its it.k=some old) (hb:BtIn w' s F R' H P q most last G t root (Bt.setI its it) ns hg m) (ho:old.At R') (hnd2:((ns++(Bt.setI its it).flatMap It.hs)++old.hs).Nodup) (hT:Turn w F w' F):
  InsIn w s F H P q most last G t root its ns hg m it (.returned (.tuple #[.int .u64 (root:Nat), .agg #[.int .u64 (old.kh:Nat), .int .u64 (old.vh:Nat)], .bool true, .int .i64 0])) w'
 |put {w' :World} {now n:Nat} {R' :Nat→Option (List Nat)} {F' :Nat→Prop} {H' :List Nat} {ns' :List Nat} {hg' :Nat} (hf:Bt.findI its it.k=none) (hl:ns'.length=ns.length+n) (hn:n≤hg+1)
  (hb:BtIn w' s F' R' H' (P+n*2) q most last (G+n) t now (Bt.putI its it) ns' hg' (m-2)) (hT:Turn w F w' F'):
  InsIn w s F H P q most last G t root its ns hg m it (.returned (.tuple #[.int .u64 (now:Nat), .agg #[.int .u64 0, .int .u64 0], .bool false, .int .i64 0])) w'
 |full {w' :World} {n er:Nat} {R' :Nat→Option (List Nat)} {F' :Nat→Prop} (hf:Bt.findI its it.k=none) (hn:n≤hg+1) (he:(er=3∧q<(P+n*2)*64)∨(er=10∧(most<H.length+n∨last<G+n)))
  (hb:BtIn w' s F' R' H (P+n*2) q most last (G+n) t root its ns hg m) (hi:it.At R') (hT:Turn w F w' F'):
  InsIn w s F H P q most last G t root its ns hg m it (.returned (.tuple #[.int .u64 0, .agg #[.int .u64 0, .int .u64 0], .bool false, .int .i64 (er:Nat)])) w'
theorem BtIn.insert(ht:BN.Deg t)(h:BtIn w s F R H P q most last G t root its ns hg m)(it:It)(hi:it.At R)(hm:2≤m)(hnd:((ns++its.flatMap It.hs)++it.hs).Nodup)(hb:its.length<549755813888){e:Ending}
 (hI:InsTop w s t F R H P q most last G root it.kh it.vh e w'):InsIn w s F H P q most last G t root its ns hg m it e w' :=by
 have hk:keyB R it.kh=it.k:=Bt.keyB_at hi
 have he0:blobE R it.kh=0:=(blobR_text hi.kt hi.ks).2
 have hd:=h.tr.down ht h.z h.ow hb it.k
 have hpg:=pgs_node ht
 have hmul: ∀n,n*pgsN (6*t+2)≤n*2:=fun n=>Nat.mul_le_mul_left n hpg
 have hcnt:=List.nodup_iff_count.1 hnd
 cases hI with
 |bad hbad hb' =>
  exfalso
  rcases hbad with h1|⟨h1,h2⟩
  · exact h1 he0
  · rcases h.tr.bnE0 ht with h3|h3
    · exact h1 h3
    · exact h2 h3
 |here h0 h1 hf hs hT=>
  rw [hk] at hf hs ⊢
  rw [hd] at hf
  obtain⟨old,hold⟩: ∃old,Bt.findI its it.k=some old:=by
   cases hfi:Bt.findI its it.k with
   |none=>rw [hfi] at hf;simp at hf
   |some old=>exact⟨old,rfl⟩
  obtain⟨hom,hok⟩:=Bt.findI_some hold
  rcases h.tr with ⟨_,h2,_⟩|⟨a,hhg,hA⟩
  · rw [h2] at hom;simp at hom
  · obtain⟨R',e1,e2,e3⟩:=Bt.swap_right ht it old a 1 40 ⟨root,its,ns⟩ hA h.z (List.nodup_append.1 h.ow.nodup).1 h.ow.at' h.ow.rise hold (hA.high ht hb)
    dsimp only at e1 e2 e3
    rw [e1] at hs ⊢
    dsimp only at hs ⊢
    have hnn: ∀i:It,i.At R→(∀z∈i.hs,z∉ns)→i.At R' :=fun i h1 h2=>h1.congr fun z hz=>e3 z (h2 z hz)
    have hit: ∀z∈it.hs,z∉ns:=fun z hz hn=>by
     have h7:=hcnt z
     have h8:=List.count_pos_iff.2 hz
     have h9:=List.count_pos_iff.2 hn
     simp only [List.count_append] at h7
     omega
    have hio: ∀i∈its,∀z∈i.hs,z∉ns:=fun i hi z hz hn=>by
     have h7:=hcnt z
     have h8:=List.count_pos_iff.2 (List.mem_flatMap.2 ⟨i,hi,hz⟩)
     have h9:=List.count_pos_iff.2 hn
     simp only [List.count_append] at h7
     omega
    obtain⟨u,v,huv⟩:=List.append_of_mem hom
    have hset:Bt.setI its it=u++it::v:=by
     rw [huv]
     exact Bt.setI_mid (by rw [←huv];exact h.ow.rise) hok
    refine .here hold ⟨hs, ?_, ?_, .inr ⟨a,hhg,e2⟩,⟨?_, ?_, ?_⟩, ?_,h.rt⟩ (hnn old (h.ow.at' old hom) (hio old hom)) ?_ hT
    · rw [e3 0 (hA.ns_zero h.z)];exact h.z
    · intro z ws hz
      by_cases hzn:z∈ns
      · obtain⟨ws',h4,h5⟩:=e2.ns_rec z hzn
        rw [h4] at hz
        cases hz
        have:=ht.2
        omega
      · rw [e3 z hzn] at hz
        exact h.sh z ws hz
    · intro i hi9
      rw [hset] at hi9
      rcases List.mem_append.1 hi9 with h5|h5
      · have:i∈its:=by rw [huv];simp [h5]
        exact hnn i (h.ow.at' i this) (hio i this)
      · rcases List.mem_cons.1 h5 with h6|h6
        · rw [h6];exact hnn it hi hit
        · have:i∈its:=by rw [huv];simp [h6]
          exact hnn i (h.ow.at' i this) (hio i this)
    · rw [Bt.setI_prs h.ow.rise hold]
      exact putL_rising h.ow.rise _
    · rw [List.nodup_iff_count]
      intro z
      have h7:=hcnt z
      rw [hset]
      rw [huv] at h7
      simp only [List.count_append,List.flatMap_append,List.flatMap_cons] at h7 ⊢
      omega
    · rw [Bt.setI_len];exact h.len
    · rw [List.nodup_iff_count]
      intro z
      have h7:=hcnt z
      rw [hset]
      rw [huv] at h7
      simp only [List.count_append,List.flatMap_append,List.flatMap_cons] at h7 ⊢
      omega
 |full h0 h1 hf her hs hT=>
  rw [hk] at hf hs her
  rw [hd] at hf
  have hno:Bt.findI its it.k=none:=by
   cases hfi:Bt.findI its it.k with
   |none=>rfl
   |some old=>rw [hfi] at hf;simp at hf
  have hn:=h.tr.need ht h.z h.ow hb it.k
  have h2:=hmul (bneed R t it.k root)
  refine .full (n:=bneed R t it.k root) hno hn ?_ ⟨hs.more (by omega) (Nat.le_refl _),h.z,h.sh,h.tr,h.ow,h.len,h.rt⟩ hi hT
  rcases her with ⟨h3,h4⟩|h3
  · exact .inl ⟨h3,by omega⟩
  · exact .inr h3
 | @put _ st R1 F' h0 h1 hf hl hfr h64 hs hT hn=>
   rw [hk] at hf hl hs hn ⊢
   rw [hd] at hf
   have hno:Bt.findI its it.k=none:=by
    cases hfi:Bt.findI its it.k with
    |none=>rfl
    |some old=>rw [hfi] at hf;simp at hf
   have hneed:=h.tr.need ht h.z h.ow hb it.k
   have hfr' :Bt.Fresh R R1 t st.reverse:=⟨fun x hx=>hfr.new x (List.mem_reverse.1 hx),List.nodup_iff_count.2 (fun z=>by rw [List.count_reverse];exact List.nodup_iff_count.1 hfr.nodup z),fun z hz=>hfr.old z fun h=>hz (List.mem_reverse.2 h)⟩
   obtain⟨R',now,ns',hg',e1,e2,e3,e4⟩:=Bt.top_right ht it h.tr h.z h.ow hno hb hfr' (by rw [List.length_reverse];exact hl)
   rw [e1] at hs hn ⊢
   dsimp only at hs hn ⊢
   have hcst: ∀z,List.count z st.reverse=List.count z st:=fun z=>List.count_reverse
   have hsn: ∀z∈st,R z=none:=fun z hz=>(hfr.new z hz).1
   have hne:=h.ne
   have hkn:R it.kh≠none:=by rw [hi.kt];simp
   have hvn:R it.vh≠none:=by rw [hi.vt];simp
   have hitn: ∀z∈it.hs,R z≠none:=fun z hz=>by
    simp only [It.hs,List.mem_cons,List.not_mem_nil,or_false] at hz
    rcases hz with rfl|rfl<;>assumption
   have hst1: ∀z,List.count z st≤1:=List.nodup_iff_count.1 hfr.nodup
   have hstz: ∀z,0<List.count z st→List.count z (ns++its.flatMap It.hs)=0∧List.count z it.hs=0:=fun z hz=>by
    have h7:=hsn z (List.count_pos_iff.1 hz)
    exact⟨List.count_eq_zero.2 fun h8=>hne z h8 h7,List.count_eq_zero.2 fun h8=>hitn z h8 h7⟩
   have hcpy: ∀i:It,i.At R→(∀z∈i.hs,z∉ns)→i.At R' :=fun i h1 h2=>h1.congr fun z hz=>by
    refine e4 z (h2 z hz) fun h3=> ?_
    have h7:=hsn z (List.mem_reverse.1 h3)
    simp only [It.hs,List.mem_cons,List.not_mem_nil,or_false] at hz
    rcases hz with rfl|rfl
    · rw [h1.kt] at h7;cases h7
    · rw [h1.vt] at h7;cases h7
   have hit: ∀z∈it.hs,z∉ns:=fun z hz hn=>by
    have h7:=hcnt z
    have h8:=List.count_pos_iff.2 hz
    have h9:=List.count_pos_iff.2 hn
    simp only [List.count_append] at h7
    omega
   have hio: ∀i∈its,∀z∈i.hs,z∉ns:=fun i hi z hz hn=>by
    have h7:=hcnt z
    have h8:=List.count_pos_iff.2 (List.mem_flatMap.2 ⟨i,hi,hz⟩)
    have h9:=List.count_pos_iff.2 hn
    simp only [List.count_append] at h7
    omega
   have hlen' :ns'.length=ns.length+st.length:=by
    have hp:ns'.Perm (ns++st):=List.perm_iff_count.2 fun z=>by rw [e3 z,List.count_append,hcst]
    rw [hp.length_eq,List.length_append]
   have hmem: ∀z,z∈ns' ↔z∈ns∨z∈st:=fun z=>by
    rw [←List.count_pos_iff,←List.count_pos_iff,←List.count_pos_iff,e3 z,hcst]
    omega
   have h00:(0:Nat)∉ns:=fun h8=>h.ne 0 (List.mem_append.2 (.inl h8)) h.z
   have h01:(0:Nat)∉st.reverse:=fun h8=>(hfr'.new 0 h8).2.1 rfl
   have hrec: ∀z∈ns',∃ws,R' z=some ws∧ws.length=6*t:=fun z hz=>by
    rcases e2 with ⟨_,_,h8,_⟩|⟨a,_,h8⟩
    · rw [h8] at hz;simp at hz
    · exact h8.ns_rec z hz
   have hput:Bt.putI its it=its.take (rankL (Bt.prs its) it.k)++it::its.drop (rankL (Bt.prs its) it.k):=rfl
   have hmm:st.length*pgsN (6*t+2)≤st.length*2:=hmul _
   rw [←hl] at hs hneed
   refine .put (n:=st.length) hno hlen' hneed ⟨hs.more (by omega) (Nat.le_refl _), ?_, ?_,e2,⟨?_, ?_, ?_⟩, ?_,hn⟩ hT
   · rw [e4 0 h00 h01];exact h.z
   · intro z ws hz
     by_cases hzn:z∈ns'
     · obtain⟨ws',h4,h5⟩:=hrec z hzn
       rw [h4] at hz
       cases hz
       have:=ht.2
       omega
     · rw [e4 z (fun h8=>hzn ((hmem z).2 (.inl h8))) (fun h8=>hzn ((hmem z).2 (.inr (List.mem_reverse.1 h8))))] at hz
       exact h.sh z ws hz
   · intro i hi9
     rw [hput] at hi9
     rcases List.mem_append.1 hi9 with h5|h5
     · have:=List.mem_of_mem_take h5
       exact hcpy i (h.ow.at' i this) (hio i this)
     · rcases List.mem_cons.1 h5 with h6|h6
       · rw [h6];exact hcpy it hi hit
       · have:=List.mem_of_mem_drop h6
         exact hcpy i (h.ow.at' i this) (hio i this)
   · rw [Bt.putI_prs h.ow.rise hno]
     exact putL_rising h.ow.rise _
   · rw [List.nodup_iff_count]
     intro z
     have h7:=hcnt z
     have h8:=hst1 z
     have h9:=hstz z
     have h10:List.count z (its.flatMap It.hs)=List.count z ((its.take (rankL (Bt.prs its) it.k)).flatMap It.hs)+List.count z ((its.drop (rankL (Bt.prs its) it.k)).flatMap It.hs):=by
      conv=>lhs;rw [←List.take_append_drop (rankL (Bt.prs its) it.k) its]
      rw [List.flatMap_append,List.count_append]
     rw [hput]
     simp only [List.count_append,List.flatMap_append,List.flatMap_cons] at h7 h9 ⊢
     rw [e3 z,hcst]
     by_cases hz:0<List.count z st
     · obtain⟨h11,h12⟩:=h9 hz
       omega
     · omega
   · rw [List.length_append,List.length_reverse,Bt.putI_len,hlen',h.len]
     omega
end
theorem updR_back{R:Nat→Option (List Nat)}{x:Nat}{o:Option (List Nat)}(h:R x=none):updR (updR R x o) x none=R:=by
 funext y
 by_cases hy:y=x
 · subst hy;rw [updR_same,h]
 · rw [updR_other hy,updR_other hy]
section
variable {w w' :World} {s:Nat} {F F' :Nat→Prop} {R R' :Nat→Option (List Nat)} {H H' :List Nat} {P q most last G t root:Nat} {its:List It} {ns:List Nat} {hg m:Nat}
inductive ItemIn(w:World)(s:Nat)(F:Nat→Prop)(R:Nat→Option (List Nat))(H:List Nat)(P q most last G t root:Nat)(its:List It)(ns:List Nat)(hg m:Nat)(p:Pr):Ending→World→Prop
 |ok {w' :World} {it:It} {R' :Nat→Option (List Nat)} {F' :Nat→Prop} {H' :List Nat} (hk:it.k=p.1) (hv:it.v=p.2) (hb:BtIn w' s F' R' H' (P+6) q most last (G+2) t root its ns hg (m+2)) (hi:it.At R')
  (hnd:((ns++its.flatMap It.hs)++it.hs).Nodup) (hT:Turn w F w' F') (h64:it.kh<18446744073709551616∧it.vh<18446744073709551616) (hl:H'.length=H.length+2) (hold: ∀z,R z≠none→R' z=R z):
  ItemIn w s F R H P q most last G t root its ns hg m p (.returned (.tuple #[.agg #[.int .u64 (it.kh:Nat), .int .u64 (it.vh:Nat)], .bool true])) w'
 |no {w' :World} {a b:Nat} {F' :Nat→Prop} {H' :List Nat} (hb:BtIn w' s F' R H' (P+6) q most last (G+2) t root its ns hg m) (hT:Turn w F w' F') (hl:H'.length=H.length)
  (hbad:q<(P+6)*64∨most<H.length+2∨last<G+2):
  ItemIn w s F R H P q most last G t root its ns hg m p (.returned (.tuple #[.agg #[.int .u64 (a:Nat), .int .u64 (b:Nat)], .bool false])) w'
inductive ItemG(w:World)(s:Nat)(F:Nat→Prop)(R:Nat→Option (List Nat))(H:List Nat)(P q most last G:Nat)(p:Pr):Ending→World→Prop
 |ok {w' :World} {it:It} {R' :Nat→Option (List Nat)} {F' :Nat→Prop} {H' :List Nat} (hk:it.k=p.1) (hv:it.v=p.2) (hs:StoreIs w' s F' R' H' (P+6) q most last (G+2)) (hz:R' 0=none) (hsh:Short R') (hi:it.At R')
  (hn:R it.kh=none∧R it.vh=none∧it.kh≠it.vh) (hT:Turn w F w' F') (h64:it.kh<18446744073709551616∧it.vh<18446744073709551616) (hl:H'.length=H.length+2) (hold: ∀z,R z≠none→R' z=R z):
  ItemG w s F R H P q most last G p (.returned (.tuple #[.agg #[.int .u64 (it.kh:Nat), .int .u64 (it.vh:Nat)], .bool true])) w'
 |no {w' :World} {a b:Nat} {F' :Nat→Prop} {H' :List Nat} (hs:StoreIs w' s F' R H' (P+6) q most last (G+2)) (hT:Turn w F w' F') (hl:H'.length=H.length)
  (hbad:q<(P+6)*64∨most<H.length+2∨last<G+2):
  ItemG w s F R H P q most last G p (.returned (.tuple #[.agg #[.int .u64 (a:Nat), .int .u64 (b:Nat)], .bool false])) w'
set_option maxRecDepth 100000 in
theorem item16g_at(h:StoreIs w s F R H P q most last G)(hz0:R 0=none)(hsh0:Short R)(p:Pr)(h1:p.1.size≤1000)(h2:p.2.size≤1000):
 Calls Tryz.prog 17 #[.pointer (some ⟨s,0,none⟩), .agg #[.string p.1, .string p.2]] w (ItemG w s F R H P q most last G p):=by
 have hsN:=h.s_lt
 have htN:1<w.heap.size:=by
  obtain⟨N0,hrd,-⟩:=h.rd
  obtain⟨_,_,_,_,_,_,_,_,_,_,_,_,_,_,_,_,_,_,_,h4⟩:=hrd
  exact h4.2
 obtain⟨W0,hW0⟩: ∃W,W=(w.alloc (Obj.cells #[Value.string p.1,Value.string p.2] 52)).alloc (Obj.cells #[.int .u64 0, .int .u64 0] 31):=⟨_,rfl⟩
 obtain⟨b3,hb3⟩: ∃b,b=w.heap.size:=⟨_,rfl⟩
 obtain⟨b4,hb4⟩: ∃b,b=w.heap.size+1:=⟨_,rfl⟩
 have hb0:Below w.heap.size w W0:=by rw [hW0];exact((Below.refl _ w).alloc (Nat.le_refl _) _).alloc (by simp) _
 have x3:Box W0 b3 52 [Value.string p.1,Value.string p.2]:=by rw [hW0,hb3];exact(Box.new w 52 [Value.string p.1,Value.string p.2]).alloc _
 have x4:Box W0 b4 31 [.int .u64 0, .int .u64 0]:=by
  rw [hW0,hb4]
  have:=Box.new (w.alloc (Obj.cells #[Value.string p.1,Value.string p.2] 52)) 31 [.int .u64 0, .int .u64 0]
  rwa [show(w.alloc (Obj.cells #[Value.string p.1,Value.string p.2] 52)).heap.size=w.heap.size+1 by simp] at this
 have hF: ∀z,w.heap.size≤z→ ¬F z:=fun z h3 hf=>by have:=h.lt hf;omega
 have hw1:=words_le h1
 have hw2:=words_le h2
 have hg1:=pgsN_le (n:=(Tx.wordsL p.1.data.toList).length+2) (by omega)
 have hg2:=pgsN_le (n:=(Tx.wordsL p.2.data.toList).length+2) (by omega)
 have hPut1:=Lib.hid (bput_at (h.below hb0) p.1 h1)
 have hH:=Lib.hid (And.intro h (And.intro hz0 hsh0))
 have hsz:=Lib.hid (And.intro h1 h2)
 have hpg:=Lib.hid (And.intro hg1 (And.intro hg2 (And.intro hw1 hw2)))
 have hlow:=Lib.hid (show w.heap.size≤b3∧w.heap.size≤b4∧s<b4∧1<b4 from⟨by omega,by omega,by omega,by omega⟩)
 have x3H:=Lib.hid x3
 have x4H:=Lib.hid x4
 have hb0H:=Lib.hid hb0
 have hFH:=Lib.hid hF
 have hWH:=Lib.hid (And.intro hW0 (And.intro hb3 hb4))
 have c3:W0.cell? ⟨b3,0,none⟩=some (.string p.1):=x3.at' (i:=0) rfl
 rw [hW0,hb3] at c3
 clear h hz0 hsh0 h1 h2 hg1 hg2 hw1 hw2 hW0 hb3 hb4 hb0 x3 x4 hF hsN htN
 go_enter Tryz.func17,Tryz.ntmps17
 go_wp2_with fail
 rw [←hWH.out.1,←hWH.out.2.2,←hWH.out.2.1]
 refine hPut1.out.mono ?_
 clear c3
 rintro e w1 (⟨x1,F1,n1,x10,x164,rfl,hS1,hT1⟩|⟨er,F1,rfl,her,hS1,hT1⟩)
 · have hPut2:=Lib.hid (bput_at hS1 p.2 hsz.out.2)
   have y3:=Lib.hid (x3H.out.turn hT1 (hFH.out _ hlow.out.1))
   have y4:=Lib.hid (x4H.out.turn hT1 (hFH.out _ hlow.out.2.1))
   have hF4:=Lib.hid (hT1.not x4H.out.lt (hFH.out _ hlow.out.2.1))
   have c1:=y3.out.at' (i:=1) rfl
   have n1H:=Lib.hid (And.intro n1 x10)
   have hT1H:=Lib.hid ((Turn.below (F:=F) hb0H.out).trans hT1)
   have hS1H:=Lib.hid hS1
   have hx1:=Lib.hid x164
   clear hS1 hT1 n1 hPut1 x10 x164
   go_wp2_with fail
   refine hPut2.out.mono ?_
   rintro e w2 (⟨x2,F2,n2,x20,x264,rfl,hS2,hT2⟩|⟨er,F2,rfl,her,hS2,hT2⟩)
   · have hF5:=hT2.not y4.out.lt hF4.out
     have z4:=y4.out.turn hT2 hF4.out
     have hend:=Lib.hid (ins_end hS2 (hT1H.out.trans hT2) hlow.out.2.1 z4 ⟨_,rfl,fun p h9=>by cases h9⟩ hF5 hlow.out.2.2 (.int .u64 (x1:Nat)) (.int .u64 (x2:Nat)))
     have d0:=z4.at' (i:=0) rfl
     have d1:=z4.at' (i:=1) rfl
     have f0:=z4.free 0
     have f1:=z4.free 1
     have hq:=Lib.hid ((z4.set 0 (.int .u64 (x1:Nat))).set 1 (.int .u64 (x2:Nat)))
     have n2H:=Lib.hid (And.intro n2 (And.intro x20 x264))
     clear hS2 hT2 hPut2 c1 hF5 z4 n2 x20 x264
     go_wp2
     have r0:=hq.out.at' (i:=0) rfl
     have r1:=hq.out.at' (i:=1) rfl
     refine bodyPost_ret (v:= .tuple #[.agg #[.int .u64 (x1:Nat), .int .u64 (x2:Nat)], .bool true]) (by simp [results,Tryz.f17,go_sem,r0,r1]) rfl ?_
     obtain⟨n1,x10⟩:=n1H.out
     obtain⟨n2,x20,x264⟩:=n2H.out
     have hne:x1≠x2:=fun e=>by rw [←e,updR_same] at n2;cases n2
     have n2' :R x2=none:=by rwa [updR_other (Ne.symm hne)] at n2
     have hold: ∀z,R z≠none→updR (updR R x1 (some (Tx.wordsL p.1.data.toList))) x2 (some (Tx.wordsL p.2.data.toList)) z=R z:=fun z hz=>by
      rw [updR_other (fun e=>hz (by rw [e];exact n2')),updR_other (fun e=>hz (by rw [e];exact n1))]
     have hs:=hend.out.1.more (show P+pgsN ((Tx.wordsL p.1.data.toList).length+2)+pgsN ((Tx.wordsL p.2.data.toList).length+2)≤P+6 by have:=hpg.out;omega) (show G+1+1≤G+2 by omega)
     have hsh:Short (updR (updR R x1 (some (Tx.wordsL p.1.data.toList))) x2 (some (Tx.wordsL p.2.data.toList))):=fun z ws hz=>by
      by_cases hz2:z=x2
      · subst hz2;rw [updR_same] at hz;cases hz;have:=hpg.out.2.2.2;omega
      · rw [updR_other hz2] at hz
        by_cases hz1:z=x1
        · subst hz1;rw [updR_same] at hz;cases hz;have:=hpg.out.2.2.1;omega
        · rw [updR_other hz1] at hz;exact hH.out.2.2 z ws hz
     refine .ok (it:=⟨x1,x2,p.1,p.2⟩) rfl rfl hs (by rw [updR_other (Ne.symm x20),updR_other (Ne.symm x10)];exact hH.out.2.1) hsh ⟨?_,updR_same _ _ _,hsz.out.1,hsz.out.2⟩ ⟨n1,n2',hne⟩ hend.out.2 ⟨hx1.out,x264⟩ (by simp) hold
     show updR (updR R x1 _) x2 _ x1=_
     rw [updR_other hne,updR_same]
   ·
    as_aux_lemma=>
    have her0:er≠0:=by rcases her with h9|h9<;>omega
    have herH:=Lib.hid her
    have hee:((er:Int)==0)=false:=by simp;omega
    have hee2:((er:Int) !=0)=true:=by simp;omega
    have hsh1:Short (updR R x1 (some (Tx.wordsL p.1.data.toList))):=fun z ws hz=>by
     by_cases hz1:z=x1
     · subst hz1;rw [updR_same] at hz;cases hz;have:=hpg.out.2.2.1;omega
     · rw [updR_other hz1] at hz;exact hH.out.2.2 z ws hz
    have hDr:=Lib.hid (bdrop_at hS2 hsh1 (updR_same _ _ _) (Tx.text_words p.1 hsz.out.1).1)
    have hF5:=Lib.hid (hT2.not y4.out.lt hF4.out)
    have z4:=Lib.hid (y4.out.turn hT2 hF4.out)
    have hT2H:=Lib.hid (hT1H.out.trans hT2)
    clear hS2 hT2 hPut2 c1 her her0 hsh1
    go_wp2_with fail
    refine hDr.out.mono ?_
    rintro e w3 ⟨F3,rfl,hS3,hT3⟩
    have hF6:=hT3.not z4.out.lt hF5.out
    have u4:=z4.out.turn hT3 hF5.out
    rw [updR_back n1H.out.1,List.erase_cons_head] at hS3
    have hend:=Lib.hid (ins_end hS3 (hT2H.out.trans hT3) hlow.out.2.1 u4 ⟨_,rfl,fun p h9=>by cases h9⟩ hF6 hlow.out.2.2 (.int .u64 (x1:Nat)) (.int .u64 0))
    have d0:=u4.at' (i:=0) rfl
    have d1:=u4.at' (i:=1) rfl
    have f0:=u4.free 0
    have f1:=u4.free 1
    have hq:=Lib.hid ((u4.set 0 (.int .u64 (x1:Nat))).set 1 (.int .u64 0))
    clear hS3 hT3 hF6 u4 hDr
    go_wp2
    have r0:=hq.out.at' (i:=0) rfl
    have r1:=hq.out.at' (i:=1) rfl
    refine bodyPost_ret (v:= .tuple #[.agg #[.int .u64 (x1:Nat), .int .u64 0], .bool false]) (by simp [results,Tryz.f17,go_sem,r0,r1]) rfl ?_
    have hpp:=hpg.out
    have hb:=hend.out.1.more (show P+pgsN ((Tx.wordsL p.1.data.toList).length+2)+pgsN ((Tx.wordsL p.2.data.toList).length+2)≤P+6 by omega) (show G+1≤G+2 by omega)
    refine .no (b:=0) hb hend.out.2 rfl ?_
    rcases herH.out with ⟨_,h9⟩|⟨_,h9|h9⟩
    · exact .inl (by omega)
    · exact .inr (.inl (by simp at h9;omega))
    · exact .inr (.inr (by omega))
 ·
  as_aux_lemma=>
  have her0:er≠0:=by rcases her with h9|h9<;>omega
  have hPut2:=Lib.hid (bput_at hS1 p.2 hsz.out.2)
  have y3:=Lib.hid (x3H.out.turn hT1 (hFH.out _ hlow.out.1))
  have y4:=Lib.hid (x4H.out.turn hT1 (hFH.out _ hlow.out.2.1))
  have hF4:=Lib.hid (hT1.not x4H.out.lt (hFH.out _ hlow.out.2.1))
  have c1:=y3.out.at' (i:=1) rfl
  have hT1H:=Lib.hid ((Turn.below (F:=F) hb0H.out).trans hT1)
  have herH:=Lib.hid her
  have hee:((er:Int)==0)=false:=by simp;omega
  have hee2:((er:Int) !=0)=true:=by simp;omega
  have hbadH:Hid (q<(P+6)*64∨most<H.length+2∨last<G+2):=Lib.hid (by
   have hpp:=hpg.out
   rcases herH.out with ⟨_,h9⟩|⟨_,h9|h9⟩
   · exact .inl (by omega)
   · exact .inr (.inl (by omega))
   · exact .inr (.inr (by omega)))
  clear hS1 hT1 hPut1 her her0
  go_wp2_with fail
  refine hPut2.out.mono ?_
  rintro e w2 (⟨x2,F2,n2,x20,x264,rfl,hS2,hT2⟩|⟨er2,F2,rfl,her2,hS2,hT2⟩)
  · have hsh1:Short (updR R x2 (some (Tx.wordsL p.2.data.toList))):=fun z ws hz=>by
     by_cases hz1:z=x2
     · subst hz1;rw [updR_same] at hz;cases hz;have:=hpg.out.2.2.2;omega
     · rw [updR_other hz1] at hz;exact hH.out.2.2 z ws hz
    have hDr:=Lib.hid (bdrop_at hS2 hsh1 (updR_same _ _ _) (Tx.text_words p.2 hsz.out.2).1)
    have hF5:=Lib.hid (hT2.not y4.out.lt hF4.out)
    have z4:=Lib.hid (y4.out.turn hT2 hF4.out)
    have hT2H:=Lib.hid (hT1H.out.trans hT2)
    have n2H:=Lib.hid n2
    clear hS2 hT2 hPut2 c1 hsh1 n2 x20 x264
    go_wp2_with fail
    refine hDr.out.mono ?_
    rintro e w3 ⟨F3,rfl,hS3,hT3⟩
    have hF6:=hT3.not z4.out.lt hF5.out
    have u4:=z4.out.turn hT3 hF5.out
    rw [updR_back n2H.out,List.erase_cons_head] at hS3
    have hend:=Lib.hid (ins_end hS3 (hT2H.out.trans hT3) hlow.out.2.1 u4 ⟨_,rfl,fun p h9=>by cases h9⟩ hF6 hlow.out.2.2 (.int .u64 0) (.int .u64 (x2:Nat)))
    have d0:=u4.at' (i:=0) rfl
    have d1:=u4.at' (i:=1) rfl
    have f0:=u4.free 0
    have f1:=u4.free 1
    have hq:=Lib.hid ((u4.set 0 (.int .u64 0)).set 1 (.int .u64 (x2:Nat)))
    clear hS3 hT3 hF6 u4 hDr
    go_wp2
    have r0:=hq.out.at' (i:=0) rfl
    have r1:=hq.out.at' (i:=1) rfl
    refine bodyPost_ret (v:= .tuple #[.agg #[.int .u64 0, .int .u64 (x2:Nat)], .bool false]) (by simp [results,Tryz.f17,go_sem,r0,r1]) rfl ?_
    have hpp:=hpg.out
    have hb:=hend.out.1.more (show P+pgsN ((Tx.wordsL p.1.data.toList).length+2)+pgsN ((Tx.wordsL p.2.data.toList).length+2)≤P+6 by omega) (show G+1≤G+2 by omega)
    exact .no (a:=0) hb hend.out.2 rfl hbadH.out
  · have her3:er2≠0:=by rcases her2 with h9|h9<;>omega
    have hee3:((er2:Int)==0)=false:=by simp;omega
    have hee4:((er2:Int) !=0)=true:=by simp;omega
    have hF5:=hT2.not y4.out.lt hF4.out
    have z4:=y4.out.turn hT2 hF4.out
    have hend:=Lib.hid (ins_end hS2 (hT1H.out.trans hT2) hlow.out.2.1 z4 ⟨_,rfl,fun p h9=>by cases h9⟩ hF5 hlow.out.2.2 (.int .u64 0) (.int .u64 0))
    have d0:=z4.at' (i:=0) rfl
    have d1:=z4.at' (i:=1) rfl
    have f0:=z4.free 0
    have f1:=z4.free 1
    have hq:=Lib.hid ((z4.set 0 (.int .u64 0)).set 1 (.int .u64 0))
    clear hS2 hT2 hPut2 c1 hF5 z4 her2 her3
    go_wp2
    have r0:=hq.out.at' (i:=0) rfl
    have r1:=hq.out.at' (i:=1) rfl
    refine bodyPost_ret (v:= .tuple #[.agg #[.int .u64 0, .int .u64 0], .bool false]) (by simp [results,Tryz.f17,go_sem,r0,r1]) rfl ?_
    have hpp:=hpg.out
    have hb:=hend.out.1.more (show P+pgsN ((Tx.wordsL p.1.data.toList).length+2)+pgsN ((Tx.wordsL p.2.data.toList).length+2)≤P+6 by omega) (show G≤G+2 by omega)
    exact .no (a:=0) (b:=0) hb hend.out.2 rfl hbadH.out
theorem item16_at(h:BtIn w s F R H P q most last G t root its ns hg m)(p:Pr)(h1:p.1.size≤1000)(h2:p.2.size≤1000):
 Calls Tryz.prog 17 #[.pointer (some ⟨s,0,none⟩), .agg #[.string p.1, .string p.2]] w (ItemIn w s F R H P q most last G t root its ns hg m p):=
 (item16g_at h.st h.z h.sh p h1 h2).mono fun e w' hI=>by
  cases hI with
  | @ok _ it R' F' H' hk hv hs hz hsh hi hn hT h64 hl hold=>
    refine .ok hk hv (h.grow hs hold hz hsh hl) hi ?_ hT h64 hl hold
    have hne2:=h.ne
    rw [List.nodup_append]
    refine⟨h.ow.nodup,by simp [It.hs,hn.2.2],fun a ha b hb e=> ?_⟩
    simp only [It.hs,List.mem_cons,List.not_mem_nil,or_false] at hb
    rcases hb with rfl|rfl
    · exact hne2 a ha (by rw [e];exact hn.1)
    · exact hne2 a ha (by rw [e];exact hn.2.1)
  |no hs hT hl hbad=>exact .no (h.grow (k:=0) hs (fun _ _=>rfl) h.z h.sh hl) hT hl hbad
set_option maxRecDepth 100000 in
theorem pair16g_at{N n:Nat}(h:Rd N w s R n)(hsh:Short R)(ikh ivh:Nat)(u1:ikh<18446744073709551616)(u2:ivh<18446744073709551616)(e2:blobE R ikh=0)(e4:blobE R ivh=0):
 Calls Tryz.prog 21 #[.pointer (some ⟨s,0,none⟩), .agg #[.int .u64 (ikh:Nat), .int .u64 (ivh:Nat)]] w fun e w' =>e= .returned (.tuple #[.agg #[.string (keyB R ikh), .string (keyB R ivh)], .bool true])∧Below w.heap.size w w' :=by
 obtain⟨W0,hW0⟩: ∃W,W=(w.alloc (Obj.cells #[.int .u64 (ikh:Nat), .int .u64 (ivh:Nat)] 31)).alloc (Obj.cells #[Value.string ⟨#[]⟩,Value.string ⟨#[]⟩] 52):=⟨_,rfl⟩
 obtain⟨b3,hb3⟩: ∃b,b=w.heap.size:=⟨_,rfl⟩
 obtain⟨b4,hb4⟩: ∃b,b=w.heap.size+1:=⟨_,rfl⟩
 have hb0:Below w.heap.size w W0:=by rw [hW0];exact((Below.refl _ w).alloc (Nat.le_refl _) _).alloc (by simp) _
 have x3:Box W0 b3 31 [.int .u64 (ikh:Nat), .int .u64 (ivh:Nat)]:=by rw [hW0,hb3];exact(Box.new w 31 [.int .u64 (ikh:Nat), .int .u64 (ivh:Nat)]).alloc _
 have x4:Box W0 b4 52 [Value.string ⟨#[]⟩,Value.string ⟨#[]⟩]:=by
  rw [hW0,hb4]
  have:=Box.new (w.alloc (Obj.cells #[.int .u64 (ikh:Nat), .int .u64 (ivh:Nat)] 31)) 52 [Value.string ⟨#[]⟩,Value.string ⟨#[]⟩]
  rwa [show(w.alloc (Obj.cells #[.int .u64 (ikh:Nat), .int .u64 (ivh:Nat)] 31)).heap.size=w.heap.size+1 by simp] at this
 have hG1:=bget_at (h.below hb0) hsh ikh u1
 have hG2:=Lib.hid fun W (hb:Below w.heap.size w W)=>bget_at (h.below hb) hsh ivh u2
 have v1:blobV R ikh= .tuple #[.string (keyB R ikh), .int .i64 0]:=by unfold blobV;rw [e2];rfl
 have v2:blobV R ivh= .tuple #[.string (keyB R ivh), .int .i64 0]:=by unfold blobV;rw [e4];rfl
 rw [v1] at hG1
 rw [v2] at hG2
 obtain⟨k,hk⟩: ∃z,z=(keyB R ikh):=⟨_,rfl⟩
 obtain⟨v,hv⟩: ∃z,z=(keyB R ivh):=⟨_,rfl⟩
 rw [←hk] at hG1 ⊢
 rw [←hv] at hG2 ⊢
 obtain⟨kh,hkh⟩: ∃z,z=ikh:=⟨_,rfl⟩
 obtain⟨vh,hvh⟩: ∃z,z=ivh:=⟨_,rfl⟩
 rw [←hkh] at hG1
 rw [←hvh] at hG2
 rw [←hkh,←hvh] at x3 hW0
 rw [←hkh,←hvh]
 have hG1H:=Lib.hid hG1
 have x3H:=Lib.hid x3
 have x4H:=Lib.hid x4
 have hb0H:=Lib.hid hb0
 have hlow:w.heap.size≤b4:=by omega
 have hWH:=Lib.hid (And.intro hW0 (And.intro hb3 hb4))
 have c3:W0.cell? ⟨b3,0,none⟩=some (.int .u64 (kh:Nat)):=x3.at' (i:=0) rfl
 rw [hW0,hb3] at c3
 clear h hG1 e2 e4 v1 v2 hkh hvh hk hv x3 x4 hb0 hW0 hb3 hb4
 go_enter Tryz.func21,Tryz.ntmps21
 go_wp2_with fail
 rw [←hWH.out.1,←hWH.out.2.2,←hWH.out.2.1]
 refine hG1H.out.mono ?_
 clear c3
 rintro e w1 ⟨rfl,hb1⟩
 have y3:=Lib.hid (x3H.out.below hb1)
 have y4:=Lib.hid (x4H.out.below hb1)
 have hbw1:=Lib.hid (hb0H.out.trans (hb1.mono hb0H.out.size))
 have c1:=y3.out.at' (i:=1) rfl
 clear hb1 hG1H
 go_wp2_with fail
 refine(hG2.out _ hbw1.out).mono ?_
 rintro e w2 ⟨rfl,hb2⟩
 have z4:=y4.out.below hb2
 have hbw2:=hbw1.out.trans (hb2.mono hbw1.out.size)
 have d0:=z4.at' (i:=0) rfl
 have d1:=z4.at' (i:=1) rfl
 have f0:=z4.free 0
 have f1:=z4.free 1
 have hq:=Lib.hid ((z4.set 0 (.string k)).set 1 (.string v))
 have hend:=Lib.hid ((hbw2.setCell (p:=⟨b4,0,none⟩) hlow (.string k)).setCell (p:=⟨b4,1,none⟩) hlow (.string v))
 clear hb2 z4 hbw2 c1
 go_wp2
 have r0:=hq.out.at' (i:=0) rfl
 have r1:=hq.out.at' (i:=1) rfl
 refine bodyPost_ret (v:= .tuple #[.agg #[.string k, .string v], .bool true]) (by simp [results,Tryz.f21,go_sem,r0,r1]) rfl ⟨rfl,hend.out⟩
end
section
variable {w w' :World} {s:Nat} {F F' :Nat→Prop} {R R' :Nat→Option (List Nat)} {H H' :List Nat} {P q most last G t root:Nat} {its:List It} {ns:List Nat} {hg m:Nat}
theorem BtIn.insert_at(ht:BN.Deg t)(h:BtIn w s F R H P q most last G t root its ns hg m)(it:It)(hi:it.At R)(hm:2≤m)(hnd:((ns++its.flatMap It.hs)++it.hs).Nodup)(hb:its.length<549755813888)(h64:it.kh<18446744073709551616∧it.vh<18446744073709551616):
 Calls Tryz.prog 9 #[.pointer (some ⟨s,0,none⟩), .int .i64 (t:Nat), .int .u64 (root:Nat), .agg #[.int .u64 (it.kh:Nat), .int .u64 (it.vh:Nat)]] w (InsIn w s F H P q most last G t root its ns hg m it):=
 (btInsert_at h.st h.sh ht root h.rt it.kh it.vh h64.1 h64.2).mono fun _ _ hI=>h.insert ht it hi hm hnd hb hI
theorem BtIn.rank_at(ht:BN.Deg t)(h:BtIn w s F R H P q most last G t root its ns hg m)(hb:its.length<549755813888)(key:ByteArray):
 Calls Tryz.prog 12 #[.pointer (some ⟨s,0,none⟩), .int .i64 (t:Nat), .int .u64 (root:Nat), .string key] w fun e w' =>e= .returned (.int .i64 (rankL (Bt.prs its) key:Nat))∧Below w.heap.size w w' :=by
 obtain⟨N,hr,-⟩:=h.st.rd
 have:=btRank_at hr h.sh ht root h.rt key
 rw [h.tr.down ht h.z h.ow hb key] at this
 exact this
theorem Bt.Tree.size(ht:BN.Deg t)(h:Bt.Tree R t root its ns hg)(hz:R 0=none)(hb:its.length<549755813888):bszR R t root=(its.length:Nat):=by
 have hs:(bnG R t root).size=its.length:=by
  rcases h with ⟨rfl,rfl,_,_⟩|⟨a,_,h⟩
  · unfold bnG;rw [hz];rfl
  · exact h.sizeOf ht
 unfold bszR
 rw [hs]
 exact IntWalk.wrap64_in _ (by omega)
theorem BtIn.size_at(ht:BN.Deg t)(h:BtIn w s F R H P q most last G t root its ns hg m)(hb:its.length<549755813888):
 Calls Tryz.prog 11 #[.pointer (some ⟨s,0,none⟩), .int .i64 (t:Nat), .int .u64 (root:Nat)] w fun e w' =>e= .returned (.int .i64 (its.length:Nat))∧Below w.heap.size w w' :=by
 obtain⟨N,hr,-⟩:=h.st.rd
 have:=btSz_at hr t ht root h.rt
 rw [h.tr.size ht h.z hb] at this
 exact this
theorem Bt.Tree.height(ht:BN.Deg t)(h:Bt.Tree R t root its ns hg)(hz:R 0=none)(hb:its.length<549755813888):bheight R t 40 root=hg:=by
 rcases h with ⟨rfl,_,_,rfl⟩|⟨a,rfl,h⟩
 · unfold bheight
   rw [if_pos (by unfold bnE;rw [hz];simp)]
 · exact Bt.height_right ht a 1 40 ⟨root,its,ns⟩ h (h.high ht hb)
theorem BtIn.height_at(ht:BN.Deg t)(h:BtIn w s F R H P q most last G t root its ns hg m)(hb:its.length<549755813888):
 Calls Tryz.prog 13 #[.pointer (some ⟨s,0,none⟩), .int .i64 (t:Nat), .int .u64 (root:Nat)] w fun e w' =>e= .returned (.int .i64 (hg:Nat))∧Below w.heap.size w w' :=by
 obtain⟨N,hr,-⟩:=h.st.rd
 have:=btHeight_at hr t ht root h.rt
 rw [h.tr.height ht h.z hb] at this
 exact this
theorem Bt.Tree.recs(h:Bt.Tree R t root its ns hg): ∀x∈ns,∃ws,R x=some ws∧ws.length=6*t:=fun x hx=>by
 rcases h with ⟨_,_,h2,_⟩|⟨a,_,h2⟩
 · rw [h2] at hx;simp at hx
 · exact h2.ns_rec x hx
theorem BtIn.words(h:BtIn w s F R H P q most last G t root its ns hg m){n:Nat}(hw:WordsR R H P n):(6*t+2)*ns.length≤n:=by
 obtain⟨p,rfl,_,_,hsum⟩:=hw
 have h1:=sum_sub (f:=fun x=>((R x).getD []).length+2) ns H (List.nodup_append.1 h.ow.nodup).1 (fun x hx=>(h.st.dom x).2 (h.ne x (List.mem_append.2 (.inl hx))))
 have h2:(ns.map fun x=>((R x).getD []).length+2)=List.replicate ns.length (6*t+2):=by
  rw [List.eq_replicate_iff]
  refine⟨by simp,fun b hb=> ?_⟩
  obtain⟨x,hx,rfl⟩:=List.mem_map.1 hb
  obtain⟨ws,h3,h4⟩:=h.tr.recs x hx
  rw [h3,←h4];rfl
 rw [h2,List.sum_replicate_nat] at h1
 rw [Nat.mul_comm]
 omega
theorem BtIn.nodes_eq(ht:BN.Deg t)(h:BtIn w s F R H P q most last G t root its ns hg m)(hb:its.length<549755813888){n:Nat}(hw:WordsR R H P n):bnodes R t (mostN n t) 40 [] root=ns:=by
 have h1:=h.words hw
 have t1:=ht.1
 have hm:ns.length≤mostN n t:=by
  unfold mostN
  have h2:ns.length≤n/(6*t):=by
   rw [Nat.le_div_iff_mul_le (by omega),Nat.mul_comm]
   refine Nat.le_trans (Nat.mul_le_mul_right _ (show 6*t≤6*t+2 by omega)) h1
  omega
 rcases h.tr with ⟨rfl,_,h3,_⟩|⟨a,_,h3⟩
 · rw [h3]
   unfold bnodes
   rw [if_pos (.inl (by unfold bnE;rw [h.z];simp))]
 · have:=Bt.nodes_right ht (mostN n t) a 1 40 ⟨root,its,ns⟩ [] h3 (h3.high ht hb) (by simpa using hm)
   simpa using this
theorem BtIn.nodes_at(ht:BN.Deg t)(h:BtIn w s F R H P q most last G t root its ns hg m)(hb:its.length<549755813888):
 Calls Tryz.prog 15 #[.pointer (some ⟨s,0,none⟩), .int .i64 (t:Nat), .int .u64 (root:Nat)] w fun e w' => ∃v',e= .returned v' ∧w'.ownsRow w.heap.size 23 1 v' ns.length (hsV ns)∧Below w.heap.size w w' :=by
 obtain⟨N,hr,hw⟩:=h.st.rd
 have:=btNods_at hr t ht root h.rt
 rw [h.nodes_eq ht hb hw] at this
 exact this
end
set_option maxRecDepth 100000 in
theorem btCheck0_at{w:World}{s N nn:Nat}{R:Nat→Option (List Nat)}(h:Rd N w s R nn)(t:Nat)(ht:BN.Deg t):
 Calls Tryz.prog 10 #[.pointer (some ⟨s,0,none⟩), .int .i64 (t:Nat), .int .u64 0] w fun e w' =>e= .returned (.int .i64 0)∧w' =w:=by
 have hA:=Lib.hid (btAsked_at h ht)
 clear h ht
 go_enter Tryz.func10,Tryz.ntmps10
 go_wp2_with fail
 refine hA.out.mono ?_
 rintro e w1 ⟨rfl,rfl⟩
 go_wp2
 go_ret
 exact⟨rfl,rfl⟩
section
variable {w w' :World} {s:Nat} {F:Nat→Prop} {R:Nat→Option (List Nat)} {H:List Nat} {P q most last G t root:Nat} {its:List It} {ns:List Nat} {hg m:Nat}
end
theorem less_cmp: ∀a b:List UInt8,Op.bytesLess a b=decide (Lib.compareBytes a b<0)
 | [],[]=>rfl
 | [],_::_=>rfl
 |_::_,[]=>rfl
 |a::ar,b::bs=>by
  rw [Op.bytesLess,Lib.compareBytes]
  by_cases h1:a<b
  · simp [h1]
  · by_cases h2:b<a
    · have:(a==b)=false:=by
       rw [beq_eq_false_iff_ne];rintro rfl;exact h1 h2
      simp [h1,h2,this]
    · have:a=b:=Tx.u8_eq h1 h2
      subst this
      simp [h1,less_cmp ar bs]
theorem str_less(a b:ByteArray):Op.bytesLess a.toList b.toList=decide (Tx.cmp a b<0):=by
 rw [Tx.toList_eq,Tx.toList_eq,less_cmp];rfl
def keys4:List Pr:= [(⟨#[97]⟩,⟨#[]⟩),(⟨#[98]⟩,⟨#[]⟩),(⟨#[99]⟩,⟨#[]⟩),(⟨#[100]⟩,⟨#[]⟩)]
def keyCC:ByteArray:=⟨#[99,99]⟩
theorem keys4_put: ∀k (h:k<4),putL (keys4.take k) (keys4[k]'h)=keys4.take (k+1)∧ ¬0≤findL (keys4.take k) (keys4[k]'h).1∧(keys4[k]'h).1.size≤1000∧(keys4[k]'h).2=⟨#[]⟩:=by decide+kernel
theorem keys4_cc:rankL keys4 keyCC=3:=by decide+kernel
theorem Bt.Tree.hg_le{R:Nat→Option (List Nat)}{t root:Nat}{its:List It}{ns:List Nat}{hg:Nat}(ht:BN.Deg t)(h:Bt.Tree R t root its ns hg)(hb:its.length<549755813888):hg≤40:=by
 rcases h with ⟨_,_,_,rfl⟩|⟨a,rfl,h⟩
 · omega
 · exact h.high ht hb
theorem Bt.Tree.four{R:Nat→Option (List Nat)}{root:Nat}{its:List It}{ns:List Nat}{hg:Nat}(h:Bt.Tree R 2 root its ns hg)(hl:its.length=4):hg=2∧ns.length=3:=by
 have ht:BN.Deg 2:=⟨by omega,by omega⟩
 rcases h with ⟨_,rfl,_,_⟩|⟨a,rfl,h⟩
 · simp at hl
 · have hbig:=h.big ht
   dsimp only at hbig
   rw [hl] at hbig
   match a,h,hbig with
   |0,h,_=>
    exfalso
    have h1:=h.2.2.2.1
    dsimp only at h1
    have h2:(Bt.leafOf its).keys.length=4:=by show(its.map (·.kh)).length=4;rw [List.length_map,hl]
    omega
   |1,h,_=>
    obtain⟨c,l,h1,h2,h3,h4,h5,h6⟩:=h
    dsimp only at h1 h2
    have hc:=h5.2.1
    have hcn:=h5.1
    have hsum: ∀l:List Lk,(∀p∈l,Bt.At R 2 0 (2-1) p.2)→2*l.length≤(Bt.rest l).length∧(l.flatMap fun p=>p.2.ns).length=l.length:=by
     intro l
     induction l with
     |nil=>intro _;exact⟨by simp,rfl⟩
     |cons p l ih=>
      intro h
      obtain⟨g1,g2⟩:=ih fun q hq=>h q (List.mem_cons_of_mem _ hq)
      have g3:=h p (by simp)
      have g4:=g3.1
      have g5:=g3.2.1
      refine⟨?_, ?_⟩
      · rw [Bt.rest_cons]
        simp only [List.length_cons,List.length_append]
        omega
      · rw [List.flatMap_cons,List.length_append,g4,g2]
        simp
        omega
    obtain⟨g1,g2⟩:=hsum l h6
    rw [h1] at hl
    unfold Bt.itsOf at hl
    rw [List.length_append] at hl
    have:l.length=1:=by omega
    refine⟨rfl, ?_⟩
    rw [h2]
    unfold Bt.nsOf
    rw [List.length_cons,List.length_append,g2,hcn]
    simp
    omega
   |a+2,h,hbig=>
    exfalso
    have:2^(a+2)=4*2^a:=by rw [Nat.pow_add];omega
    have h3:0<2^a:=Nat.pow_pos (by omega)
    rw [this] at hbig
    omega
theorem findI_none_of{l:List It}{key:ByteArray}(hr:Rising (Bt.prs l))(h: ¬0≤findL (Bt.prs l) key):Bt.findI l key=none:=by
 have h1:=(Bt.findI_has (key:=key) hr).1
 cases hf:Bt.findI l key with
 |none=>rfl
 |some i=>
  rw [hf] at h1
  rw [h1] at h
  simp at h
set_option maxRecDepth 100000 in
theorem awake16_at{w:World}(hT:Tab w):Calls Tryz.prog 5 #[] w fun e w' =>e= .returned (.bool true)∧Below w.heap.size w w' :=by
 have hN:=Lib.hid (snew_at hT 262144 1000 4294967295 (by omega) (by omega) (by omega) (by omega) (by omega))
 have ht2:BN.Deg 2:=⟨by omega,by omega⟩
 have htH:=Lib.hid ht2
 clear hT ht2
 go_enter Tryz.func5,Tryz.ntmps5
 go_wp2_with fail
 refine hN.out.mono ?_
 rintro e w1 ⟨s,F,rfl,hS,hs1,hF1,hb1⟩
 have hb1H:=Lib.hid hb1
 have hF1H:=Lib.hid hF1
 have hSH:=Lib.hid hS
 have hz1:=hb1.size
 clear hb1 hF1 hS hN
 go_wp2_with fail
 obtain⟨W2,hW2⟩: ∃W,W=w1.alloc (Obj.cells #[.string ⟨#[97]⟩, .string ⟨#[98]⟩, .string ⟨#[99]⟩, .string ⟨#[100]⟩] 9):=⟨_,rfl⟩
 obtain⟨b2,hb2e⟩: ∃b,b=w1.heap.size:=⟨_,rfl⟩
 have hX2:Box W2 b2 9 [.string ⟨#[97]⟩, .string ⟨#[98]⟩, .string ⟨#[99]⟩, .string ⟨#[100]⟩]:=by rw [hW2,hb2e];exact Box.new w1 9 [.string ⟨#[97]⟩, .string ⟨#[98]⟩, .string ⟨#[99]⟩, .string ⟨#[100]⟩]
 have hFb2: ¬F b2:=fun hf=>by have:=hSH.out.lt hf;omega
 have hcell:Hid (∀k (hk:k<4),W2.cell? ⟨b2,k,none⟩=some (.string (keys4[k]'hk).1)):=Lib.hid fun k hk=>by
  match k,hk with
  |0,_=>exact hX2.at' (i:=0) rfl
  |1,_=>exact hX2.at' (i:=1) rfl
  |2,_=>exact hX2.at' (i:=2) rfl
  |3,_=>exact hX2.at' (i:=3) rfl
 have hb2:Below w1.heap.size w1 W2:=by rw [hW2];exact(Below.refl _ _).alloc (Nat.le_refl _) _
 have hSt2:Hid (BtIn W2 s F (fun _=>none) [] 0 262144 1000 4294967295 0 2 0 [] [] 0 0):=Lib.hid (BtIn.start (hSH.out.below hb2) 2)
 have hB2H:=Lib.hid (hb1H.out.trans (hb2.mono hb1H.out.size))
 have hFbH:=Lib.hid hFb2
 rw [←hW2,←hb2e]
 clear hX2 hb2 hW2 hb2e hSH hz1 hb1H hFb2
 go_loopw [3,5] (fun rv iv wr=> ∃(k root:Nat) (its:List It) (ns:List Nat) (hg:Nat) (F' :Nat→Prop) (R' :Nat→Option (List Nat)) (H' :List Nat),k≤4∧iv= .int .i64 k∧rv= .int .u64 (root:Nat)∧Hid (BtIn wr s F' R' H' (6*k+2*ns.length) 262144 1000 4294967295 (2*k+ns.length) 2 root its ns hg 0)∧Hid (Bt.prs its=keys4.take k)∧Hid (Turn W2 F wr F')) (fun _ iv _=>4-(intOf iv).toNat)
 case atStart=>exact⟨0,0,[],[],0,F,_,[],by omega,rfl,rfl,by simpa using hSt2,Lib.hid rfl,Lib.hid (Turn.refl _ _)⟩
 case round=>
  obtain⟨k,root,its,ns,hg,F',R',H',hk,rfl,rfl,hst,hpr,hT'⟩:=hrel
  by_cases hlt:k<4
  · obtain⟨hput,hfnd,z1,z2⟩:=keys4_put k hlt
    have q1:=hT'.out.cell (hcell.out k hlt) hFbH.out
    obtain⟨p,hp⟩: ∃p,keys4[k]'hlt=p:=⟨_,rfl⟩
    rw [hp] at hput hfnd z1 z2 q1
    obtain⟨pk,pv⟩:=p
    dsimp only at z1 z2 q1 hfnd
    subst z2
    have hlk:its.length=k:=by rw [←Bt.prs_len,hpr.out,List.length_take];exact Nat.min_eq_left hk
    have hI:=Lib.hid (item16_at hst.out (pk,⟨#[]⟩) z1 (show(⟨#[]⟩:ByteArray).size≤1000 by decide))
    have hputH:=Lib.hid hput
    have hfndH:=Lib.hid hfnd
    have hlkH:=Lib.hid hlk
    clear hput hfnd hp hlk z1
    go_wp2_with fail
    refine hI.out.mono ?_
    intro e w3 hR
    cases hR with
    |no hb hT hl hbad=>
     exfalso
     have h1:=hst.out.len
     have h2:=hst.out.tr.ns_le htH.out
     have h3:=hlkH.out
     omega
    | @ok _ it R3 F3 H3 hik hiv hb hi hnd hT h64 hl hold=>
      obtain⟨W4,hW4⟩: ∃W,W=w3.alloc (Obj.cells #[.int .u64 (it.kh:Nat), .int .u64 (it.vh:Nat)] 31):=⟨_,rfl⟩
      have hb34:Below w3.heap.size w3 W4:=by rw [hW4];exact(Below.refl _ w3).alloc (Nat.le_refl _) _
      have hb:=hb.below hb34
      have hIn:=hb.insert_at htH.out it hi (by omega) hnd (by have:=hlkH.out;omega) h64
      rw [show((2:Nat):Int)=2 from rfl] at hIn
      have hInH:=Lib.hid hIn
      have hT3:=Lib.hid ((hT'.out.trans hT).trans (Turn.below hb34))
      have hbH:=Lib.hid hb
      have hikH:=Lib.hid (And.intro hik hiv)
      obtain⟨kh,hkh⟩: ∃z,z=it.kh:=⟨_,rfl⟩
      obtain⟨vh,hvh⟩: ∃z,z=it.vh:=⟨_,rfl⟩
      rw [←hkh,←hvh] at hInH hW4 ⊢
      have hW4H:=Lib.hid hW4
      clear hW4 hb34 hI hb hT hIn hik hiv hnd hi h64 hold q1 hkh hvh
      go_wp2_with fail
      rw [←hW4H.out]
      refine hInH.out.mono ?_
      intro e w4 hR4
      have hno:Bt.findI its it.k=none:=findI_none_of hbH.out.ow.rise (by rw [hikH.out.1,hpr.out];exact Int.not_le.2 hfndH.out)
      cases hR4 with
      |here hf _ _ _ _=>exfalso;rw [hno] at hf;cases hf
      |full hf hn he _ _ _=>
       exfalso
       have h1:=hbH.out.len
       have h2:=hst.out.tr.ns_le htH.out
       have h3:=hlkH.out
       have h4:=hst.out.tr.hg_le htH.out (by omega)
       omega
      | @put _ now n R4 F4 H4 ns' hg' hf hl4 hn hb4 hT4=>
        have hbA4:Below w4.heap.size w4 (w4.alloc (Obj.cells #[.int .u64 0, .int .u64 0] 31)):=(Below.refl _ w4).alloc (Nat.le_refl _) _
        have hb4' :=(hb4.more (P' :=6*(k+1)+2*ns'.length) (G' :=2*(k+1)+ns'.length) (by omega) (by omega)).below hbA4
        have hpr4:Hid (Bt.prs (Bt.putI its it)=keys4.take (k+1)):=Lib.hid (by
         rw [Bt.putI_prs hbH.out.ow.rise hno,hpr.out,←hputH.out]
         show putL _ (it.k,it.v)=_
         rw [hikH.out.1,hikH.out.2])
        have hb4H:=Lib.hid hb4'
        have hT4H:=Lib.hid ((hT3.out.trans hT4).trans (Turn.below hbA4))
        clear hb4 hb4' hbA4 hT4 hf hno hInH
        go_wp2
        go_roundw
        case rel=>exact⟨k+1,now,_,ns',hg',F4,R4,H4,by omega,by go_num,rfl,hb4H,hpr4,hT4H⟩
        case measure=>simp [intOf];omega
  · obtain rfl:k=4:=by omega
    have hl4:its.length=4:=by rw [←Bt.prs_len,hpr.out];rfl
    obtain⟨e1,e2⟩:=hst.out.tr.four hl4
    have hHt:=hst.out.height_at htH.out (by omega)
    have hSz:=fun W (hb:Below wr.heap.size wr W)=>(hst.out.below hb).size_at htH.out (by omega)
    have hRk:=fun W (hb:Below wr.heap.size wr W)=>(hst.out.below hb).rank_at htH.out (by omega) keyCC
    have hNd:=fun W (hb:Below wr.heap.size wr W)=>(hst.out.below hb).nodes_at htH.out (by omega)
    rw [e1] at hHt
    simp only [hl4] at hSz
    simp only [hpr.out,show keys4.take 4=keys4 from rfl,keys4_cc] at hRk
    simp only [e2] at hNd
    unfold keyCC at hRk
    have hHtH:=Lib.hid hHt
    have hSzH:=Lib.hid hSz
    have hRkH:=Lib.hid hRk
    have hNdH:=Lib.hid hNd
    have hbw:=Lib.hid (hB2H.out.trans (hT'.out.to_below hB2H.out.size hF1H.out))
    clear hst hpr hl4 e1 e2 hHt hSz hRk hNd
    go_wp2_with fail
    refine hHtH.out.mono ?_
    rintro e w5 ⟨rfl,hb5⟩
    have hb5H:=Lib.hid hb5
    clear hb5
    go_wp2_with fail
    refine(hSzH.out _ hb5H.out).mono ?_
    rintro e w6 ⟨rfl,hb6⟩
    have hb6H:=Lib.hid (hb5H.out.trans (hb6.mono hb5H.out.size))
    clear hb6
    go_wp2_with fail
    refine(hRkH.out _ hb6H.out).mono ?_
    rintro e w7 ⟨rfl,hb7⟩
    have hb7H:=Lib.hid (hb6H.out.trans (hb7.mono hb6H.out.size))
    clear hb7
    go_wp2_with fail
    refine(hNdH.out _ hb7H.out).mono ?_
    rintro e w8 ⟨v',rfl,hrow,hb8⟩
    obtain⟨A8,c8,rfl⟩:=ownN_form hrow
    have hb8H:=Lib.hid (hbw.out.trans ((hb7H.out.trans (hb8.mono hb7H.out.size)).mono hbw.out.size))
    clear hb8 hrow
    go_wp2
    go_ret
    exact⟨rfl,hb8H.out⟩
theorem CellsF.own{w:World}{F:Nat→Prop}{base c:Nat}{A:Option Addr}{l:List Pr}(h:w.ownsRow base 52 2 (.slice A l.length c) l.length (prsV l))(hp:Prs w w.heap.size A l)(hF: ∀b,F b→b<base):CellsF w F A (prsV l):=by
 rcases hp with h1|⟨b,o,h1,h2,h3⟩
 · rw [h1];exact .inl rfl
 · refine .inr ⟨b,o,h1,h2,fun hf=> ?_,h3⟩
   have h4:=hF b hf
   have h5:=(own2_lt h (k:=b) (by rw [h1];rfl)).1
   omega
section
variable {w w' W:World} {F F' :Nat→Prop}
theorem Turn.put(h:Turn w F w' F'){b j:Nat}{v:Value}(hb:w.heap.size≤b):Turn w F (w'.setCell ⟨b,j,none⟩ v) F' :=
 ⟨by rw [←h.os];rfl,by rw [←h.tape];rfl,by rw [←h.output];rfl,by simpa using h.size,fun k hk hn=>(Below.heap_setCell w' ⟨b,j,none⟩ v k (by simp;omega)).trans (h.keep k hk hn),h.grow⟩
end
theorem bnG_ok{w:World}{s N nn:Nat}{R:Nat→Option (List Nat)}(h:Rd N w s R nn){t:Nat}(ht:BN.Deg t)(x:Nat):(bnG R t x).Ok∧(bnG R t x).keys.length≤40∧(bnG R t x).vals.length≤40∧(bnG R t x).kids.length≤40:=by
 by_cases he:bnE R t x=0
 · obtain⟨⟨f1,f2,f3⟩,w1,w2,w3,w4⟩:=bnG_words h ht he
   have t2:=ht.2
   refine⟨⟨fun z hz=> ?_,fun z hz=> ?_,fun z hz=> ?_,w4⟩,by omega,by omega, ?_⟩
   · obtain⟨i,hi,rfl⟩:=List.getElem_of_mem hz;exact w1 i hi
   · obtain⟨i,hi,rfl⟩:=List.getElem_of_mem hz;exact w2 i hi
   · obtain⟨i,hi,rfl⟩:=List.getElem_of_mem hz;exact w3 i hi
   · rcases f3 with h9|⟨h9,_⟩
     · rw [h9];simp
     · omega
 · have hz:bnG R t x=BN.zero:=by
    unfold bnE at he
    unfold bnG
    cases hR:R x with
    |none=>rfl
    |some ws=>
     rw [hR] at he
     simp only at he ⊢
     by_cases h9:BN.IsW t ws
     · rw [if_pos h9] at he;exact absurd rfl he
     · rw [if_neg h9]
   rw [hz]
   exact⟨⟨by simp [BN.zero],by simp [BN.zero],by simp [BN.zero],by simp [BN.zero]⟩,by simp [BN.zero],by simp [BN.zero],by simp [BN.zero]⟩
end Go.Proofs.YthcmecokejemcaaGreatDoor
namespace Go.Proofs.YthcmecokejemcaaGreatDoor
end Go.Proofs.YthcmecokejemcaaGreatDoor
