/-
  The seat's own texts, part w: BiQ, BtWB.
-/
import Derived.Test.YthcmecokejemcaaGreatDoorWMv
set_option linter.unusedSimpArgs false
set_option linter.unusedVariables false
set_option maxHeartbeats 16000000
namespace Go.Proofs.YthcmecokejemcaaGreatDoor
open Go.RowKit Go.Shelf
def needN(p:List Bool):Nat:=tails p+(if p.all id then 1 else 0)
def bneed(R:Nat→Option (List Nat))(t:Nat)(key:ByteArray)(root:Nat):Nat:=if root=0 then 1 else needN (bpath R t key 40 root)
def topSize(R:Nat→Option (List Nat))(t a b:Nat):Nat:=((bnG R t a).size+(bnG R t b).size+1)%18446744073709551616
def binTop(t:Nat)(key:ByteArray)(ak av:Nat)(R:Nat→Option (List Nat))(st:List Nat)(root:Nat):(Nat→Option (List Nat)) × List Nat × Nat:=
 if root=0 then btake R t st ⟨[ak],[av],[],1⟩
 else binUp t root (bins t key ak av 40 R st root)
where
 binUp (t root:Nat) (p:(Nat→Option (List Nat)) × List Nat × Option (Nat × Nat × Nat)):(Nat→Option (List Nat)) × List Nat × Nat:=
  match p.2.2 with
  |none=>(p.1,p.2.1,root)
  |some (a,b,r)=>btake p.1 t p.2.1 ⟨[a],[b],[root,r],topSize p.1 t root r⟩
theorem It.At.congr' {R R1:Nat→Option (List Nat)}{i:It}(h:i.At R)(e: ∀z,R z≠none→R1 z=R z):i.At R1:=
 h.congr fun z hz=>e z (by
  simp only [It.hs,List.mem_cons,List.mem_singleton,List.not_mem_nil,or_false] at hz
  rcases hz with rfl|rfl
  · rw [h.kt];simp
  · rw [h.vt];simp)
namespace Bt
def Tree(R:Nat→Option (List Nat))(t root:Nat)(its:List It)(ns:List Nat)(hg:Nat):Prop:=
 (root=0∧its= []∧ns= []∧hg=0)∨ ∃a,hg=a+1∧At R t a 1 ⟨root,its,ns⟩
structure Own(R:Nat→Option (List Nat))(its:List It)(ns:List Nat):Prop where
 at' : ∀i∈its,i.At R
 rise:Rising (prs its)
 nodup:(ns++its.flatMap It.hs).Nodup
section
variable {R R1:Nat→Option (List Nat)} {t a lo:Nat}
theorem At.big(ht:BN.Deg t): ∀{a lo:Nat} {s:Sb},At R t a lo s→(lo+1)*t^a≤s.its.length+1
 |0,lo,s,h=>by have:=h.2.1;simp;exact this
 |a+1,lo,s,h=>by
  obtain⟨c,l,h1,h2,h3,h4,h5,h6⟩:=h
  have t1:=ht.1
  have hc:=At.big ht h5
  have hl:=fun p hp=>At.big ht (h6 p hp)
  have hsum: ∀(q:Nat) (l:List Lk),(∀p∈l,q≤p.2.its.length+1)→l.length*q≤(l.flatMap fun p=>p.2.its).length+l.length:=by
   intro q l
   induction l with
   |nil=>intro _;simp
   |cons p l ih=>
    intro h
    have h1:=h p (by simp)
    have h2:=ih (fun q hq=>h q (by simp [hq]))
    simp only [List.flatMap_cons,List.length_append,List.length_cons,Nat.succ_mul]
    omega
  have h7:=hsum _ l hl
  have h8:=its_len c l
  rw [h1,h8,List.length_append]
  rw [show t-1+1=t by omega] at hc h7
  have e:(lo+1)*t^(a+1)=(lo+1)*(t*t^a):=by rw [Nat.pow_succ,Nat.mul_comm (t^a) t]
  rw [e]
  generalize t*t^a=q at hc h7
  have h9:(lo+1)*q≤(l.length+1)*q:=Nat.mul_le_mul_right q (by omega)
  rw [Nat.succ_mul l.length q] at h9
  omega
theorem At.high(ht:BN.Deg t){s:Sb}(h:At R t a 1 s)(hb:s.its.length<549755813888):a<40:=by
 have h1:=h.big ht
 have h2:2^a≤t^a:=Nat.pow_le_pow_left ht.1 a
 rcases Nat.lt_or_ge a 40 with h3|h3
 · exact h3
 · have h4:2^40≤2^a:=Nat.pow_le_pow_right (by omega) h3
   have e:(2:Nat)^40=1099511627776:=by decide
   rw [e] at h4
   omega
theorem At.congr' {s:Sb}(h:At R t a lo s)(e: ∀z,R z≠none→R1 z=R z):At R1 t a lo s:=
 h.congr fun x hx=>e x (by obtain⟨ws,h1,_⟩:=h.ns_rec x hx;rw [h1];simp)
theorem path_congr(ht:BN.Deg t)(e: ∀z,R z≠none→R1 z=R z)(key:ByteArray): ∀(a lo f:Nat) (s:Sb),At R t a lo s→(∀i∈s.its,i.At R)→Rising (prs s.its)→a<f→bpath R1 t key f s.h=bpath R t key f s.h:=by
 intro a
 induction a with
 |zero=>
  intro lo f s h hA hr hf
  obtain⟨f,rfl⟩: ∃g,f=g+1:=⟨f-1,by omega⟩
  obtain⟨e1,e2⟩:=h.2.2.get ht
  obtain⟨e3,e4⟩:=(h.congr' e).2.2.get ht
  rw [bpath_node e1 e2 (place_items hA hr),bpath_node e3 e4 (place_items (fun i hi=>(hA i hi).congr' e) hr),if_pos (show(leafOf s.its).kids= [] from rfl)]
  rfl
 |succ a ih=>
  intro lo f s h hA hr hf
  obtain⟨f,rfl⟩: ∃g,f=g+1:=⟨f-1,by omega⟩
  have h' :=h.congr' e
  obtain⟨c,l,h1,h2,h3,h4,h5,h6⟩:=h
  have h4' :BnAt R1 t s.h (nodeOf c l):=⟨(e _ (by rw [h4.1];simp)).trans h4.1,h4.2⟩
  obtain⟨e1,e2⟩:=h4.get ht
  obtain⟨e3,e4⟩:=h4'.get ht
  rw [h1] at hA hr
  have hkr:=keys_rising hr
  have hkA: ∀i∈l.map (·.1),i.At R:=fun i hi=>hA i (keys_in hi)
  have hsp:=spot_of (key:=key) hkr
  have hpl:=place_items (key:=key) hkA hkr
  have hpl' :=place_items (R:=R1) (key:=key) (fun i hi=>(hkA i hi).congr' e) hkr
  rw [List.map_map] at hpl hpl'
  generalize rankL (prs (l.map (·.1))) key=k at hsp hpl hpl'
  have hkl:=hsp.le
  have hkid:=kid_all k h5 h6
  have hy:(nodeOf c l).kids.getD k 0=(kid c l k).h:=by
   show(c.h::l.map (·.2.h)).getD k 0=_
   rw [List.getD_eq_getElem?_getD,kid_get c l k hkl];rfl
  rw [bpath_node e1 e2 hpl,bpath_node e3 e4 hpl',hy,ih (t-1) f (kid c l k) hkid (fun i hi=>hA i (kid_its hkl hi)) (kid_rising hkl hr) (by omega)]
structure Fresh(R R1:Nat→Option (List Nat))(t:Nat)(st:List Nat):Prop where
 new: ∀x∈st,R x=none∧x≠0∧Rec R1 t x
 nodup:st.Nodup
 old: ∀z,z∉st→R1 z=R z
theorem Fresh.ext{st:List Nat}(f:Fresh R R1 t st): ∀z,R z≠none→R1 z=R z:=fun z hz=>f.old z fun hm=>hz (f.new z hm).1
theorem path_len{key:ByteArray}(ht:BN.Deg t): ∀(a lo f:Nat) (s:Sb),At R t a lo s→(∀i∈s.its,i.At R)→Rising (prs s.its)→a<f→(bpath R t key f s.h).length=a+1:=by
 intro a
 induction a with
 |zero=>
  intro lo f s h hA hr hf
  obtain⟨f,rfl⟩: ∃g,f=g+1:=⟨f-1,by omega⟩
  obtain⟨e1,e2⟩:=h.2.2.get ht
  rw [bpath_node e1 e2 (place_items hA hr),if_pos (show(leafOf s.its).kids= [] from rfl)]
  rfl
 |succ a ih=>
  intro lo f s h hA hr hf
  obtain⟨f,rfl⟩: ∃g,f=g+1:=⟨f-1,by omega⟩
  obtain⟨c,l,h1,h2,h3,h4,h5,h6⟩:=h
  obtain⟨e1,e2⟩:=h4.get ht
  rw [h1] at hA hr
  have hkr:=keys_rising hr
  have hkA: ∀i∈l.map (·.1),i.At R:=fun i hi=>hA i (keys_in hi)
  have hsp:=spot_of (key:=key) hkr
  have hpl:=place_items (key:=key) hkA hkr
  rw [List.map_map] at hpl
  generalize rankL (prs (l.map (·.1))) key=k at hsp hpl
  have hkl:=hsp.le
  have hkid:=kid_all k h5 h6
  have hy:(nodeOf c l).kids.getD k 0=(kid c l k).h:=by
   show(c.h::l.map (·.2.h)).getD k 0=_
   rw [List.getD_eq_getElem?_getD,kid_get c l k hkl];rfl
  rw [bpath_node e1 e2 hpl,if_neg (show¬(nodeOf c l).kids= [] by simp [nodeOf]),hy,List.length_cons,ih (t-1) f (kid c l k) hkid (fun i hi=>hA i (kid_its hkl hi)) (kid_rising hkl hr) (by omega)]
theorem tails_le: ∀(p:List Bool),tails p≤p.length
 | []=>Nat.le_refl _
 |b::p=>by
  unfold tails
  have:=tails_le p
  split
  · split<;>simp
  · simp;omega
theorem need_le(p:List Bool):needN p≤p.length+1:=by
 unfold needN
 have:=tails_le p
 split<;>omega
theorem Tree.need{root:Nat}{its:List It}{ns:List Nat}{hg:Nat}(ht:BN.Deg t)(h:Tree R t root its ns hg)(hz:R 0=none)(ho:Own R its ns)(hb:its.length<549755813888)(key:ByteArray):bneed R t key root≤hg+1:=by
 unfold bneed
 rcases h with ⟨rfl,_,_,rfl⟩|⟨a,rfl,h⟩
 · rw [if_pos rfl];omega
 · have h0:root≠0:=fun e=>h.ns_zero hz (by have:=ns_pos h;rw [←e];exact this)
   rw [if_neg h0]
   have:=need_le (bpath R t key 40 root)
   have hl:(bpath R t key 40 root).length=a+1:=path_len ht a 1 40 ⟨root,its,ns⟩ h ho.at' ho.rise (h.high ht hb)
   omega
theorem top_right(ht:BN.Deg t)(it:It){root:Nat}{its:List It}{ns:List Nat}{hg:Nat}{st:List Nat}(h:Tree R t root its ns hg)(hz:R 0=none)(ho:Own R its ns)(hno:findI its it.k=none)(hb:its.length<549755813888)
 (hf:Fresh R R1 t st) (hl:st.length=bneed R t it.k root):
 ∃R' now ns' hg',binTop t it.k it.kh it.vh R1 st root=(R',[],now)∧Tree R' t now (putI its it) ns' hg' ∧(∀x,ns'.count x=ns.count x+st.count x)∧(∀z,z∉ns→z∉st→R' z=R z):=by
 have hR10:R1 0=none:=(hf.old 0 fun hm=>(hf.new 0 hm).2.1 rfl).trans hz
 rcases h with ⟨rfl,rfl,rfl,rfl⟩|⟨a,rfl,h⟩
 · unfold bneed at hl
   rw [if_pos rfl] at hl
   obtain⟨x,rfl⟩: ∃x,st= [x]:=List.length_eq_one_iff.1 hl
   obtain⟨x1,x2,ws,x3,x4⟩:=hf.new x (by simp)
   have hfit:(leafOf [it]).Fits t:=leaf_fits (by have:=ht.1;simp;omega)
   have e:binTop t it.k it.kh it.vh R1 [x] 0=(updR R1 x (some ((leafOf [it]).wd t)),[],x):=by
    unfold binTop
    rw [if_pos rfl]
    show(bputR R1 t x (leafOf [it]),[],x)=_
    rw [bputR_same hfit x3 x4]
   refine⟨_,x,[x],1,e, .inr ⟨0,rfl,rfl, ?_,updR_same _ _ _,hfit⟩,fun y=> ?_,fun z _ hz2=> ?_⟩
   · show 1≤(putI [] it).length
     rw [putI_len];exact Nat.le_add_left _ _
   · simp
   · rw [updR_other (by simpa using hz2),hf.old z hz2]
 · have h0:root≠0:=fun e=>h.ns_zero hz (by have:=ns_pos h;rw [←e];exact this)
   have ha:=h.high ht hb
   have hne: ∀x∈ns,R x≠none:=fun x hx=>by obtain⟨ws,h1,_⟩:=h.ns_rec x hx;rw [h1];simp
   have hst: ∀x∈st,x≠0∧x∉ns∧Rec R1 t x:=fun x hx=>⟨(hf.new x hx).2.1,fun hm=>hne x hm (hf.new x hx).1,(hf.new x hx).2.2⟩
   unfold bneed at hl
   rw [if_neg h0] at hl
   have hpc:=path_congr ht hf.ext it.k a 1 40 ⟨root,its,ns⟩ h ho.at' ho.rise ha
   dsimp only at hpc
   have htl:tails (bpath R1 t it.k 40 root)≤st.length:=by rw [hpc,hl];unfold needN;omega
   obtain⟨R2,used,st',up,g1,g2,g3,g4⟩:=ins_right (R:=R1) ht it a 1 40 ⟨root,its,ns⟩ st (h.congr' hf.ext) hR10 (List.nodup_append.1 ho.nodup).1 (fun i hi=>(ho.at' i hi).congr' hf.ext) ho.rise hno ha (by show its.length+1<_;omega) hst hf.nodup htl
   dsimp only at g1 g2 g3 g4
   rw [hpc] at g3 g4
   have hlen:st.length=used.length+st'.length:=by rw [g2,List.length_append]
   have hfr: ∀z,z∉ns→z∉st→R2 z=R z:=fun z h1 h2=>(g4.frame z h1 fun h3=>h2 (by rw [g2];simp [h3])).trans (hf.old z h2)
   cases up with
   |none=>
    obtain⟨q1,ns',q2,q3⟩:=g4.stays rfl
    have hs0:st' = []:=by
     unfold needN at hl
     rw [q1] at hl
     simp only [Bool.false_eq_true,if_false,Nat.add_zero] at hl
     exact List.eq_nil_of_length_eq_zero (by omega)
    subst hs0
    refine⟨R2,root,ns',a+1, ?_, .inr ⟨a,rfl,q2⟩,fun x=> ?_,hfr⟩
    · unfold binTop
      rw [if_neg h0,g1]
      rfl
    · rw [q3 x,g2,List.append_nil]
   |some u=>
    obtain⟨mk,mv,r⟩:=u
    obtain⟨q1,L,Q,m,rfl,rfl,q4,rfl,q6,q7,q8,q9⟩:=g4.split _ _ _ rfl
    dsimp only at q4 q8 q9
    have hs1:st'.length=1:=by
     unfold needN at hl
     rw [q1] at hl
     simp only [if_true] at hl
     omega
    obtain⟨x,rfl⟩: ∃x,st' = [x]:=List.length_eq_one_iff.1 hs1
    have hxs:x∈st:=by rw [g2];simp
    obtain⟨x1,x2,x3⟩:=hst x hxs
    have hxu:x∉used:=fun hm=>by
     have:=hf.nodup
     rw [g2] at this
     exact(List.nodup_append.1 this).2.2 x hm x (by simp) rfl
    have hR20:R2 0=none:=(g4.frame 0 (fun hm=>hne 0 hm hz) (fun hm=>(hst 0 (by rw [g2];simp [hm])).1 rfl)).trans hR10
    have hL0:L.h≠0:=fun e=>q6.ns_zero hR20 (by rw [←e];exact ns_pos q6)
    have hQ0:Q.h≠0:=fun e=>q7.ns_zero hR20 (by rw [←e];exact ns_pos q7)
    have hxL:x∉L.ns:=fun hm=>by
     have h9:=q9 x
     have h10:=List.count_pos_iff.2 hm
     rw [List.count_eq_zero.2 x2,List.count_eq_zero.2 hxu] at h9
     omega
    have hxQ:x∉Q.ns:=fun hm=>by
     have h9:=q9 x
     have h10:=List.count_pos_iff.2 hm
     rw [List.count_eq_zero.2 x2,List.count_eq_zero.2 hxu] at h9
     omega
    have hitl:putI its it=itsOf L [(m,Q)]:=by rw [q8];simp [itsOf,rest]
    have hlp:=putI_len its it
    have hts:topSize R2 t root Q.h=(itsOf L [(m,Q)]).length:=by
     unfold topSize
     rw [←q4,q6.sizeOf ht,q7.sizeOf ht,←hitl,hlp]
     rw [q8] at hlp
     rw [List.length_append,List.length_cons] at hlp
     rw [Nat.mod_eq_of_lt (by omega)]
     omega
    have hn:(⟨[m.kh],[m.vh],[root,Q.h],topSize R2 t root Q.h⟩:BN)=nodeOf L [(m,Q)]:=by rw [hts,←q4];rfl
    have hfit:(nodeOf L [(m,Q)]).Fits t:=node_fits (by have:=ht.1;simp;omega) (by
     simp only [List.map_cons,List.map_nil,List.mem_cons,List.not_mem_nil,or_false,not_or]
     exact⟨fun e=>hL0 e.symm,fun e=>hQ0 e.symm⟩)
    obtain⟨ws,x4,x5⟩:=g4.recs x x3
    refine⟨updR R2 x (some ((nodeOf L [(m,Q)]).wd t)),x,x::nsOf L [(m,Q)],a+2, ?_, .inr ⟨a+1,rfl,L,[(m,Q)],hitl,rfl,by simp,⟨updR_same _ _ _,hfit⟩,upd_at q6 hxL,fun p hp=> ?_⟩,fun y=> ?_,fun z hz1 hz2=> ?_⟩
    · unfold binTop
      rw [if_neg h0,g1]
      show btake R2 t [x] ⟨[m.kh],[m.vh],[root,Q.h],topSize R2 t root Q.h⟩=_
      rw [hn]
      show(bputR R2 t x _,[],x)=_
      rw [bputR_same hfit x4 x5]
    · rw [List.mem_singleton] at hp
      rw [hp]
      exact upd_at q7 hxQ
    · have h9:=q9 y
      rw [g2]
      simp only [nsOf,List.flatMap_cons,List.flatMap_nil,List.append_nil,List.count_cons,List.count_append,List.count_nil]
      omega
    · rw [updR_other (fun e=>hz2 (by rw [e];exact hxs)),hfr z hz1 hz2]
end
end Bt
def needF:List Bool→Nat→Bool→Nat
 | [],full,all=>full+(if all then 1 else 0)
 |b::p,full,all=>if b then needF p (full+1) all else needF p 0 false
theorem needF_eq: ∀(p:List Bool) (full:Nat) (all:Bool),needF p full all=if p.all id then full+p.length+(if all then 1 else 0) else tails p
 | [],full,all=>by simp [needF]
 |b::p,full,all=>by
  cases b with
  |true=>
   show needF p (full+1) all=_
   rw [needF_eq p]
   have e:(true::p).all id=p.all id:=by simp
   rw [e]
   by_cases h:p.all id=true
   · rw [if_pos h,if_pos h,List.length_cons];omega
   · rw [if_neg h,if_neg h]
     conv=>rhs;unfold tails
     rw [if_neg h]
  |false=>
   show needF p 0 false=_
   rw [needF_eq p]
   have e: ¬(false::p).all id=true:=by simp
   rw [if_neg e]
   by_cases h:p.all id=true
   · rw [if_pos h]
     conv=>rhs;unfold tails
     rw [if_pos h];simp
   · rw [if_neg h]
     conv=>rhs;unfold tails
     rw [if_neg h]
theorem needF_start(p:List Bool):needF p 0 true=needN p:=by
 rw [needF_eq]
 unfold needN
 by_cases h:p.all id=true
 · rw [if_pos h,if_pos h,tails_all h];simp
 · rw [if_neg h,if_neg h];simp
section
variable {s N:Nat} {R:Nat→Option (List Nat)} {nn:Nat}
set_option maxRecDepth 100000 in
theorem btNeed_at{w:World}(h:Rd N w s R nn)(hsh:Short R){t:Nat}(ht:BN.Deg t)(x:Nat)(hx:x<18446744073709551616)(key:ByteArray):
 Calls Tryz.prog 32 #[.agg #[.pointer (some ⟨s,0,none⟩), .int .i64 (t:Nat)], .int .u64 (x:Nat), .string key] w fun e w' =>e= .returned (.int .i64 (bneed R t key x:Nat))∧Below w.heap.size w w' :=by
 have hH:=Lib.hid h
 have htH:=Lib.hid ht
 have t1:=ht.1
 have t2:=ht.2
 obtain⟨W0,hW0⟩: ∃W,W=w.alloc (Obj.cells #[.pointer (some ⟨s,0,none⟩), .int .i64 (t:Nat)] 74):=⟨_,rfl⟩
 have hb0:Below w.heap.size w W0:=by rw [hW0];exact(Below.refl _ w).alloc (Nat.le_refl _) _
 obtain⟨b3,hb3⟩: ∃b,b=w.heap.size:=⟨_,rfl⟩
 have x3:Box W0 b3 74 [.pointer (some ⟨s,0,none⟩), .int .i64 (t:Nat)]:=by rw [hW0,hb3];exact Box.new w _ _
 have hW0H:=Lib.hid (And.intro hW0 hb3)
 have hb0H:=Lib.hid hb0
 have x3H:=Lib.hid x3
 have hfin:Hid (∀(m:Nat) W,bneed R t key x=m→Below w.heap.size w W→(Ending.returned (.int .i64 (m:Nat))=Ending.returned (.int .i64 (bneed R t key x:Nat))∧Below w.heap.size w W)):=Lib.hid (fun m W h1 h2=>⟨by rw [h1],h2⟩)
 clear h ht hW0 hb3 x3 hb0
 go_enter Tryz.func32,Tryz.ntmps32
 by_cases hx0:x=0
 · have d0:((x:Int)==0)=true:=by rw [hx0];rfl
   have hf:=Lib.hid (hfin.out 1 W0 (by unfold bneed;rw [if_pos hx0]) hb0H.out)
   clear hx0
   go_wp2
   rw [←hW0H.out.1]
   go_ret
   exact hf.out
 · have d0:((x:Int)==0)=false:=by simp;omega
   obtain⟨D,hD⟩: ∃D,D=bneed R t key x:=⟨_,rfl⟩
   have hDH:=Lib.hid hD
   have hDn:Hid (D=needF (bpath R t key (40-0) x) 0 true):=Lib.hid (by rw [hD,needF_start];unfold bneed;rw [if_neg hx0])
   clear hx0 hD
   go_upto_region 3 with (fail)
   rw [←hW0H.out.1,←hW0H.out.2]
   go_wp2
   go_loopw [1,7,8,15] (fun xv fv av iv wr=> ∃(i x' full:Nat) (all:Bool),i≤40∧full≤i∧x' <18446744073709551616∧xv= .int .u64 (x' :Nat)∧fv= .int .i64 (full:Nat)∧av= .bool all∧iv= .int .i64 (i:Nat)∧Hid (D=needF (bpath R t key (40-i) x') full all)∧Hid (Below W0.heap.size W0 wr)) (fun _ _ _ iv _=>40-(intOf iv).toNat)
   case atStart=>exact⟨0,x,0,true,by omega,by omega,hx,rfl,rfl,rfl,rfl,hDn,Lib.hid (Below.refl _ _)⟩
   case round=>
    obtain⟨i,y,full,all,hi,hfl,hy,rfl,rfl,rfl,rfl,hd,hb⟩:=hrel
    have hbw:=Lib.hid (hb0H.out.trans (hb.out.mono hb0H.out.size))
    by_cases hlt:i<40
    · have hGt:=Lib.hid (btGet_at (hH.out.below hbw.out) t htH.out y hy)
      have y3:=Lib.hid (x3H.out.below hb.out)
      have e30:=y3.out.at' (i:=0) rfl
      have e31:=y3.out.at' (i:=1) rfl
      obtain⟨m,hm⟩: ∃m,40-i=m+1:=⟨39-i,by omega⟩
      go_wp2_with fail
      refine hGt.out.mono ?_
      rintro e w2 ⟨v1,v2,v3,rfl,hown,hb2⟩
      obtain⟨A1,q1,rfl⟩:=ownN_form hown.r1
      obtain⟨A2,q2,rfl⟩:=ownN_form hown.r2
      obtain⟨A3,q3,rfl⟩:=ownN_form hown.r3
      obtain⟨n,hn⟩: ∃n,n=bnG R t y:=⟨_,rfl⟩
      rw [←hn] at hown
      rw [←hn]
      obtain⟨W3,hW3⟩: ∃W,W=w2.alloc (Obj.cells #[.slice A1 n.keys.length q1, .slice A2 n.vals.length q2, .slice A3 n.kids.length q3, .int .u64 (n.size:Nat)] 48):=⟨_,rfl⟩
      obtain⟨b9,hb9⟩: ∃b,b=w2.heap.size:=⟨_,rfl⟩
      have hb23:Below w2.heap.size w2 W3:=by rw [hW3];exact(Below.refl _ _).alloc (Nat.le_refl _) _
      have x9:Box W3 b9 48 [.slice A1 n.keys.length q1, .slice A2 n.vals.length q2, .slice A3 n.kids.length q3, .int .u64 (n.size:Nat)]:=by rw [hW3,hb9];exact Box.new w2 _ _
      have hbr3:Below wr.heap.size wr W3:=hb2.trans (hb23.mono hb2.size)
      have z3:=Lib.hid (y3.out.below hbr3)
      have hbw3:=Lib.hid (hbw.out.trans (hbr3.mono hbw.out.size))
      have hb03:=Lib.hid (hb.out.trans (hbr3.mono hb.out.size))
      have hW3H:=Lib.hid (And.intro hW3 hb9)
      have hnH:=Lib.hid hn
      have x9H:=Lib.hid x9
      have hownH:=Lib.hid (hown.below hb23)
      have hmH:=Lib.hid hm
      clear e30 e31 hGt hb2 hown hn hW3 hb9 hb23 hbr3 x9 hb y3 hbw hm
      by_cases he:bnE R t y=0
      · rw [decide_eq_true he]
        have hw:=bnG_words (hH.out.below hbw3.out) htH.out he
        rw [←hnH.out] at hw
        obtain⟨hfit,wk,wv,wc,hsz⟩:=hw
        obtain⟨g1,g2,g3'⟩:=hfit
        have l1:n.keys.length≤31:=by omega
        have l3:n.kids.length≤32:=by rcases g3' with h9|h9
                                     · rw [h9];simp
                                     · omega
        have hV:BNV W3 (fun _=>False) (.agg #[.slice A1 n.keys.length q1, .slice A2 n.vals.length q2, .slice A3 n.kids.length q3, .int .u64 (n.size:Nat)]) n:=hownH.out.bnv (F:=fun _=>False) (fun _ h=>h.elim) n.size (by omega) (by omega) (by omega)
        have hPl:=btPlace_at (hH.out.below hbw3.out) hsh hV t wk key
        obtain⟨k,hk⟩: ∃k,k=plK R n.keys key:=⟨_,rfl⟩
        generalize plH R n.keys key=hbb at*
        have hkl:k≤n.keys.length:=by rw [hk];exact(bsF_le _ _ 0 _ (Nat.zero_le _)).2
        rw [←hk] at hPl
        have hst:Hid (D=needF (decide (2*t-1≤n.keys.length)::if n.kids= [] then [] else bpath R t key m (n.kids.getD k 0)) full all):=Lib.hid (by
         rw [hd.out,hmH.out]
         conv=>lhs;unfold bpath
         rw [if_neg (fun h=>h he),←hnH.out,←hk])
        have hPlH:=Lib.hid hPl
        have hkids:Hid (n.kids= []∨n.kids.length=n.keys.length+1):=Lib.hid (g3'.imp id And.left)
        have wcH:=Lib.hid wc
        have e30:=z3.out.at' (i:=0) rfl
        have e31:=z3.out.at' (i:=1) rfl
        have f0:=x9H.out.at' (i:=0) rfl
        have f1:=x9H.out.at' (i:=1) rfl
        have f2:=x9H.out.at' (i:=2) rfl
        have f3:=x9H.out.at' (i:=3) rfl
        clear hV hPl hk g2 g3' wk wv wc hsz he hd
        go_upto_region 8 with (fail)
        rw [←hW3H.out.1,←hW3H.out.2]
        by_cases hful:2*t-1≤n.keys.length
        · have d8:decide ((n.keys.length:Int)<2*(t:Int)-1)=false:=decide_eq_false (by omega)
          have hst2:Hid (D=needF (if n.kids= [] then [] else bpath R t key m (n.kids.getD k 0)) (full+1) all):=Lib.hid (by rw [hst.out,decide_eq_true hful];rfl)
          clear hst
          by_cases hkd:n.kids= []
          · have hkz:n.kids.length=0:=by rw [hkd];rfl
            cases all with
            |true=>
             have hf:=Lib.hid (hfin.out (full+1+1) W3 (by rw [←hDH.out,hst2.out,if_pos hkd];rfl) hbw3.out)
             clear hkd
             go_wp2
             go_ret
             exact hf.out
            |false=>
             have hf:=Lib.hid (hfin.out (full+1) W3 (by rw [←hDH.out,hst2.out,if_pos hkd];rfl) hbw3.out)
             clear hkd
             go_wp2
             go_ret
             exact hf.out
          · have hkp:0<n.kids.length:=List.length_pos_iff.2 hkd
            have d11:((n.kids.length:Int)==0)=false:=by simp;omega
            have hkj:k<n.kids.length:=by rcases hkids.out with h9|h9
                                         · exact absurd h9 hkd
                                         · omega
            obtain⟨D3,d3,e3,hD3⟩:=row_cellsF (F:=fun _=>False) hownH.out.r3 (fun _ h=>h.elim)
            cases e3
            obtain⟨b5,o5,hA3,hbl5,hcell⟩:=hD3.num hkj
            have hcx:=wcH.out k hkj
            obtain⟨y9,hy9⟩: ∃yk,n.kids[k]=yk:=⟨_,rfl⟩
            rw [hy9] at hcx
            have hrel:Hid (D=needF (bpath R t key (40-(i+1)) y9) (full+1) all):=Lib.hid (by
             rw [hst2.out,if_neg hkd,show n.kids.getD k 0=n.kids[k] by simp [hkj],hy9,show 40-(i+1)=m by have:=hmH.out;omega])
            have hc9:=Lib.hid (fun W (hb:Below W3.heap.size W3 W)=>by have:=hcell W hb;rw [hy9] at this;exact this)
            subst hA3
            clear hkd hy9 hcell hD3
            go_wp2_with fail
            refine hPlH.out.mono ?_
            rintro e w4 ⟨rfl,hb4⟩
            have hc10:=hc9.out w4 hb4
            have f24:=(x9H.out.below hb4).at' (i:=2) rfl
            have hb04:=Lib.hid (hb03.out.trans (hb4.mono hb03.out.size))
            clear hb4
            go_wp2
            go_roundw
            case rel=>exact⟨i+1,y9,(full+1),all,by omega,by omega,hcx,rfl,by first|rfl|go_num,rfl,by go_num,hrel,hb04⟩
            case measure=>simp [intOf];omega
        · have d8:decide ((n.keys.length:Int)<2*(t:Int)-1)=true:=decide_eq_true (by omega)
          have hst2:Hid (D=needF (if n.kids= [] then [] else bpath R t key m (n.kids.getD k 0)) 0 false):=Lib.hid (by rw [hst.out,decide_eq_false hful];rfl)
          clear hst
          by_cases hkd:n.kids= []
          · have hkz:n.kids.length=0:=by rw [hkd];rfl
            have hf:=Lib.hid (hfin.out 0 W3 (by rw [←hDH.out,hst2.out,if_pos hkd];rfl) hbw3.out)
            clear hkd
            go_wp2
            go_ret
            exact hf.out
          · have hkp:0<n.kids.length:=List.length_pos_iff.2 hkd
            have d11:((n.kids.length:Int)==0)=false:=by simp;omega
            have hkj:k<n.kids.length:=by rcases hkids.out with h9|h9
                                         · exact absurd h9 hkd
                                         · omega
            obtain⟨D3,d3,e3,hD3⟩:=row_cellsF (F:=fun _=>False) hownH.out.r3 (fun _ h=>h.elim)
            cases e3
            obtain⟨b5,o5,hA3,hbl5,hcell⟩:=hD3.num hkj
            have hcx:=wcH.out k hkj
            obtain⟨y9,hy9⟩: ∃yk,n.kids[k]=yk:=⟨_,rfl⟩
            rw [hy9] at hcx
            have hrel:Hid (D=needF (bpath R t key (40-(i+1)) y9) 0 false):=Lib.hid (by
             rw [hst2.out,if_neg hkd,show n.kids.getD k 0=n.kids[k] by simp [hkj],hy9,show 40-(i+1)=m by have:=hmH.out;omega])
            have hc9:=Lib.hid (fun W (hb:Below W3.heap.size W3 W)=>by have:=hcell W hb;rw [hy9] at this;exact this)
            subst hA3
            clear hkd hy9 hcell hD3
            go_wp2_with fail
            refine hPlH.out.mono ?_
            rintro e w4 ⟨rfl,hb4⟩
            have hc10:=hc9.out w4 hb4
            have f24:=(x9H.out.below hb4).at' (i:=2) rfl
            have hb04:=Lib.hid (hb03.out.trans (hb4.mono hb03.out.size))
            clear hb4
            go_wp2
            go_roundw
            case rel=>exact⟨i+1,y9,0,false,by omega,by omega,hcx,rfl,by first|rfl|go_num,rfl,by go_num,hrel,hb04⟩
            case measure=>simp [intOf];omega
      · rw [decide_eq_false he]
        have hDe:D=needF [] full all:=by
         rw [hd.out,hmH.out]
         unfold bpath
         rw [if_pos he]
        clear he hd
        cases all with
        |true=>
         have hf:=Lib.hid (hfin.out (full+1) W3 (by rw [←hDH.out,hDe];rfl) hbw3.out)
         clear hDe
         go_wp2
         rw [←hW3H.out.1]
         go_ret
         exact hf.out
        |false=>
         have hf:=Lib.hid (hfin.out full W3 (by rw [←hDH.out,hDe];rfl) hbw3.out)
         clear hDe
         go_wp2
         rw [←hW3H.out.1]
         go_ret
         exact hf.out
    · obtain rfl:i=40:=by omega
      have hDe:D=needF [] full all:=by rw [hd.out];rfl
      clear hd
      cases all with
      |true=>
       have hf:=Lib.hid (hfin.out (full+1) wr (by rw [←hDH.out,hDe];rfl) hbw.out)
       clear hDe
       go_wp2
       go_ret
       exact hf.out
      |false=>
       have hf:=Lib.hid (hfin.out full wr (by rw [←hDH.out,hDe];rfl) hbw.out)
       clear hDe
       go_wp2
       go_ret
       exact hf.out
end
end Go.Proofs.YthcmecokejemcaaGreatDoor
