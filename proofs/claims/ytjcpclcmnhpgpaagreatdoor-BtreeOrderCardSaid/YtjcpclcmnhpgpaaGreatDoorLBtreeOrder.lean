/-
  The seat's own texts, what BtreeOrder wants besides: Parted, Or16, Laid, Open, OpenB.
-/
import Derived.Test.YtjcpclcmnhpgpaaGreatDoorHMxh
import Derived.Test.YtjcpclcmnhpgpaaGreatDoorRows
import Derived.ProofKit
import Derived.LaidMore
import Derived.OpenShut
import Derived.ShutString
import Derived.ChangeOld
import Derived.Stop.Joined
import Derived.Deep.Slices
import Derived.Deep.Fields
import Derived.ChangeSame
import Derived.Deep.SlicePairs
import Derived.ChangeSlices
import Derived.SizedLaws
set_option linter.unusedSimpArgs false
set_option linter.unusedVariables false
set_option maxHeartbeats 8000000
namespace Go.Proofs.YtjcpclcmnhpgpaaGreatDoor
open Go.RowKit Go.Shelf
theorem rankL_allP{k:ByteArray}: ∀{l:List Pr},(∀p∈l,Tx.cmp p.1 k<0)→rankL l k=l.length
 | [],_=>rfl
 |p::l,h=>by
  rw [rankL_cons,if_pos (h p (by simp)),rankL_allP (fun q hq=>h q (by simp [hq]))]
  rfl
structure Parted(l:List Pr)(k:ByteArray)(a b c:List Pr):Prop where
 app:a++(b++c)=l
 low: ∀p∈a,Tx.cmp p.1 k<0
 ky: ∀p∈b,p.1=k
 one:b.length≤1
 high: ∀p∈c,Tx.cmp k p.1<0
theorem Parted.rank{l a b c:List Pr}{k:ByteArray}(h:Parted l k a b c):rankL l k=a.length:=by
 rw [←h.app,rankL_append,rankL_allP h.low,rankL_none]
 · rfl
 · intro p hp
   rcases List.mem_append.1 hp with h1|h1
   · rw [h.ky p h1,(cmp_zero.2 rfl:Tx.cmp k k=0)];omega
   · have h2:=h.high p h1
     have h3:=cmp_swap p.1 k
     omega
theorem Parted.at' {l a b c:List Pr}{k:ByteArray}(h:Parted l k a b c):l[rankL l k]? =(b++c)[0]? :=by
 rw [h.rank,←h.app,List.getElem?_append_right (Nat.le_refl _),Nat.sub_self]
theorem Parted.has{l a b c:List Pr}{k:ByteArray}(h:Parted l k a b c):(l[rankL l k]?).map (·.1)=some k↔b.length=1:=by
 rw [h.at']
 have h1:=h.one
 constructor
 · intro hk
   cases b with
   |cons p b=>simp at h1;simp [h1]
   |nil=>
    cases c with
    |nil=>simp at hk
    |cons p c=>
     simp at hk
     have:=h.high p (by simp)
     rw [hk,(cmp_zero.2 rfl:Tx.cmp k k=0)] at this
     omega
 · intro hb
   cases b with
   |nil=>simp at hb
   |cons p b=>
    have:=h.ky p (by simp)
    simp [this]
theorem Parted.put{l a b c:List Pr}{k v:ByteArray}(h:Parted l k a b c):putL l (k,v)=a++(k,v)::c:=by
 unfold putL
 have hr:=h.rank
 have hh:=h.has
 have h1:=h.one
 by_cases hb:b.length=1
 · rw [if_pos (hh.2 hb),hr,←h.app,List.take_left,←List.append_assoc,show a.length+1=(a++b).length by rw [List.length_append,hb],List.drop_left]
 · rw [if_neg (fun e=>hb (hh.1 e)),hr,←h.app,List.take_left,List.drop_left]
   have:b= []:=List.eq_nil_of_length_eq_zero (by omega)
   rw [this]
   rfl
theorem Parted.find{l a b c:List Pr}{k:ByteArray}(h:Parted l k a b c):findL l k=if b.length=1 then (a.length:Int) else-1:=by
 unfold findL
 by_cases hb:b.length=1
 · rw [if_pos (h.has.2 hb),if_pos hb,h.rank]
 · rw [if_neg (fun e=>hb (h.has.1 e)),if_neg hb]
def sel(m:List Pr)(d:List Bool):List Pr:=((m.zip d).filter (·.2)).map (·.1)
theorem sel_app{m1 m2:List Pr}{d1 d2:List Bool}(h:m1.length=d1.length):sel (m1++m2) (d1++d2)=sel m1 d1++sel m2 d2:=by
 unfold sel
 rw [List.zip_append h,List.filter_append,List.map_append]
theorem sel_cons(p:Pr)(b:Bool)(m:List Pr)(d:List Bool):sel (p::m) (b::d)=if b then p::sel m d else sel m d:=by
 cases b<;>simp [sel]
theorem sel_sub: ∀(m:List Pr) (d:List Bool),(sel m d).Sublist m
 | [],d=>by simp [sel]
 |p::m,[]=>by simp [sel]
 |p::m,b::d=>by
  rw [sel_cons]
  cases b
  · exact(sel_sub m d).cons p
  · exact(sel_sub m d).cons_cons p
theorem sel_none(m:List Pr):sel m (List.replicate m.length false)= []:=by
 induction m with
 |nil=>rfl
 |cons p m ih=>rw [List.length_cons,List.replicate_succ,sel_cons];simpa using ih
theorem sel_all: ∀(m:List Pr) (d:List Bool),d.length=m.length→(∀j,j<m.length→d[j]? =some true)→sel m d=m
 | [],d,_,_=>by simp [sel]
 |p::m,[],h,_=>by simp at h
 |p::m,b::d,h,e=>by
  have h0:=e 0 (by simp)
  simp only [List.getElem?_cons_zero,Option.some.injEq] at h0
  subst h0
  rw [sel_cons,if_pos rfl,sel_all m d (by simpa using h) (fun j hj=>by simpa using e (j+1) (by simpa using hj))]
theorem sel_at{m:List Pr}{d:List Bool}(hd:d.length=m.length){k:Nat}(hk:k<m.length){b:Bool}(h:d[k]? =some b):
 sel m d=sel (m.take k) (d.take k)++((if b then [m[k]] else [])++sel (m.drop (k+1)) (d.drop (k+1))):=by
 have hk' :k<d.length:=by omega
 have e1:m=m.take k++(m[k]::m.drop (k+1)):=by rw [←List.drop_eq_getElem_cons hk,List.take_append_drop]
 have hb:d[k]=b:=by rw [List.getElem?_eq_getElem hk'] at h;exact Option.some.inj h
 have e2:d=d.take k++(b::d.drop (k+1)):=by rw [←hb,←List.drop_eq_getElem_cons hk',List.take_append_drop]
 have hl:(m.take k).length=(d.take k).length:=by rw [List.length_take,List.length_take];omega
 conv=>lhs;rw [e1,e2]
 rw [sel_app hl,sel_cons]
 cases b<;>simp
theorem sel_parted{m:List Pr}(hr:Rising m){d:List Bool}(hd:d.length=m.length){k:Nat}(hk:k<m.length)(h:d[k]? =some false):
 Parted (sel m d) m[k].1 (sel (m.take k) (d.take k)) [] (sel (m.drop (k+1)) (d.drop (k+1))):=by
 have hr' :Rising (m.take k++(m[k]::m.drop (k+1))):=by rw [←List.drop_eq_getElem_cons hk,List.take_append_drop];exact hr
 obtain⟨h1,h2,h3⟩:=List.pairwise_append.1 hr'
 refine⟨by rw [sel_at hd hk h];rfl,fun p hp=> ?_,(fun p hp=>by cases hp),by simp,fun p hp=> ?_⟩
 · exact h3 p ((sel_sub _ _).subset hp) m[k] List.mem_cons_self
 · exact(List.pairwise_cons.1 h2).1 p ((sel_sub _ _).subset hp)
theorem sel_put{m:List Pr}(hr:Rising m){d:List Bool}(hd:d.length=m.length){k:Nat}(hk:k<m.length)(h:d[k]? =some false):
 putL (sel m d) m[k]=sel m (d.set k true)∧ ¬0≤findL (sel m d) m[k].1∧(sel m (d.set k true)).length=(sel m d).length+1:=by
 have hp:=sel_parted hr hd hk h
 have hk' :k<d.length:=by omega
 have hs:(d.set k true)[k]? =some true:=by rw [List.getElem?_set_self hk']
 have e1:=sel_at (by rw [List.length_set];exact hd) hk hs
 have t1:(d.set k true).take k=d.take k:=by
  refine List.ext_getElem? fun i=> ?_
  simp only [List.getElem?_take]
  split
  · rw [List.getElem?_set_ne (by omega)]
  · rfl
 have t2:(d.set k true).drop (k+1)=d.drop (k+1):=by
  refine List.ext_getElem? fun i=> ?_
  simp only [List.getElem?_drop]
  rw [List.getElem?_set_ne (by omega)]
 rw [t1,t2] at e1
 have e2:putL (sel m d) m[k]=sel (m.take k) (d.take k)++m[k]::sel (m.drop (k+1)) (d.drop (k+1)):=hp.put (v:=m[k].2)
 refine⟨?_, ?_, ?_⟩
 · rw [e2,e1];rfl
 · rw [hp.find];simp
 · rw [e1,sel_at hd hk h];simp;omega
theorem sel_len(m:List Pr)(d:List Bool):(sel m d).length≤m.length:=(sel_sub m d).length_le
theorem Bt.At.head{R:Nat→Option (List Nat)}{t:Nat}: ∀{a lo:Nat} {s:Sb},Bt.At R t a lo s→ ∃r,s.ns=s.h::r
 |0,_,_,h=>⟨[],h.1⟩
 |_+1,_,_,h=>by
  obtain⟨c,l,h1,h2,_⟩:=h
  exact⟨_,h2⟩
theorem Bt.Tree.head{R:Nat→Option (List Nat)}{t root:Nat}{its:List It}{ns:List Nat}{hg:Nat}(h:Bt.Tree R t root its ns hg):(root=0∧ns= [])∨ ∃r,ns=root::r:=by
 rcases h with ⟨h1,_,h2,_⟩|⟨a,_,h1⟩
 · exact .inl ⟨h1,h2⟩
 · exact .inr h1.head
theorem BtIn.put{w:World}{s:Nat}{F:Nat→Prop}{R:Nat→Option (List Nat)}{H:List Nat}{P q most last G t root:Nat}{its:List It}{ns:List Nat}{hg m:Nat}(h:BtIn w s F R H P q most last G t root its ns hg m){b j:Nat}{v:Value}(hb: ¬F b)(hs:s≠b)(hp: ∀p,w.cell? ⟨b,0,none⟩≠some (.pointer p))(ht:1≠b):BtIn (w.setCell ⟨b,j,none⟩ v) s F R H P q most last G t root its ns hg m:=
 { h with st:=h.st.kb (kb_one w b j v) (fun k e hF=>hb (e▸hF)) hs (fun k e p=>by rw [e];exact hp p) ht }
set_option maxRecDepth 100000 in
theorem order16_0{w:World}(hT:Tab w)(t:Int)(l:List Pr)(A:Option Addr)(c:Nat)(zs:List Int)(Z:Option Addr)(cz:Nat)(h:ILaw w A l)(hzl:zs.length≤17592186043904)(hg:t<2∨16<t∨80<l.length∨longL l=true∨200<zs.length):
 Calls Tryz.prog 4 #[.int .i64 t, .slice A l.length c, .slice Z zs.length cz] w (TrueB w):=by
 have hA:=Lib.hid (awake16_at hT)
 have hL:=refLong_at (c:=c) h.1.prs h.2.2 h.2.1
 have hLH:=Lib.hid hL
 have z1:=h.2.2
 clear hT h hL
 unfold TrueB
 by_cases q1:t<2
 · have d1:decide (t<2)=true:=decide_eq_true q1
   clear hg
   go_enter Tryz.func4,Tryz.ntmps4
   go_wp2_with fail
   refine hA.out.mono ?_
   rintro e w9 ⟨rfl,hb9⟩
   have hb9H:=Lib.hid hb9
   clear hb9
   go_wp2
   go_ret
   exact⟨rfl,hb9H.out⟩
 · have d1:decide (t<2)=false:=decide_eq_false q1
   by_cases q2:16<t
   · have d2:decide (16<t)=true:=decide_eq_true q2
     clear hg
     go_enter Tryz.func4,Tryz.ntmps4
     go_wp2_with fail
     refine hA.out.mono ?_
     rintro e w9 ⟨rfl,hb9⟩
     have hb9H:=Lib.hid hb9
     clear hb9
     go_wp2
     go_ret
     exact⟨rfl,hb9H.out⟩
   · have d2:decide (16<t)=false:=decide_eq_false q2
     by_cases q3:(80:Int)<(l.length:Int)
     · have d3:decide ((80:Int)<(l.length:Int))=true:=decide_eq_true q3
       clear hg
       go_enter Tryz.func4,Tryz.ntmps4
       go_wp2_with fail
       refine hA.out.mono ?_
       rintro e w9 ⟨rfl,hb9⟩
       have hb9H:=Lib.hid hb9
       clear hb9
       go_wp2
       go_ret
       exact⟨rfl,hb9H.out⟩
     · have d3:decide ((80:Int)<(l.length:Int))=false:=decide_eq_false q3
       by_cases q4:longL l=true
       · rw [q4] at hLH
         clear hg q4
         go_enter Tryz.func4,Tryz.ntmps4
         go_wp2_with fail
         refine hLH.out.mono ?_
         rintro e w0 ⟨rfl,rfl⟩
         go_wp2_with fail
         refine hA.out.mono ?_
         rintro e w9 ⟨rfl,hb9⟩
         have hb9H:=Lib.hid hb9
         clear hb9
         go_wp2
         go_ret
         exact⟨rfl,hb9H.out⟩
       · have q5:longL l=false:=by simpa using q4
         rw [q5] at hLH
         have q6:(200:Int)<(zs.length:Int):=by
          rcases hg with h9|h9|h9|h9|h9
          · omega
          · omega
          · omega
          · exact absurd h9 q4
          · omega
         have d6:decide ((200:Int)<(zs.length:Int))=true:=decide_eq_true q6
         clear hg q4 q5
         go_enter Tryz.func4,Tryz.ntmps4
         go_wp2_with fail
         refine hLH.out.mono ?_
         rintro e w0 ⟨rfl,rfl⟩
         go_wp2_with fail
         refine hA.out.mono ?_
         rintro e w9 ⟨rfl,hb9⟩
         have hb9H:=Lib.hid hb9
         clear hb9
         go_wp2
         go_ret
         exact⟨rfl,hb9H.out⟩
set_option maxRecDepth 100000 in
theorem order16_main{w:World}(hT:Tab w)(t:Nat)(ht:BN.Deg t)(l:List Pr)(A:Option Addr)(c:Nat)(zs:List Int)(Z:Option Addr)(cz:Nat)(h:ILaw w A l)(hz:IInts w Z zs)(g1:l.length≤80)(g3:longL l=false)(g4:zs.length≤200):
 Calls Tryz.prog 4 #[.int .i64 (t:Nat), .slice A l.length c, .slice Z zs.length cz] w (TrueB w):=by
 have hTH:=Lib.hid hT
 have hLH:=Lib.hid (refLong_at (c:=c) h.1.prs h.2.2 h.2.1)
 rw [g3] at hLH
 have t1:=ht.1
 have t2:=ht.2
 have d1:decide ((t:Int)<2)=false:=decide_eq_false (by omega)
 have d2:decide ((16:Int)<(t:Int))=false:=decide_eq_false (by omega)
 have d3:decide ((80:Int)<(l.length:Int))=false:=decide_eq_false (by omega)
 have d6:decide ((200:Int)<(zs.length:Int))=false:=decide_eq_false (by omega)
 have hN:=Lib.hid (snew_at hT 262144 1000 4294967295 (by omega) (by omega) (by omega) (by omega) (by omega))
 have hPA:=Lib.hid h.1.prs
 have hsz0:=Lib.hid h.2.1
 have hsl:=sortedL_len l
 have hrs:=Lib.hid (sortedL_rising l)
 have hszl:=sized_of g3
 have hszm:Hid (∀p∈sortedL l,p.1.size≤1000∧p.2.size≤1000):=Lib.hid (fun p hp=>hszl p (sortedL_mem hp))
 have hZ:=Lib.hid hz.1
 have hZb:=Lib.hid hz.2.2
 have htH:=Lib.hid ht
 clear hT h g3 hszl hz ht
 unfold TrueB
 go_enter Tryz.func4,Tryz.ntmps4
 go_wp2_with fail
 refine hLH.out.mono ?_
 rintro e w0 ⟨rfl,rfl⟩
 clear hLH
 go_wp2_with fail
 refine hN.out.mono ?_
 rintro e w1 ⟨s,F,rfl,hS,hs1,hF1,hb1⟩
 have hb1H:=Lib.hid hb1
 have hSt1:Hid (BtIn w1 s F (fun _=>none) [] 0 262144 1000 4294967295 0 t 0 [] [] 0 0):=Lib.hid (BtIn.start hS t)
 have hFw:Hid (∀b,F b→w.heap.size≤b):=Lib.hid hF1
 have hso:=Lib.hid (refSorted_at (c:=c) (hPA.out.below hb1) hb1.size (by omega) hsz0.out)
 have hFl1:=Lib.hid (fun b (hf:F b)=>hS.lt hf)
 have hsw1:Hid (s<w1.heap.size):=Lib.hid hS.s_lt
 clear hb1 hF1 hS hN
 go_wp2_with fail
 refine hso.out.mono ?_
 rintro e w3 ⟨v,rfl,hrow,hb3⟩
 obtain⟨A2,c2,rfl,hA2,hc2,hP2⟩:=own_pairs hrow rfl
 have hSt:=Lib.hid (hSt1.out.below hb3)
 have hFl:=Lib.hid (fun b (hf:F b)=>Nat.lt_of_lt_of_le (hFl1.out b hf) hb3.size)
 have hsw:Hid (s<w3.heap.size):=Lib.hid (Nat.lt_of_lt_of_le hsw1.out hb3.size)
 have hbw3:=Lib.hid (hb1H.out.trans (hb3.mono hb1H.out.size))
 have hcf:Hid (CellsF w3 F A2 (prsV (sortedL l))):=Lib.hid (by
  rcases hP2 with h9|⟨b,o,h1,h2,h3⟩
  · rw [h9];exact .inl rfl
  · exact .inr ⟨b,o,h1,h2,fun hf=>by
     have h4:=(own2_lt hrow (k:=b) (by rw [h1];rfl)).1
     have h5:=hFl1.out b hf
     omega,h3⟩)
 have htg:Hid (1<w.heap.size):=Lib.hid (tab_lt hTH.out)
 clear hrow hP2 hA2 hc2 hb3 hso hSt1 hFl1 hsw1
 generalize sortedL l=m at*
 have hm80:m.length≤80:=by omega
 have hmk:=mk_bool m.length (by omega)
 have hbx:Hid (Box (w3.alloc (.cells (Array.replicate m.length (Value.bool false)) 4)) w3.heap.size 4 ((List.replicate m.length false).map Value.bool)):=Lib.hid (box_bools _ _)
 have hba:=Lib.hid ((Below.refl w3.heap.size w3).alloc (Nat.le_refl _) (.cells (Array.replicate m.length (Value.bool false)) 4))
 have hSt2:=Lib.hid (hSt.out.below hba.out)
 go_wp2_with fail
 go_loopw [11,12] (fun rv iv wr=> ∃(i root cnt:Nat) (d:List Bool) (its:List It) (ns:List Nat) (hg:Nat) (F' :Nat→Prop) (R' :Nat→Option (List Nat)) (H' :List Nat),i≤zs.length+m.length∧iv= .int .i64 i∧rv= .int .u64 (root:Nat)∧cnt≤m.length∧Hid (d.length=m.length∧cnt=(sel m d).length)∧Hid (BtIn wr s F' R' H' (6*cnt+2*ns.length) 262144 1000 4294967295 (2*cnt+ns.length) t root its ns hg 0)∧Hid (Bt.prs its=sel m d)∧Hid (Turn w3 F wr F')∧Hid (¬F' w3.heap.size)∧Hid (Box wr w3.heap.size 4 (d.map Value.bool))∧Hid (∀j,j<m.length→zs.length+j<i→d[j]? =some true)) (fun _ iv _=>zs.length+m.length-(intOf iv).toNat)
 case atStart=>
  exact⟨0,0,0,List.replicate m.length false,[],[],0,F,(fun _=>none),[],by omega,rfl,rfl,by omega,Lib.hid ⟨by simp,by rw [sel_none];rfl⟩,by simpa using hSt2,Lib.hid (by rw [sel_none];rfl),Lib.hid (Turn.below hba.out),Lib.hid (fun hf=>by have:=hFl.out _ hf;omega),hbx,Lib.hid (fun j hj h0=>by omega)⟩
 case round=>
  obtain⟨i,root,cnt,d,its,ns,hg,F',R',H',hiz,rfl,rfl,hcm,hdl,hst,hpr,hT',hgF,hbx',hcov⟩:=hrel
  have hbw' :=Lib.hid (hbw3.out.trans (hT'.out.to_below hbw3.out.size hFw.out))
  by_cases cc1:(i:Int)<(zs.length:Int)+(m.length:Int)
  · have dc1:decide ((i:Int)<(zs.length:Int)+(m.length:Int))=true:=decide_eq_true cc1
    by_cases hm0:m.length=0
    · have cc3:(i:Int)<(zs.length:Int):=by omega
      have dc3:decide ((i:Int)<(zs.length:Int))=true:=decide_eq_true cc3
      have dc3n:decide (i<zs.length)=true:=decide_eq_true (by omega)
      have dm0:decide (0<(m.length:Int))=false:=decide_eq_false (by omega)
      have dm0n:decide (0<m.length)=false:=decide_eq_false (by omega)
      have dn:decide ((i:Int)-(zs.length:Int)<0)=true:=decide_eq_true (by omega)
      go_wp2
      go_roundw
      case rel=>exact⟨i+1,root,cnt,d,its,ns,hg,F',R',H',by omega,by go_num,rfl,hcm,hdl,hst,hpr,hT',hgF,hbx',Lib.hid (fun j hj h1=>by omega)⟩
      case measure=>simp [intOf];omega
    · have dm0:decide (0<(m.length:Int))=true:=decide_eq_true (by omega)
      have dm0n:decide (0<m.length)=true:=decide_eq_true (by omega)
      by_cases cc3:(i:Int)<(zs.length:Int)
      ·
       as_aux_lemma=>
       have dc3:decide ((i:Int)<(zs.length:Int))=true:=decide_eq_true cc3
       have dc3n:decide (i<zs.length)=true:=decide_eq_true (by omega)
       have hizl:i<zs.length:=by omega
       obtain⟨zb,zo,rfl,hzc⟩:=ints_off hZ.out hizl
       have q9:=hzc wr hbw'.out
       obtain⟨a,ha⟩: ∃a,zs[i]=a:=⟨_,rfl⟩
       have hab:=hZb.out _ (List.getElem_mem hizl)
       rw [ha] at q9 hab
       clear ha hzc
       obtain⟨kk,hkk,hkke,hk1,hk2⟩:=idx_any a m.length (by omega)
       have dg1:decide ((kk:Int)<0)=false:=decide_eq_false (by omega)
       have dg2:decide ((m.length:Int)≤(kk:Int))=false:=decide_eq_false (by omega)
       have dg3:decide (m.length≤kk)=false:=decide_eq_false (by omega)
       have hkd:kk<d.length:=by have:=hdl.out.1;omega
       obtain⟨b,hb⟩: ∃b,d[kk]? =some b:=⟨_,List.getElem?_eq_getElem hkd⟩
       have q5:wr.cell? ⟨w3.heap.size,kk,none⟩=some (.bool b):=hbx'.out.at' (by rw [List.getElem?_map,hb];rfl)
       have hbH:=Lib.hid hb
       clear hb hkd
       cases b with
       |true=>
        go_wp2
        go_roundw
        case rel=>exact⟨i+1,root,cnt,d,its,ns,hg,F',R',H',by omega,by go_num,rfl,hcm,hdl,hst,hpr,hT',hgF,hbx',Lib.hid (fun j hj h1=>by omega)⟩
        case measure=>simp [intOf];omega
       |false=>
        obtain⟨bb,oo,hAs,q1,q2⟩:=(hcf.out.turn hT'.out).pairs hkk
        obtain⟨hput,hfnd,hcnt⟩:=sel_put hrs.out hdl.out.1 hkk hbH.out
        have hzp:=hszm.out _ (List.getElem_mem hkk)
        obtain⟨p,hp⟩: ∃p,m[kk]=p:=⟨_,rfl⟩
        rw [hp] at hput hfnd hzp
        simp only [hp] at q1 q2
        have hcl:=sel_len m (d.set kk true)
        rw [hcnt] at hcl
        have hi0:its.length=cnt:=by rw [←Bt.prs_len,hpr.out,←hdl.out.2]
        have hI:=Lib.hid (item16_at hst.out p hzp.1 hzp.2)
        have hputH:=Lib.hid hput
        have hfndH:=Lib.hid hfnd
        have hcntH:=Lib.hid (And.intro hcnt (And.intro hcl hi0))
        subst hAs
        clear hput hfnd hp hcnt hzp hcl hi0
        go_wp2_with fail
        refine hI.out.mono ?_
        intro e w4 hR
        have hlen:=hst.out.len
        have hnsle:=hst.out.tr.ns_le htH.out
        have hhg:=hst.out.tr.hg_le htH.out (by have:=hcntH.out.2.2;omega)
        cases hR with
        |no hb hT hl hbad=>
         exfalso
         have h3:=hcntH.out
         have h4:=hdl.out.2
         omega
        | @ok _ it R3 F3 H3 hik hiv hb hi hnd hT h64 hl3 hold=>
          obtain⟨W4,hW4⟩: ∃W,W=w4.alloc (Obj.cells #[.int .u64 (it.kh:Nat), .int .u64 (it.vh:Nat)] 33):=⟨_,rfl⟩
          have hb34:Below w4.heap.size w4 W4:=by rw [hW4];exact(Below.refl _ w4).alloc (Nat.le_refl _) _
          have hb:=hb.below hb34
          have hIn:=hb.insert_at htH.out it hi (by omega) hnd (by have:=hcntH.out.2.2;omega) h64
          have hInH:=Lib.hid hIn
          have hT3:=Lib.hid (hT.trans (Turn.below hb34))
          have hbH3:=Lib.hid hb
          have hikH:=Lib.hid (And.intro hik hiv)
          have hnums:=Lib.hid (And.intro hlen (And.intro hnsle (And.intro hhg hl3)))
          obtain⟨kh,hkh⟩: ∃z,z=it.kh:=⟨_,rfl⟩
          obtain⟨vh,hvh⟩: ∃z,z=it.vh:=⟨_,rfl⟩
          rw [←hkh,←hvh] at hInH hW4 ⊢
          have hW4H:=Lib.hid hW4
          clear hW4 hb34 hI hb hT hIn hik hiv hnd hi h64 hold q1 q2 hkh hvh hlen hnsle hhg hl3
          go_wp2_with fail
          rw [←hW4H.out]
          refine hInH.out.mono ?_
          intro e w5 hR4
          have hitp:Hid (it.pr=p):=Lib.hid (by show(it.k,it.v)=p;rw [hikH.out.1,hikH.out.2])
          have hnone:Hid (Bt.findI its it.k=none):=Lib.hid (findI_none_of hst.out.ow.rise (by rw [hikH.out.1,hpr.out];have:=hfndH.out;omega))
          cases hR4 with
          | @here _ old R4 hf hb4 ho _ hT4=>
            exfalso
            rw [hnone.out] at hf
            cases hf
          |full hf hn he _ _ _=>
           exfalso
           have h1:=hnums.out
           have h6:=hcntH.out
           have h7:=hdl.out.2
           omega
          | @put _ now n R4 F4 H4 ns' hg' hf hl4 hn hb4 hT4=>
            obtain⟨W5,hW5⟩: ∃W,W=w5.alloc (Obj.cells #[.int .u64 0, .int .u64 0] 33):=⟨_,rfl⟩
            have hbA4:Below w5.heap.size w5 W5:=by rw [hW5];exact(Below.refl _ _).alloc (Nat.le_refl _) _
            have hst4' :=(hb4.more (P' :=6*(cnt+1)+2*ns'.length) (G' :=2*(cnt+1)+ns'.length) (by omega) (by omega)).below hbA4
            have hpr4:Hid (Bt.prs (Bt.putI its it)=sel m (d.set kk true)):=Lib.hid (by rw [Bt.putI_prs hst.out.ow.rise hf,hpr.out,hitp.out,hputH.out])
            have hT5:=(hT3.out.trans hT4).trans (Turn.below hbA4)
            have hbx5:=hbx'.out.turn hT5 hgF.out
            have hgF5:=hT5.not hbx'.out.lt hgF.out
            have q6:=hbx5.at' (i:=kk) (v:= .bool false) (by rw [List.getElem?_map,hbH.out];rfl)
            have q7:=hbx5.free kk
            have q8: ∀p,W5.cell? ⟨w3.heap.size,0,none⟩≠some (.pointer p):=fun p e=>by
             have h0:0<d.length:=by have:=hdl.out.1;omega
             rw [hbx5.at' (i:=0) (v:= .bool d[0]) (by rw [List.getElem?_map,List.getElem?_eq_getElem h0];rfl)] at e
             cases e
            have hst5:=Lib.hid (hst4'.put (j:=kk) (v:= .bool true) hgF5 (by have:=hsw.out;omega) q8 (by have:=htg.out;have:=hbw3.out.size;omega))
            have hbx6:=hbx5.set kk (.bool true)
            rw [←List.map_set] at hbx6
            have hT6:=Lib.hid ((hT'.out.trans hT5).put (j:=kk) (v:= .bool true) (Nat.le_refl _) (b:=w3.heap.size))
            have hbx6H:=Lib.hid hbx6
            have hgF5H:=Lib.hid hgF5
            have hW5H:=Lib.hid hW5
            rw [hW5] at q6 q7
            clear hb4 hst4' hT4 hInH hT5 hbx5 hbx6 hgF5 q8 q5 hW5 hbA4 hf
            go_wp2
            rw [←hW5H.out]
            go_roundw
            case rel=>exact⟨i+1,now,cnt+1,d.set kk true,_,ns',hg',F4,R4,H4,by omega,by go_num,rfl,by have:=hcntH.out.2.1;have:=hdl.out.2;omega,Lib.hid ⟨by rw [List.length_set];exact hdl.out.1,by rw [hcntH.out.1,←hdl.out.2]⟩,hst5,hpr4,hT6,hgF5H,hbx6H,Lib.hid (fun j hj h1=>by omega)⟩
            case measure=>simp [intOf];omega
      ·
       as_aux_lemma=>
       have dc3:decide ((i:Int)<(zs.length:Int))=false:=decide_eq_false cc3
       have dc3n:decide (i<zs.length)=false:=decide_eq_false (by omega)
       obtain⟨kk,hkke⟩: ∃kk:Nat,(i:Int)-(zs.length:Int)=(kk:Int):=⟨i-zs.length,by omega⟩
       have hkk:kk<m.length:=by omega
       have dg1:decide ((kk:Int)<0)=false:=decide_eq_false (by omega)
       have dg2:decide ((m.length:Int)≤(kk:Int))=false:=decide_eq_false (by omega)
       have dg3:decide (m.length≤kk)=false:=decide_eq_false (by omega)
       have hkd:kk<d.length:=by have:=hdl.out.1;omega
       obtain⟨b,hb⟩: ∃b,d[kk]? =some b:=⟨_,List.getElem?_eq_getElem hkd⟩
       have q5:wr.cell? ⟨w3.heap.size,kk,none⟩=some (.bool b):=hbx'.out.at' (by rw [List.getElem?_map,hb];rfl)
       have hbH:=Lib.hid hb
       clear hb hkd
       cases b with
       |true=>
        go_wp2
        go_roundw
        case rel=>exact⟨i+1,root,cnt,d,its,ns,hg,F',R',H',by omega,by go_num,rfl,hcm,hdl,hst,hpr,hT',hgF,hbx',Lib.hid (fun j hj h1=>(by
         by_cases e:zs.length+j<i
         · exact hcov.out j hj e
         · obtain rfl:j=kk:=by omega
           exact hbH.out))⟩
        case measure=>simp [intOf];omega
       |false=>
        obtain⟨bb,oo,hAs,q1,q2⟩:=(hcf.out.turn hT'.out).pairs hkk
        obtain⟨hput,hfnd,hcnt⟩:=sel_put hrs.out hdl.out.1 hkk hbH.out
        have hzp:=hszm.out _ (List.getElem_mem hkk)
        obtain⟨p,hp⟩: ∃p,m[kk]=p:=⟨_,rfl⟩
        rw [hp] at hput hfnd hzp
        simp only [hp] at q1 q2
        have hcl:=sel_len m (d.set kk true)
        rw [hcnt] at hcl
        have hi0:its.length=cnt:=by rw [←Bt.prs_len,hpr.out,←hdl.out.2]
        have hI:=Lib.hid (item16_at hst.out p hzp.1 hzp.2)
        have hputH:=Lib.hid hput
        have hfndH:=Lib.hid hfnd
        have hcntH:=Lib.hid (And.intro hcnt (And.intro hcl hi0))
        subst hAs
        clear hput hfnd hp hcnt hzp hcl hi0
        go_wp2_with fail
        refine hI.out.mono ?_
        intro e w4 hR
        have hlen:=hst.out.len
        have hnsle:=hst.out.tr.ns_le htH.out
        have hhg:=hst.out.tr.hg_le htH.out (by have:=hcntH.out.2.2;omega)
        cases hR with
        |no hb hT hl hbad=>
         exfalso
         have h3:=hcntH.out
         have h4:=hdl.out.2
         omega
        | @ok _ it R3 F3 H3 hik hiv hb hi hnd hT h64 hl3 hold=>
          obtain⟨W4,hW4⟩: ∃W,W=w4.alloc (Obj.cells #[.int .u64 (it.kh:Nat), .int .u64 (it.vh:Nat)] 33):=⟨_,rfl⟩
          have hb34:Below w4.heap.size w4 W4:=by rw [hW4];exact(Below.refl _ w4).alloc (Nat.le_refl _) _
          have hb:=hb.below hb34
          have hIn:=hb.insert_at htH.out it hi (by omega) hnd (by have:=hcntH.out.2.2;omega) h64
          have hInH:=Lib.hid hIn
          have hT3:=Lib.hid (hT.trans (Turn.below hb34))
          have hbH3:=Lib.hid hb
          have hikH:=Lib.hid (And.intro hik hiv)
          have hnums:=Lib.hid (And.intro hlen (And.intro hnsle (And.intro hhg hl3)))
          obtain⟨kh,hkh⟩: ∃z,z=it.kh:=⟨_,rfl⟩
          obtain⟨vh,hvh⟩: ∃z,z=it.vh:=⟨_,rfl⟩
          rw [←hkh,←hvh] at hInH hW4 ⊢
          have hW4H:=Lib.hid hW4
          clear hW4 hb34 hI hb hT hIn hik hiv hnd hi h64 hold q1 q2 hkh hvh hlen hnsle hhg hl3
          go_wp2_with fail
          rw [←hW4H.out]
          refine hInH.out.mono ?_
          intro e w5 hR4
          have hitp:Hid (it.pr=p):=Lib.hid (by show(it.k,it.v)=p;rw [hikH.out.1,hikH.out.2])
          have hnone:Hid (Bt.findI its it.k=none):=Lib.hid (findI_none_of hst.out.ow.rise (by rw [hikH.out.1,hpr.out];have:=hfndH.out;omega))
          cases hR4 with
          | @here _ old R4 hf hb4 ho _ hT4=>
            exfalso
            rw [hnone.out] at hf
            cases hf
          |full hf hn he _ _ _=>
           exfalso
           have h1:=hnums.out
           have h6:=hcntH.out
           have h7:=hdl.out.2
           omega
          | @put _ now n R4 F4 H4 ns' hg' hf hl4 hn hb4 hT4=>
            obtain⟨W5,hW5⟩: ∃W,W=w5.alloc (Obj.cells #[.int .u64 0, .int .u64 0] 33):=⟨_,rfl⟩
            have hbA4:Below w5.heap.size w5 W5:=by rw [hW5];exact(Below.refl _ _).alloc (Nat.le_refl _) _
            have hst4' :=(hb4.more (P' :=6*(cnt+1)+2*ns'.length) (G' :=2*(cnt+1)+ns'.length) (by omega) (by omega)).below hbA4
            have hpr4:Hid (Bt.prs (Bt.putI its it)=sel m (d.set kk true)):=Lib.hid (by rw [Bt.putI_prs hst.out.ow.rise hf,hpr.out,hitp.out,hputH.out])
            have hT5:=(hT3.out.trans hT4).trans (Turn.below hbA4)
            have hbx5:=hbx'.out.turn hT5 hgF.out
            have hgF5:=hT5.not hbx'.out.lt hgF.out
            have q6:=hbx5.at' (i:=kk) (v:= .bool false) (by rw [List.getElem?_map,hbH.out];rfl)
            have q7:=hbx5.free kk
            have q8: ∀p,W5.cell? ⟨w3.heap.size,0,none⟩≠some (.pointer p):=fun p e=>by
             have h0:0<d.length:=by have:=hdl.out.1;omega
             rw [hbx5.at' (i:=0) (v:= .bool d[0]) (by rw [List.getElem?_map,List.getElem?_eq_getElem h0];rfl)] at e
             cases e
            have hst5:=Lib.hid (hst4'.put (j:=kk) (v:= .bool true) hgF5 (by have:=hsw.out;omega) q8 (by have:=htg.out;have:=hbw3.out.size;omega))
            have hbx6:=hbx5.set kk (.bool true)
            rw [←List.map_set] at hbx6
            have hT6:=Lib.hid ((hT'.out.trans hT5).put (j:=kk) (v:= .bool true) (Nat.le_refl _) (b:=w3.heap.size))
            have hbx6H:=Lib.hid hbx6
            have hgF5H:=Lib.hid hgF5
            have hW5H:=Lib.hid hW5
            rw [hW5] at q6 q7
            clear hb4 hst4' hT4 hInH hT5 hbx5 hbx6 hgF5 q8 q5 hW5 hbA4 hf
            go_wp2
            rw [←hW5H.out]
            go_roundw
            case rel=>exact⟨i+1,now,cnt+1,d.set kk true,_,ns',hg',F4,R4,H4,by omega,by go_num,rfl,by have:=hcntH.out.2.1;have:=hdl.out.2;omega,Lib.hid ⟨by rw [List.length_set];exact hdl.out.1,by rw [hcntH.out.1,←hdl.out.2]⟩,hst5,hpr4,hT6,hgF5H,hbx6H,Lib.hid (fun j hj h1=>(by
             by_cases e:j=kk
             · subst e;exact List.getElem?_set_self (by have:=hdl.out.1;omega)
             · rw [List.getElem?_set_ne (fun h=>e h.symm)];exact hcov.out j hj (by omega)))⟩
            case measure=>simp [intOf];omega
  ·
   as_aux_lemma=>
   have dc1:decide ((i:Int)<(zs.length:Int)+(m.length:Int))=false:=decide_eq_false cc1
   have hsel:=sel_all m d hdl.out.1 (fun j hj=>hcov.out j hj (by omega))
   have hprm:Bt.prs its=m:=by rw [hpr.out,hsel]
   have hil:its.length=m.length:=by rw [←hprm,Bt.prs_len]
   have hNd:=Lib.hid (hst.out.nodes_at htH.out (by omega))
   have hIs:=Lib.hid (fun W (hb:Below wr.heap.size wr W)=>is16_at (c:=c2) htH.out (hst.out.below hb) (by omega) hprm ((hcf.out.turn hT'.out).turn (Turn.below hb)))
   have hAw:=Lib.hid (fun W (hb:Below w.heap.size w W)=>awake16_at (hTH.out.below hb (tab_lt hTH.out)))
   have hhd:=Lib.hid hst.out.tr.head
   have hz0:Hid (R' 0=none):=Lib.hid hst.out.z
   have hne0:Hid (∀z∈ns,R' z≠none):=Lib.hid (fun z hz=>hst.out.ne z (List.mem_append.2 (.inl hz)))
   have hrt:=hst.out.rt
   clear hsel hprm hst hpr hdl hcov hbx' hgF
   go_wp2_with fail
   refine hNd.out.mono ?_
   rintro e w4 ⟨v20,rfl,ho20,hb4⟩
   have hb4w:=Lib.hid (hbw'.out.trans (hb4.mono hbw'.out.size))
   have hI2:=Lib.hid (hIs.out w4 hb4)
   obtain⟨A20,c20,hv20,hcells⟩:=row_cellsF (F:=fun _=>False) ho20 (fun _ h=>h.elim)
   subst hv20
   rcases hhd.out with ⟨hr0,hn0⟩|⟨r,hnr⟩
   · subst hr0
     subst hn0
     clear hb4 ho20 hcells hhd hne0
     go_wp2_with fail
     refine hI2.out.mono ?_
     rintro e w5 ⟨rfl,hb5⟩
     have hb5w:=Lib.hid (hb4w.out.trans (hb5.mono hb4w.out.size))
     go_wp2_with fail
     refine(hAw.out w5 hb5w.out).mono ?_
     rintro e w6 ⟨rfl,hb6⟩
     have hb6w:=Lib.hid (hb5w.out.trans (hb6.mono hb5w.out.size))
     go_wp2
     go_ret
     exact⟨rfl,hb6w.out⟩
   · have hr0:root≠0:=fun h=>hne0.out root (by rw [hnr];simp) (by rw [h];exact hz0.out)
     have hl0:0<ns.length:=by rw [hnr];simp
     obtain⟨b20,o20,hA20,_,hc20⟩:=CellsF.num hcells hl0
     subst hA20
     have dr:((root:Int)==0)=false:=by simp;omega
     have dn0:((ns.length:Int)==0)=false:=by rw [beq_eq_false_iff_ne];omega
     have dn1: ¬ns= []:=fun h9=>by rw [h9] at hl0;simp at hl0
     have hg0:ns[0]=root:=by simp [hnr]
     have hq20:=Lib.hid (fun W (hb:Below w4.heap.size w4 W)=>hc20 W hb)
     rw [hg0] at hq20
     clear hb4 ho20 hcells hhd hne0 hc20 hnr hg0
     go_wp2_with fail
     refine hI2.out.mono ?_
     rintro e w5 ⟨rfl,hb5⟩
     have hb5w:=Lib.hid (hb4w.out.trans (hb5.mono hb4w.out.size))
     have q20:=hq20.out w5 hb5
     rw [Nat.add_zero] at q20
     clear hb5
     go_wp2_with fail
     refine(hAw.out w5 hb5w.out).mono ?_
     rintro e w6 ⟨rfl,hb6⟩
     have hb6w:=Lib.hid (hb5w.out.trans (hb6.mono hb5w.out.size))
     clear hb6 q20
     go_wp2
     go_ret
     exact⟨rfl,hb6w.out⟩
end Go.Proofs.YtjcpclcmnhpgpaaGreatDoor
namespace Go.Proofs.YtjcpclcmnhpgpaaGreatDoor
open Go.ChangeShapes Go.WideShapes Go.ChangeAt Go.WideMaps Go.WideElems Go.RowKit Go.Deep
theorem own:ownKnob Tryz.prog.godebug=none:=by kernel_rfl
theorem laidOut:laidOutB Tryz.prog=true:=by kernel_rfl
theorem gTab:Tryz.prog.globalNamed "math/bits.deBruijn64tab" =some 1:=by kernel_rfl
theorem tTab:(Tryz.prog.globals[1]?).map (·.type)=some 244:=by kernel_rfl
abbrev laidL:List (String × DataW Unit):= [("math/bits.deBruijn64tab",Rows.laid_math_bits_deBruijn64tab)]
theorem laid_list:(Rows.laid_math_bits_deBruijn64tab:DataW Unit)= .agg (Lib.deBruijn64tab.map fun n=> .lit (.int .u8 (n:Nat))):=rfl
theorem door_met(os:Os)(args:Array Value):laidMetH Tryz.prog laidL ((World.doorLaid Tryz.prog 400 os).forCall (fun _ _=>0) ⟨#[],args,[]⟩).memory:=
 laidMetH_of_parts3 (fuel:=8) (laidMet_of_run' 8 (by kernel_rfl) (by kernel_rfl)) (by kernel_rfl) (by kernel_rfl)
theorem of_laid{W:World}(h:laidMetH Tryz.prog laidL W):Tab W:=by
 rw [MakeChecks.laidMetH_plain _ _ _ (by kernel_rfl)] at h
 obtain⟨ps,⟨g0,t0,cs0,f0,p0,q0,hg0,ht0,hv0,hd0,_⟩,_⟩:=h
 obtain rfl:=Option.some.inj (gTab.symm.trans hg0)
 obtain rfl:=Option.some.inj (tTab.symm.trans ht0)
 obtain⟨xs,m1,rfl,hx1,hlen,hn,hel⟩:=DataW.trod_array Tryz.underlying244 hd0
 have c5:Tryz.prog.cellsOf 5=1:=by kernel_rfl
 simp only [Prod.mk.injEq] at hx1
 rw [laid_list] at hx1
 have hmap:xs.map (·.1)=Lib.deBruijn64tab.map fun n=>DataW.lit (Lit.int .u8 (n:Nat)):=by
  have:=hx1.1
  simp only [DataW.agg.injEq] at this
  exact this.symm
 intro j hj
 have hj64:j<64:=hj
 have hjx:j<xs.length:=by omega
 have h0:=hel j hj64
 rw [List.getElem?_eq_getElem hjx,c5,Nat.mul_one] at h0
 obtain⟨k,e1,e2,_⟩:=DataW.trod_int Tryz.underlying5 h0
 have h3:(xs.map (·.1))[j]? =some (.lit (.int .u8 (Lib.deBruijn64tab.getD j 0:Nat))):=by
  rw [hmap,List.getElem?_map,List.getElem?_eq_getElem hj]
  simp [List.getD_eq_getElem?_getD,List.getElem?_eq_getElem hj]
 rw [List.getElem?_map,List.getElem?_eq_getElem hjx,e2] at h3
 simp only [Option.map_some,Option.some.injEq,DataW.lit.injEq,Lit.int.injEq,true_and] at h3
 subst h3
 have hc:=World.var?_cell hg0 hv0 j
 rw [hc]
 have hd:cs0.toList[j]? =some (.int .u8 (Lib.deBruijn64tab.getD j 0:Nat)):=by
  have h5:((cs0.toList.drop j).take 1)[0]? =some (.int .u8 (Lib.deBruijn64tab.getD j 0:Nat)):=by rw [e1];rfl
  rw [List.getElem?_take,if_pos (by omega),List.getElem?_drop,Nat.add_zero] at h5
  exact h5
 simpa using hd
theorem int_bound{n:Int}(h:(Lit.int .i64 n).wf=true): -9223372036854775808≤n∧n≤9223372036854775807:=by
 simpa [Lit.wf,IntKind.min,IntKind.max,IntKind.signed,IntKind.bits] using h
theorem prsV_inv: ∀{l:List Pr} {j:Nat} {u:Value},(prsV l)[j]? =some u→ ∃(i:Nat) (hi:i<l.length),(j=i*2∧u= .string l[i].1)∨(j=i*2+1∧u= .string l[i].2)
 | [],j,u,h=>by simp [prsV] at h
 |p::l,0,u,h=>by simp [prsV] at h;exact⟨0,by simp, .inl ⟨rfl,h.symm⟩⟩
 |p::l,1,u,h=>by simp [prsV] at h;exact⟨0,by simp, .inr ⟨rfl,h.symm⟩⟩
 |p::l,j+2,u,h=>by
  obtain⟨i,hi,hh⟩:=prsV_inv (l:=l) (j:=j) (u:=u) (by simpa [prsV] using h)
  refine⟨i+1,by simpa using hi, ?_⟩
  rcases hh with ⟨h1,h2⟩|⟨h1,h2⟩
  · exact .inl ⟨by omega,h2⟩
  · exact .inr ⟨by omega,h2⟩
theorem addr_add(b o j:Nat):(⟨b,o,none⟩:Addr).add j=⟨b,o+j,none⟩:=by unfold Addr.add;split<;>simp_all
section
variable {H:Type} {enc:TypeId × Value→H} {w:World} {base:Nat} {held:Bool}
theorem open_prs{fuel:Nat}{cs:List Value}{x:DataW H × List MemPlace}(h:DataW.trod enc Tryz.prog w base (fun _=>true) held fuel 22 cs=some x): ∃A len cap l,cs= [.slice A len cap]∧len=l.length∧ILaw w A l:=by
 rcases open_slice_pairs Tryz.underlying22 Tryz.underlying37 (by kernel_rfl) rfl rfl (by kernel_rfl) (by kernel_rfl) h with ⟨hcs,_⟩|⟨a,len,cap,m,n,V0,V1,D0,D1,P0,P1,hcs,hb,hl,hm,hmm,_,hx⟩
 · exact⟨none,0,0,[],hcs,rfl, .inl rfl,fun p hp=>by simp at hp,by simp⟩
 · have hmc:m=cap:=by simpa using hmm
   subst hmc
   have hS: ∀i,∃p:Pr,i<m→V0 i= .string p.1∧V1 i= .string p.2∧p.1.size≤maxLen∧p.2.size≤maxLen:=fun i=>by
    by_cases hi:i<m
    · obtain⟨h1,h2,h3,h4⟩:=hx i hi
      obtain⟨s0,e0,_,z0⟩:=DataW.trod_string Tryz.underlying9 h3
      obtain⟨s1,e1,_,z1⟩:=DataW.trod_string Tryz.underlying9 h4
      exact⟨(s0,s1),fun _=>⟨by simpa using e0,by simpa using e1,z0,z1⟩⟩
    · exact⟨(⟨#[]⟩,⟨#[]⟩),fun hh=>absurd hh hi⟩
   obtain⟨f,hf⟩:=Classical.axiomOfChoice hS
   have hll:((List.range len).map f).length=len:=by simp
   unfold maxLen at hm
   refine⟨some a,len,m,(List.range len).map f,hcs,hll.symm, ?_, ?_,by rw [hll];omega⟩
   · by_cases h0:len=0
     · subst h0;exact .inl rfl
     · obtain⟨b,off,spot⟩:=a
       have hc0:=(hx 0 (by omega)).1
       have hspot:spot=none:=by simpa [Addr.add] using World.cell?_spot hc0
       subst hspot
       have hbl:=World.block_lt_of_cell? _ _ hc0
       rw [addr_add] at hbl
       refine .inr ⟨b,off,rfl,hbl,by show¬w.heap.size≤b;simp only at hbl;omega,fun j u hu=> ?_⟩
       obtain⟨i,hi,hh⟩:=prsV_inv hu
       have hil:i<len:=by omega
       obtain⟨c0,c1,_,_⟩:=hx i (by omega)
       obtain⟨g0,g1,_,_⟩:=hf i (by omega)
       rw [addr_add] at c0 c1
       have hget:((List.range len).map f)[i]=f i:=by simp
       rcases hh with ⟨rfl,rfl⟩|⟨rfl,rfl⟩
       · rw [c0,g0,hget]
       · rw [c1,g1,hget]
   · intro p hp
     obtain⟨i,hi,rfl⟩:=List.mem_map.1 hp
     have hil:i<len:=by simpa using hi
     obtain⟨_,_,z0,z1⟩:=hf i (by omega)
     unfold maxLen at z0 z1
     exact⟨z0,z1⟩
theorem open_zs{fuel:Nat}{cs:List Value}{x:DataW H × List MemPlace}(h:DataW.trod enc Tryz.prog w base (fun _=>true) held fuel 49 cs=some x): ∃A len cap zs,cs= [.slice A len cap]∧len=zs.length∧IInts w A zs:=by
 rcases open_ints Tryz.underlying49 Tryz.underlying3 (by kernel_rfl) h with ⟨hcs,_⟩|⟨a,len,cap,zs,hcs,hb,hl,hm,hz,_,hc,hwf⟩
 · exact⟨none,0,0,[],hcs,rfl, .inl rfl,by simp,fun z hz=>by simp at hz⟩
 · have hzc:zs.length=cap:=by simpa using hz
   unfold maxLen at hm
   have hll:(zs.take len).length=len:=by simp;omega
   refine⟨some a,len,cap,zs.take len,hcs,hll.symm, ?_,by rw [hll];omega,fun z hz=>int_bound (hwf z (List.mem_of_mem_take hz))⟩
   by_cases h0:len=0
   · subst h0;exact .inl rfl
   · obtain⟨b,off,spot⟩:=a
     have hc0:=hc 0 (by omega)
     have hspot:spot=none:=by simpa [Addr.add] using World.cell?_spot hc0
     subst hspot
     have hbl:=World.block_lt_of_cell? _ _ hc0
     rw [addr_add] at hbl
     refine .inr ⟨b,off,rfl,hbl,by show¬w.heap.size≤b;simp only at hbl;omega,fun j u hu=> ?_⟩
     rw [intsV,List.getElem?_map] at hu
     by_cases hj:j<(zs.take len).length
     · have hj2:j<zs.length:=by omega
       have h1:=hc j hj2
       rw [addr_add] at h1
       rw [h1]
       rw [List.getElem?_eq_getElem hj,Option.map_some,Option.some.injEq] at hu
       rw [←hu,List.getElem_take]
       simp [List.getD_eq_getElem?_getD,List.getElem?_eq_getElem hj2]
     · rw [List.getElem?_eq_none (by omega)] at hu
       cases hu
end
section
variable {H:Type} {enc:TypeId × Value→H} {w:World} {base:Nat} {held:Bool}
theorem ints_bound{ts:List TypeId}{ds:List (DataW H)}(hw:(DataW.weightsEach Tryz.prog ts ds).all (· ≤reachBytes)=true){j fuel len cap:Nat}{A:Option Addr}{d:DataW H}{p:List MemPlace}(ht:ts[j]? =some 49)(hd:ds[j]? =some d)
 (h:DataW.trod enc Tryz.prog w base (fun _=>true) held fuel 49 [.slice A len cap]=some (d,p)):len≤17592186043904:=by
 rcases open_ints Tryz.underlying49 Tryz.underlying3 (by kernel_rfl) h with ⟨hcs,_⟩|⟨a,len',cap',zs,hcs,hb,hl,hm,hz,hx,_,_⟩
 · simp only [List.cons.injEq,Value.slice.injEq,and_true] at hcs
   omega
 · simp only [List.cons.injEq,Value.slice.injEq,and_true] at hcs
   obtain⟨-,rfl,rfl⟩:=hcs
   simp only [Prod.mk.injEq] at hx
   rw [hx.1] at hd
   have h1:=sized_slice hw ht hd Tryz.underlying49
   rw [show Tryz.prog.bytesOf 3=8 by kernel_rfl,show reachBytes=140737488351232 from rfl] at h1
   have hzc:zs.length=cap:=by simpa using hz
   have h2:(lits (H:=H) IntKind.i64 (zs.take len)).length=len:=by simp [lits];omega
   rw [h2] at h1
   omega
end
end Go.Proofs.YtjcpclcmnhpgpaaGreatDoor
