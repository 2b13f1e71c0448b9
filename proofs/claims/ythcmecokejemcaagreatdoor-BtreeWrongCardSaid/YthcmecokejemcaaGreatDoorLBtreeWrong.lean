/-
  The seat's own texts, what BtreeWrong wants besides: Is16, Parted, Or16, WrP16, Wr16, Laid, Open, OpenBn.
-/
import Derived.Test.YthcmecokejemcaaGreatDoorWMxi
import Derived.Test.YthcmecokejemcaaGreatDoorRows
import Derived.ProofKit
import Derived.LaidMore
import Derived.OpenShut
import Derived.ShutString
import Derived.ChangeOld
import Derived.Stop.Joined
import Derived.Deep.Slices
import Derived.Deep.Fields
import Derived.ChangeSame
import Derived.Deep.SlicePairs
import Derived.ChangeSlices
set_option linter.unusedSimpArgs false
set_option linter.unusedVariables false
set_option maxHeartbeats 8000000
namespace Go.Proofs.YthcmecokejemcaaGreatDoor
open Go.RowKit Go.Shelf
section
variable {w w' :World} {s:Nat} {F F0:Nat→Prop} {R:Nat→Option (List Nat)} {H:List Nat} {P q most last G t root:Nat} {its:List It} {ns:List Nat} {hg m:Nat}
end
theorem rankL_allP{k:ByteArray}: ∀{l:List Pr},(∀p∈l,Tx.cmp p.1 k<0)→rankL l k=l.length
 | [],_=>rfl
 |p::l,h=>by
  rw [rankL_cons,if_pos (h p (by simp)),rankL_allP (fun q hq=>h q (by simp [hq]))]
  rfl
structure Parted(l:List Pr)(k:ByteArray)(a b c:List Pr):Prop where
 app:a++(b++c)=l
 low: ∀p∈a,Tx.cmp p.1 k<0
 ky: ∀p∈b,p.1=k
 one:b.length≤1
 high: ∀p∈c,Tx.cmp k p.1<0
theorem Parted.rank{l a b c:List Pr}{k:ByteArray}(h:Parted l k a b c):rankL l k=a.length:=by
 rw [←h.app,rankL_append,rankL_allP h.low,rankL_none]
 · rfl
 · intro p hp
   rcases List.mem_append.1 hp with h1|h1
   · rw [h.ky p h1,(cmp_zero.2 rfl:Tx.cmp k k=0)];omega
   · have h2:=h.high p h1
     have h3:=cmp_swap p.1 k
     omega
theorem Parted.at' {l a b c:List Pr}{k:ByteArray}(h:Parted l k a b c):l[rankL l k]? =(b++c)[0]? :=by
 rw [h.rank,←h.app,List.getElem?_append_right (Nat.le_refl _),Nat.sub_self]
theorem Parted.has{l a b c:List Pr}{k:ByteArray}(h:Parted l k a b c):(l[rankL l k]?).map (·.1)=some k↔b.length=1:=by
 rw [h.at']
 have h1:=h.one
 constructor
 · intro hk
   cases b with
   |cons p b=>simp at h1;simp [h1]
   |nil=>
    cases c with
    |nil=>simp at hk
    |cons p c=>
     simp at hk
     have:=h.high p (by simp)
     rw [hk,(cmp_zero.2 rfl:Tx.cmp k k=0)] at this
     omega
 · intro hb
   cases b with
   |nil=>simp at hb
   |cons p b=>
    have:=h.ky p (by simp)
    simp [this]
theorem Parted.put{l a b c:List Pr}{k v:ByteArray}(h:Parted l k a b c):putL l (k,v)=a++(k,v)::c:=by
 unfold putL
 have hr:=h.rank
 have hh:=h.has
 have h1:=h.one
 by_cases hb:b.length=1
 · rw [if_pos (hh.2 hb),hr,←h.app,List.take_left,←List.append_assoc,show a.length+1=(a++b).length by rw [List.length_append,hb],List.drop_left]
 · rw [if_neg (fun e=>hb (hh.1 e)),hr,←h.app,List.take_left,List.drop_left]
   have:b= []:=List.eq_nil_of_length_eq_zero (by omega)
   rw [this]
   rfl
theorem Bt.At.head{R:Nat→Option (List Nat)}{t:Nat}: ∀{a lo:Nat} {s:Sb},Bt.At R t a lo s→ ∃r,s.ns=s.h::r
 |0,_,_,h=>⟨[],h.1⟩
 |_+1,_,_,h=>by
  obtain⟨c,l,h1,h2,_⟩:=h
  exact⟨_,h2⟩
theorem Bt.Tree.head{R:Nat→Option (List Nat)}{t root:Nat}{its:List It}{ns:List Nat}{hg:Nat}(h:Bt.Tree R t root its ns hg):(root=0∧ns= [])∨ ∃r,ns=root::r:=by
 rcases h with ⟨h1,_,h2,_⟩|⟨a,_,h1⟩
 · exact .inl ⟨h1,h2⟩
 · exact .inr h1.head
theorem BtIn.put{w:World}{s:Nat}{F:Nat→Prop}{R:Nat→Option (List Nat)}{H:List Nat}{P q most last G t root:Nat}{its:List It}{ns:List Nat}{hg m:Nat}(h:BtIn w s F R H P q most last G t root its ns hg m){b j:Nat}{v:Value}(hb: ¬F b)(hs:s≠b)(hp: ∀p,w.cell? ⟨b,0,none⟩≠some (.pointer p))(ht:1≠b):BtIn (w.setCell ⟨b,j,none⟩ v) s F R H P q most last G t root its ns hg m:=
 { h with st:=h.st.kb (kb_one w b j v) (fun k e hF=>hb (e▸hF)) hs (fun k e p=>by rw [e];exact hp p) ht }
theorem setFour_kb(W:World)(b:Nat)(v1 v2 v3 v4:Value):KB (fun k=>k=b) W (setFour W b v1 v2 v3 v4):=
 (((kb_one W b 0 v1).trans (kb_one _ b 1 v2)).trans (kb_one _ b 2 v3)).trans (kb_one _ b 3 v4)
theorem Own3.put3{W:World}{B:Nat}{v1 v2:Value}{A3:Option Addr}{c3:Nat}{l1 l2 l3:List Nat}(h:Own3 W B v1 l1 v2 l2 (.slice A3 l3.length c3) l3){k:Nat}(hk:k<l3.length):
 ∃g,A3=some ⟨g,0,none⟩∧B≤g∧g<W.heap.size∧W.frozen? ⟨g,k,none⟩=false∧W.cell? ⟨g,k,none⟩=some (.int .u64 (l3[k]:Nat))∧ ∀(W' :World) (x sz:Nat) (F:Nat→Prop),Below W.heap.size W W' →(∀b,F b→b<B)→l1.length≤40→l2.length≤40→l3.length≤40→
  BNV (W'.setCell ⟨g,k,none⟩ (.int .u64 (x:Nat))) F (.agg #[v1,v2, .slice A3 (l3.set k x).length c3, .int .u64 (sz:Nat)]) ⟨l1,l2,l3.set k x,sz⟩:=by
 rcases hrow_of h.r3 with ⟨h1,h2⟩|⟨g,cap,h1,hg,hn,sp,hbox⟩
 · rw [h2] at hk;simp at hk
 · simp only [Value.slice.injEq] at h1
   obtain⟨hA,_,hc⟩:=h1
   subst hA
   have hkh:k<(hsV l3).length:=by rw [hsV_len];exact hk
   refine⟨g,rfl,hg,hbox.lt,hbox.free k,hbox.at' (by rw [List.getElem?_append_left hkh];exact hsV_get hk),fun W' x sz F hb hF z1 z2 z3=> ?_⟩
   have hoth: ∀(u:Value) (m:List Nat),W.ownsRow B 23 1 u m.length (hsV m)→ApartV u (.slice (some ⟨g,0,none⟩) l3.length c3)→(W'.setCell ⟨g,k,none⟩ (.int .u64 (x:Nat))).ownsRow B 23 1 u m.length (hsV m):=fun u m hu ha=>
    row_keep hu fun b hbu=>by
     have hne:b≠g:=fun e=>ha b hbu (by rw [e];rfl)
     rw [Below.heap_setCell W' ⟨g,k,none⟩ _ b hne]
     exact hb.block b (row_ge hu hbu).2
   obtain⟨A1,c1,e1,k1⟩:=row_cellsF (hoth _ _ h.r1 h.a13) hF
   obtain⟨A2,c2,e2,k2⟩:=row_cellsF (hoth _ _ h.r2 h.a23) hF
   subst e1 e2
   have hbs:=(hbox.below hb).set k (.int .u64 (x:Nat))
   refine⟨⟨A1,c1,A2,c2,some ⟨g,0,none⟩,c3,rfl,k1,k2, .inr ⟨g,0,rfl,hbs.lt,fun hf=>by have:=hF g hf;omega,fun j u hj=> ?_⟩⟩,by show l1.length≤_;omega,by show l2.length≤_;omega,by show(l3.set k x).length≤_;rw [List.length_set];omega⟩
   rw [Nat.zero_add]
   refine hbs.at' ?_
   have e3:hsV (l3.set k x)=(hsV l3).set k (.int .u64 (x:Nat)):=by unfold hsV;rw [List.map_set]
   rw [List.set_append_left _ _ hkh,←e3]
   exact(List.getElem?_append_left (List.getElem?_eq_some_iff.1 hj).1).trans hj
theorem CellsF.weak{w:World}{F F' :Nat→Prop}{A:Option Addr}{vs:List Value}(h:CellsF w F A vs)(hF: ∀b,F' b→F b):CellsF w F' A vs:=by
 rcases h with h|⟨b,o,h1,h2,h3,h4⟩
 · exact .inl h
 · exact .inr ⟨b,o,h1,h2,fun hf=>h3 (hF b hf),h4⟩
theorem BNV.turnW{w w' :World}{F F' F0:Nat→Prop}{v:Value}{n:BN}(h:BNV w F v n)(hT:Turn w F w' F')(hF: ∀b,F0 b→F' b):BNV w' F0 v n:=by
 obtain⟨⟨Ak,ck,Av,cv,Ai,ci,rfl,k1,k2,k3⟩,ll⟩:=h
 exact⟨⟨Ak,ck,Av,cv,Ai,ci,rfl,(k1.turn hT).weak hF,(k2.turn hT).weak hF,(k3.turn hT).weak hF⟩,ll⟩
theorem setFour_turn{w:World}{b:Nat}{F:Nat→Prop}(hF:F b)(v1 v2 v3 v4:Value):Turn w F (setFour w b v1 v2 v3 v4) F:=
 ⟨rfl,rfl,rfl,by simp [setFour,World.setCell],fun k hk hn=>by
  have hne:k≠b:=fun e=>hn (e▸hF)
  unfold setFour
  rw [Below.heap_setCell _ ⟨b,3,none⟩ _ k hne,Below.heap_setCell _ ⟨b,2,none⟩ _ k hne,Below.heap_setCell _ ⟨b,1,none⟩ _ k hne,Below.heap_setCell _ ⟨b,0,none⟩ _ k hne],fun k hk=> .inl hk⟩
theorem tmod_nat{a:Int}(h:0≤a){n:Nat}(hn:0<n): ∃i:Nat,i<n∧a.tmod n=(i:Int):=by
 have h1:=Int.tmod_lt_of_pos a (show(0:Int)<n by omega)
 have h2:=Int.tmod_nonneg (n:Int) h
 exact⟨(a.tmod n).toNat,by omega,by omega⟩
def lastI(R:Nat→Option (List Nat))(l:List (Nat × Nat)):Nat→ByteArray
 |0=>⟨#[]⟩
 |k+1=>keyB R (l.getD k (0,0)).1
theorem lastI_lt{R:Nat→Option (List Nat)}{l:List (Nat × Nat)}{k:Nat}(h:okI R l k):k=0∨(0<k∧Tx.cmp (lastI R l k) (keyB R (l.getD k (0,0)).1)<0):=by
 cases k with
 |zero=>exact .inl rfl
 |succ k=>exact .inr ⟨by omega,by rcases h.2.2 with h9|h9
                                  · omega
                                  · exact h9⟩
theorem row_max{W:World}{B n z:Nat}{e:TypeId}{v:Value}{xs:List Value}(h:W.ownsRow B e z v n xs):n≤9223372036854775807:=by
 rcases h.2 with ⟨_,h2⟩|⟨g,cap,cur,_,_,_,h4,h5,_⟩
 · omega
 · unfold maxLen at h5;omega
theorem InsTop.some{w w' :World}{s t:Nat}{F:Nat→Prop}{R:Nat→Option (List Nat)}{H:List Nat}{P q most last G x ak av:Nat}{e:Ending}(hS:StoreIs w s F R H P q most last G)(h:InsTop w s t F R H P q most last G x ak av e w'):
 ∃(a b c:Nat) (o:Bool) (er:Nat),e= .returned (.tuple #[.int .u64 (a:Nat), .agg #[.int .u64 (b:Nat), .int .u64 (c:Nat)], .bool o, .int .i64 (er:Nat)])∧ ∃(F' :Nat→Prop) (R' :Nat→Option (List Nat)) (H' :List Nat) (P' G' :Nat),StoreIs w' s F' R' H' P' q most last G' ∧H.length≤H'.length∧Turn w F w' F' :=by
 cases h with
 |bad h hb=>exact⟨0,0,0,false,8,rfl,F,R,H,P,G,hS.below hb,Nat.le_refl _,Turn.below hb⟩
 |here h0 h1 hf hs hT=>
  obtain⟨a,b,hab⟩:=itV_form (bswap R t (keyB R ak) ak av 40 x).2
  rw [hab]
  exact⟨x,a,b,true,0,rfl,F,_,H,P,G,hs,Nat.le_refl _,hT⟩
 |full h0 h1 hf he hs hT=>exact⟨0,0,0,false,_,rfl,_,R,H,_,_,hs,Nat.le_refl _,hT⟩
 |put h0 h1 hf hl hfr h64 hs hT hn=>exact⟨_,0,0,false,0,rfl,_,_,_,_,_,hs,by simp,hT⟩
set_option maxRecDepth 100000 in
theorem wrong16_0{w:World}(hT:Tab w)(t:Int)(l:List Pr)(A:Option Addr)(c:Nat)(at_ kid to_:Int)(n:BN)(A1 A2 A3:Option Addr)(c1 c2 c3:Nat)(key:ByteArray)(h:ILaw w A l)(hg:t<2∨4<t∨40<l.length∨longL l=true∨1000<key.size∨50<n.keys.length∨50<n.vals.length∨50<n.kids.length):
 Calls Tryz.prog 4 #[.int .i64 t, .slice A l.length c, .int .i64 at_, .agg #[.slice A1 n.keys.length c1, .slice A2 n.vals.length c2, .slice A3 n.kids.length c3, .int .u64 (n.size:Nat)], .int .i64 kid, .int .i64 to_, .string key] w (TrueB w):=by
 have hA:=Lib.hid (fun W (hb:Below w.heap.size w W)=>awake16_at (hT.below hb (tab_lt hT)))
 have hLH:=Lib.hid (fun W (hb:Below w.heap.size w W)=>refLong_at (c:=c) (h.1.prs.below hb) h.2.2 h.2.1)
 have hba:=(Below.refl w.heap.size w).alloc (Nat.le_refl _) (Obj.cells #[.slice A1 n.keys.length c1, .slice A2 n.vals.length c2, .slice A3 n.kids.length c3, .int .u64 (n.size:Nat)] 48)
 have z1:=h.2.2
 clear hT h
 unfold TrueB
 by_cases q0:t<2
 · have d0:decide (t<2)=true:=decide_eq_true q0
   clear hg
   go_enter Tryz.func4,Tryz.ntmps4
   go_wp2_with fail
   refine(hA.out _ hba).mono ?_
   rintro e w9 ⟨rfl,hb9⟩
   have hb9H:=Lib.hid (hba.trans (hb9.mono hba.size))
   clear hb9
   go_wp2
   go_ret
   exact⟨rfl,hb9H.out⟩
 · have d0:decide (t<2)=false:=decide_eq_false q0
   by_cases q1:4<t
   · have d1:decide (4<t)=true:=decide_eq_true q1
     clear hg
     go_enter Tryz.func4,Tryz.ntmps4
     go_wp2_with fail
     refine(hA.out _ hba).mono ?_
     rintro e w9 ⟨rfl,hb9⟩
     have hb9H:=Lib.hid (hba.trans (hb9.mono hba.size))
     clear hb9
     go_wp2
     go_ret
     exact⟨rfl,hb9H.out⟩
   · have d1:decide (4<t)=false:=decide_eq_false q1
     by_cases q2:(40:Int)<(l.length:Int)
     · have d2:decide ((40:Int)<(l.length:Int))=true:=decide_eq_true q2
       clear hg
       go_enter Tryz.func4,Tryz.ntmps4
       go_wp2_with fail
       refine(hA.out _ hba).mono ?_
       rintro e w9 ⟨rfl,hb9⟩
       have hb9H:=Lib.hid (hba.trans (hb9.mono hba.size))
       clear hb9
       go_wp2
       go_ret
       exact⟨rfl,hb9H.out⟩
     · have d2:decide ((40:Int)<(l.length:Int))=false:=decide_eq_false q2
       by_cases q3:longL l=true
       · rw [q3] at hLH
         clear hg
         go_enter Tryz.func4,Tryz.ntmps4
         go_wp2_with fail
         refine(hLH.out _ hba).mono ?_
         rintro e w0 ⟨rfl,rfl⟩
         go_wp2_with fail
         refine(hA.out _ hba).mono ?_
         rintro e w9 ⟨rfl,hb9⟩
         have hb9H:=Lib.hid (hba.trans (hb9.mono hba.size))
         clear hb9
         go_wp2
         go_ret
         exact⟨rfl,hb9H.out⟩
       · have q9:longL l=false:=by simpa using q3
         rw [q9] at hLH
         rw [q9] at hg
         simp only [Bool.false_eq_true,false_or] at hg
         clear q3 q9
         by_cases q4:(1000:Int)<(key.size:Int)
         · have d4:decide ((1000:Int)<(key.size:Int))=true:=decide_eq_true q4
           clear hg
           go_enter Tryz.func4,Tryz.ntmps4
           go_wp2_with fail
           refine(hLH.out _ hba).mono ?_
           rintro e w0 ⟨rfl,rfl⟩
           go_wp2_with fail
           refine(hA.out _ hba).mono ?_
           rintro e w9 ⟨rfl,hb9⟩
           have hb9H:=Lib.hid (hba.trans (hb9.mono hba.size))
           clear hb9
           go_wp2
           go_ret
           exact⟨rfl,hb9H.out⟩
         · have d4:decide ((1000:Int)<(key.size:Int))=false:=decide_eq_false q4
           by_cases q5:(50:Int)<(n.keys.length:Int)
           · have d5:decide ((50:Int)<(n.keys.length:Int))=true:=decide_eq_true q5
             clear hg
             go_enter Tryz.func4,Tryz.ntmps4
             go_wp2_with fail
             refine(hLH.out _ hba).mono ?_
             rintro e w0 ⟨rfl,rfl⟩
             go_wp2_with fail
             refine(hA.out _ hba).mono ?_
             rintro e w9 ⟨rfl,hb9⟩
             have hb9H:=Lib.hid (hba.trans (hb9.mono hba.size))
             clear hb9
             go_wp2
             go_ret
             exact⟨rfl,hb9H.out⟩
           · have d5:decide ((50:Int)<(n.keys.length:Int))=false:=decide_eq_false q5
             by_cases q6:(50:Int)<(n.vals.length:Int)
             · have d6:decide ((50:Int)<(n.vals.length:Int))=true:=decide_eq_true q6
               clear hg
               go_enter Tryz.func4,Tryz.ntmps4
               go_wp2_with fail
               refine(hLH.out _ hba).mono ?_
               rintro e w0 ⟨rfl,rfl⟩
               go_wp2_with fail
               refine(hA.out _ hba).mono ?_
               rintro e w9 ⟨rfl,hb9⟩
               have hb9H:=Lib.hid (hba.trans (hb9.mono hba.size))
               clear hb9
               go_wp2
               go_ret
               exact⟨rfl,hb9H.out⟩
             · have d6:decide ((50:Int)<(n.vals.length:Int))=false:=decide_eq_false q6
               have e9:(50:Int)<(n.kids.length:Int):=by omega
               have d7:decide ((50:Int)<(n.kids.length:Int))=true:=decide_eq_true e9
               clear hg
               go_enter Tryz.func4,Tryz.ntmps4
               go_wp2_with fail
               refine(hLH.out _ hba).mono ?_
               rintro e w0 ⟨rfl,rfl⟩
               go_wp2_with fail
               refine(hA.out _ hba).mono ?_
               rintro e w9 ⟨rfl,hb9⟩
               have hb9H:=Lib.hid (hba.trans (hb9.mono hba.size))
               clear hb9
               go_wp2
               go_ret
               exact⟨rfl,hb9H.out⟩
set_option maxRecDepth 100000 in
theorem wrong16_main{w:World}(hT:Tab w)(t:Nat)(ht2:2≤t)(ht4:t≤4)(l:List Pr)(A:Option Addr)(c:Nat)(at_ kid to_:Int)(n:BN)(A1 A2 A3:Option Addr)(c1 c2 c3:Nat)(key:ByteArray)(h:ILaw w A l)(g1:l.length≤40)(g3:longL l=false)(g4:key.size≤1000)(g5:n.keys.length≤50)(g6:n.vals.length≤50)(g7:n.kids.length≤50)(hnv: ∀(W:World) (F:Nat→Prop),Below w.heap.size w W→(∀b,F b→w.heap.size≤b)→BNV W F (.agg #[.slice A1 n.keys.length c1, .slice A2 n.vals.length c2, .slice A3 n.kids.length c3, .int .u64 (n.size:Nat)]) n)(hok:n.Ok):
 Calls Tryz.prog 4 #[.int .i64 (t:Nat), .slice A l.length c, .int .i64 at_, .agg #[.slice A1 n.keys.length c1, .slice A2 n.vals.length c2, .slice A3 n.kids.length c3, .int .u64 (n.size:Nat)], .int .i64 kid, .int .i64 to_, .string key] w (TrueB w):=by
 have hTH:=Lib.hid hT
 obtain⟨w0,hw0⟩: ∃W,W=w.alloc (Obj.cells #[.slice A1 n.keys.length c1, .slice A2 n.vals.length c2, .slice A3 n.kids.length c3, .int .u64 (n.size:Nat)] 48):=⟨_,rfl⟩
 have hba:Hid (Below w.heap.size w w0):=Lib.hid (by rw [hw0];exact(Below.refl w.heap.size w).alloc (Nat.le_refl _) _)
 have ht:BN.Deg t:=⟨by omega,by omega⟩
 have hLH:=Lib.hid (refLong_at (c:=c) (h.1.prs.below hba.out) h.2.2 h.2.1)
 rw [g3] at hLH
 have d1:decide ((t:Int)<2)=false:=decide_eq_false (by omega)
 have d2:decide ((4:Int)<(t:Int))=false:=decide_eq_false (by omega)
 have d3:decide ((40:Int)<(l.length:Int))=false:=decide_eq_false (by omega)
 have d4:decide ((1000:Int)<(key.size:Int))=false:=decide_eq_false (by omega)
 have d5:decide ((50:Int)<(n.keys.length:Int))=false:=decide_eq_false (by omega)
 have d6:decide ((50:Int)<(n.vals.length:Int))=false:=decide_eq_false (by omega)
 have d7:decide ((50:Int)<(n.kids.length:Int))=false:=decide_eq_false (by omega)
 have hN:=Lib.hid (snew_at (hT.below hba.out (tab_lt hT)) 262144 1000 4294967295 (by omega) (by omega) (by omega) (by omega) (by omega))
 have hszl:=Lib.hid (sized_of g3)
 have hcA:=Lib.hid h.1
 have htH:=Lib.hid ht
 have hbx:Hid (Box w0 w.heap.size 48 [.slice A1 n.keys.length c1, .slice A2 n.vals.length c2, .slice A3 n.kids.length c3, .int .u64 (n.size:Nat)]):=Lib.hid (by rw [hw0];exact Box.new _ _ _)
 have x1:=hbx.out.at' (i:=0) rfl
 have x2:=hbx.out.at' (i:=1) rfl
 have x3:=hbx.out.at' (i:=2) rfl
 have hw0H:=Lib.hid hw0
 have hnvH:=Lib.hid hnv
 have hokH:=Lib.hid hok
 have hkl:=Lib.hid g4
 clear hT h g3 ht hw0 hnv hok
 unfold TrueB
 go_enter Tryz.func4,Tryz.ntmps4
 go_wp2_with fail
 rw [←hw0H.out]
 refine hLH.out.mono ?_
 rintro e w9 ⟨rfl,rfl⟩
 clear hLH
 go_wp2_with fail
 refine hN.out.mono ?_
 rintro e w1 ⟨s,F,rfl,hS,hs1,hF1,hb1⟩
 have hb1H:=Lib.hid hb1
 have hs1H:Hid (w.heap.size<s):=Lib.hid (by have:=hbx.out.lt;omega)
 have htgH:Hid (1<w.heap.size):=Lib.hid (tab_lt hTH.out)
 clear x1 x2 x3 d4 d5 d6 d7
 have hSt1:Hid (BtIn w1 s F (fun _=>none) [] 0 262144 1000 4294967295 0 t 0 [] [] 0 0):=Lib.hid (BtIn.start hS t)
 have hF1H:=Lib.hid hF1
 have hcf1:=Lib.hid (Ints_off hcA.out (hba.out.trans (hb1.mono hba.out.size)) (fun b hf=>Nat.le_trans hba.out.size (hF1 b hf)) (Nat.le_trans hba.out.size hb1.size))
 clear hb1 hF1 hS hN
 go_wp2_with fail
 go_loopw [17,18] (fun rv iv wr=> ∃(i root:Nat) (its:List It) (ns:List Nat) (hg:Nat) (F' :Nat→Prop) (R' :Nat→Option (List Nat)) (H' :List Nat) (m:Nat),i≤l.length∧iv= .int .i64 i∧rv= .int .u64 (root:Nat)∧Hid (BtIn wr s F' R' H' (6*i+2*ns.length) 262144 1000 4294967295 (2*i+ns.length) t root its ns hg m)∧Hid (2*its.length+m=2*i)∧Hid (Turn w1 F wr F')) (fun _ iv _=>l.length-(intOf iv).toNat)
 case atStart=>exact⟨0,0,[],[],0,F,_,[],0,by omega,rfl,rfl,by simpa using hSt1,Lib.hid rfl,Lib.hid (Turn.refl _ _)⟩
 case round=>
  obtain⟨i,root,its,ns,hg,F',R',H',m,hi,rfl,rfl,hst,hm,hT'⟩:=hrel
  by_cases hlt:i<l.length
  ·
   as_aux_lemma=>
   obtain⟨bb,oo,hAs,q1,q2⟩:=(hcf1.out.turn hT'.out).pairs hlt
   have hlp:=hszl.out l[i] (List.getElem_mem hlt)
   obtain⟨p,hp⟩: ∃p,l[i]=p:=⟨_,rfl⟩
   rw [hp] at hlp
   simp only [hp] at q1 q2
   have hlk:its.length≤i:=by have:=hm.out;omega
   have hI:=Lib.hid (item16_at hst.out p hlp.1 hlp.2)
   have hlkH:=Lib.hid hlk
   subst hAs
   clear hp hlk hlp
   go_wp2_with fail
   refine hI.out.mono ?_
   intro e w3 hR
   have hlen:=hst.out.len
   have hnsle:=hst.out.tr.ns_le htH.out
   have hhg:=hst.out.tr.hg_le htH.out (by have:=hlkH.out;omega)
   have hmm:=hm.out
   cases hR with
   |no hb hT hl hbad=>
    exfalso
    have h3:=hlkH.out
    omega
   | @ok _ it R3 F3 H3 hik hiv hb hi hnd hT h64 hl3 hold=>
     obtain⟨W4,hW4⟩: ∃W,W=w3.alloc (Obj.cells #[.int .u64 (it.kh:Nat), .int .u64 (it.vh:Nat)] 31):=⟨_,rfl⟩
     have hb34:Below w3.heap.size w3 W4:=by rw [hW4];exact(Below.refl _ w3).alloc (Nat.le_refl _) _
     have hb:=hb.below hb34
     have hIn:=hb.insert_at htH.out it hi (by omega) hnd (by have:=hlkH.out;omega) h64
     have hInH:=Lib.hid hIn
     have hT3:=Lib.hid ((hT'.out.trans hT).trans (Turn.below hb34))
     have hbH:=Lib.hid hb
     have hikH:=Lib.hid (And.intro hik hiv)
     have hnums:=Lib.hid (And.intro hlen (And.intro hnsle (And.intro hhg (And.intro hmm hl3))))
     obtain⟨kh,hkh⟩: ∃z,z=it.kh:=⟨_,rfl⟩
     obtain⟨vh,hvh⟩: ∃z,z=it.vh:=⟨_,rfl⟩
     rw [←hkh,←hvh] at hInH hW4 ⊢
     have hW4H:=Lib.hid hW4
     clear hW4 hb34 hI hb hT hIn hik hiv hnd hi h64 hold q1 q2 hkh hvh hlen hnsle hhg hmm hl3
     go_wp2_with fail
     rw [←hW4H.out]
     refine hInH.out.mono ?_
     intro e w4 hR4
     cases hR4 with
     | @here _ old R4 hf hb4 ho _ hT4=>
       obtain⟨oa,hoa⟩: ∃z,z=old.kh:=⟨_,rfl⟩
       obtain⟨ob,hob⟩: ∃z,z=old.vh:=⟨_,rfl⟩
       rw [←hoa,←hob]
       have hbA4:Below w4.heap.size w4 (w4.alloc (Obj.cells #[.int .u64 (oa:Nat), .int .u64 (ob:Nat)] 31)):=(Below.refl _ w4).alloc (Nat.le_refl _) _
       have hb4H:=Lib.hid ((hb4.more (P' :=6*(i+1)+2*ns.length) (G' :=2*(i+1)+ns.length) (by omega) (by omega)).below hbA4)
       have hm4:Hid (2*(Bt.setI its it).length+(m+2)=2*(i+1)):=Lib.hid (by rw [Bt.setI_len];have:=hm.out;omega)
       have hT4H:=Lib.hid ((hT3.out.trans hT4).trans (Turn.below hbA4))
       clear hb4 hbA4 hT4 hf hInH ho hoa hob
       go_wp2
       go_roundw
       case rel=>exact⟨i+1,root,_,ns,hg,F3,R4,H3,m+2,by omega,by go_num,rfl,hb4H,hm4,hT4H⟩
       case measure=>simp [intOf];omega
     |full hf hn he _ _ _=>
      exfalso
      obtain⟨h1,h2,h3,h4,h5⟩:=hnums.out
      have h6:=hlkH.out
      omega
     | @put _ now n R4 F4 H4 ns' hg' hf hl4 hn hb4 hT4=>
       have hbA4:Below w4.heap.size w4 (w4.alloc (Obj.cells #[.int .u64 0, .int .u64 0] 31)):=(Below.refl _ w4).alloc (Nat.le_refl _) _
       have hb4H:=Lib.hid ((hb4.more (P' :=6*(i+1)+2*ns'.length) (G' :=2*(i+1)+ns'.length) (by omega) (by omega)).below hbA4)
       have hm4:Hid (2*(Bt.putI its it).length+(m+2-2)=2*(i+1)):=Lib.hid (by rw [Bt.putI_len];have:=hm.out;omega)
       have hT4H:=Lib.hid ((hT3.out.trans hT4).trans (Turn.below hbA4))
       clear hb4 hbA4 hT4 hf hInH
       go_wp2
       go_roundw
       case rel=>exact⟨i+1,now,_,ns',hg',F4,R4,H4,m+2-2,by omega,by go_num,rfl,hb4H,hm4,hT4H⟩
       case measure=>simp [intOf];omega
  ·
   as_aux_lemma=>
   obtain rfl:i=l.length:=by omega
   have hil:its.length≤40:=by have:=hm.out;omega
   have hlen:=hst.out.len
   have hnsle:=hst.out.tr.ns_le htH.out
   have hbw1:=Lib.hid (hba.out.trans (hb1H.out.mono hba.out.size))
   have hFw:Hid (∀b,F b→w.heap.size≤b):=Lib.hid (fun b hf=>Nat.le_trans hba.out.size (hF1H.out b hf))
   have hbw' :=Lib.hid (hbw1.out.trans (hT'.out.to_below hbw1.out.size hFw.out))
   have hgF0: ¬F w.heap.size:=fun hf=>by have:=hF1H.out _ hf;have:=hbx.out.lt;omega
   have hbx' :=Lib.hid ((hbx.out.below hb1H.out).turn hT'.out hgF0)
   have hgF' :Hid (¬F' w.heap.size):=Lib.hid (hT'.out.not (hbx.out.below hb1H.out).lt hgF0)
   have hNd:=Lib.hid (hst.out.nodes_at htH.out (by omega))
   have hAw:=Lib.hid (fun W (hb:Below w.heap.size w W)=>awake16_at (hTH.out.below hb (tab_lt hTH.out)))
   have hhd:=Lib.hid hst.out.tr.head
   have hst2:=Lib.hid (fun W (hb:Below wr.heap.size wr W)=>hst.out.st.below hb)
   have hz0:Hid (R' 0=none):=Lib.hid hst.out.z
   have hsh0:Hid (Short R'):=Lib.hid hst.out.sh
   have hns64:Hid (∀z∈ns,z<18446744073709551616):=Lib.hid (fun z hz=>by
    obtain⟨ws,hws⟩:=Option.ne_none_iff_exists'.1 (hst.out.ne z (List.mem_append.2 (.inl hz)))
    obtain⟨_,_,_,_,_,_,_,_,hh⟩:=hst.out.st
    exact hh.R64 hws)
   have hrt:=hst.out.rt
   have hnz:Hid (∀z∈ns,z≠0):=Lib.hid (fun z hz e=>hst.out.ne z (List.mem_append.2 (.inl hz)) (by rw [e];exact hz0.out))
   have hroot:Hid (ns.length≠0→root≠0):=Lib.hid (fun h9=>by
    rcases hhd.out with ⟨_,h8⟩|⟨r,h8⟩
    · rw [h8] at h9;exact absurd rfl h9
    · exact hnz.out root (by rw [h8];simp))
   have hFw' :Hid (∀b,F' b→w.heap.size≤b):=Lib.hid (fun b hf=>by
    rcases hT'.out.grow b hf with h9|h9
    · exact hFw.out b h9
    · have:=hbw1.out.size;omega)
   have hsF' :Hid (¬F' s):=Lib.hid hst.out.st.s_off
   have hnum:Hid (H'.length≤200∧ns.length≤40∧l.length≤40):=Lib.hid (by have:=hm.out;omega)
   clear hst hm hSt1 hcf1 hcA hbx hw0H hgF0
   go_wp2_with fail
   refine hNd.out.mono ?_
   rintro e w4 ⟨v20,rfl,ho20,hb4⟩
   have hb4w:=Lib.hid (hbw'.out.trans (hb4.mono hbw'.out.size))
   obtain⟨A20,c20,hv20,hcells⟩:=row_cellsF (F:=fun _=>False) ho20 (fun _ h=>h.elim)
   subst hv20
   by_cases hn0:ns.length=0
   · have dn0:((ns.length:Int)==0)=true:=by rw [hn0];rfl
     have hCk:Hid (∀W,Below w4.heap.size w4 W→Calls Tryz.prog 10 #[.pointer (some ⟨s,0,none⟩), .int .i64 (t:Nat), .int .u64 0] W fun e w' =>e= .returned (.int .i64 0)∧w' =W):=Lib.hid (fun W hb=>by
      obtain⟨N,hr,_⟩:=(hst2.out W (hb4.trans (hb.mono hb4.size))).rd
      exact btCheck0_at hr t htH.out)
     go_wp2_with fail
     refine(hCk.out w4 (Below.refl _ _)).mono ?_
     rintro e w5 ⟨rfl,rfl⟩
     go_wp2_with fail
     refine(hAw.out w5 hb4w.out).mono ?_
     rintro e w6 ⟨rfl,hb6⟩
     have hb6w:=Lib.hid (hb4w.out.trans (hb6.mono hb4w.out.size))
     go_wp2
     go_ret
     exact⟨rfl,hb6w.out⟩
   · have dn0:((ns.length:Int)==0)=false:=by rw [beq_eq_false_iff_ne];omega
     obtain⟨kk,hkk,hkke,hk1,hk2⟩:=idx_any at_ ns.length (by omega)
     have dg1:decide ((kk:Int)<0)=false:=decide_eq_false (by omega)
     have dg2:decide ((ns.length:Int)≤(kk:Int))=false:=decide_eq_false (by omega)
     have dg3:decide (ns.length≤kk)=false:=decide_eq_false (by omega)
     obtain⟨b20,o20,rfl,_,_,hc20⟩:=CellsF.num2 hcells hkk
     have q20:=hc20 w4 (Below.refl _ _)
     obtain⟨hh,hhe⟩: ∃z,z=ns[kk]:=⟨_,rfl⟩
     have hh64:hh<18446744073709551616:=by rw [hhe];exact hns64.out _ (List.getElem_mem hkk)
     have hh0:Hid (hh≠0):=Lib.hid (by rw [hhe];exact hnz.out _ (List.getElem_mem hkk))
     rw [←hhe] at q20
     have hG:=Lib.hid (fun W (hb:Below w4.heap.size w4 W)=>by
      obtain⟨N,hr,_⟩:=(hst2.out W (hb4.trans (hb.mono hb4.size))).rd
      exact bnGet_at hr t htH.out hh hh64)
     have hcH:=Lib.hid hcells
     have hb4H:=Lib.hid hb4
     clear hhe hNd ho20 hb4 hc20 hcells
     go_wp2_with fail
     refine(hG.out w4 (Below.refl _ _)).mono ?_
     rintro e w5 ⟨v1,v2,v3,rfl,hown,hb5⟩
     obtain⟨B1,e1,hv1,_⟩:=row_cellsF (F:=fun _=>False) hown.r1 (fun _ h=>h.elim)
     obtain⟨B2,e2,hv2,_⟩:=row_cellsF (F:=fun _=>False) hown.r2 (fun _ h=>h.elim)
     obtain⟨B3,e3,hv3,_⟩:=row_cellsF (F:=fun _=>False) hown.r3 (fun _ h=>h.elim)
     subst hv1 hv2 hv3
     have hownH:=Lib.hid hown
     have hb5H:=Lib.hid hb5
     clear hown hb5 q20 hk1 hk2 hkke dg1 dg2 dg3
     have hgk:Hid ((bnG R' t hh).Ok∧(bnG R' t hh).keys.length≤40∧(bnG R' t hh).vals.length≤40∧(bnG R' t hh).kids.length≤40):=Lib.hid (by
      obtain⟨N,hr,_⟩:=(hst2.out wr (Below.refl _ _)).rd
      exact bnG_ok hr htH.out hh)
     have hroot2:=Lib.hid (hroot.out hn0)
     generalize bnG R' t hh=g at*
     go_upto_region 18 with fail
     go_cut [153] from 146 (fun s153 wc=> ∃bb:Bool,s153= .bool bb∧Hid (bb=true→0≤kid∧0<g.kids.length)∧Hid (wc=w5.alloc (Obj.cells #[.slice B1 g.keys.length e1, .slice B2 g.vals.length e2, .slice B3 g.kids.length e3, .int .u64 (g.size:Nat)] 48)))
     case first=>
      by_cases k1:0≤kid
      · have dk:decide (0≤kid)=true:=decide_eq_true k1
        by_cases k2:(0:Int)<(g.kids.length:Int)
        · have dk2:decide ((0:Int)<(g.kids.length:Int))=true:=decide_eq_true k2
          go_wp2
          go_meet
          case rel=>exact⟨true,congrArg Value.bool (decide_eq_true (by omega)),Lib.hid (fun _=>⟨k1,by omega⟩),Lib.hid rfl⟩
        · have dk2:decide ((0:Int)<(g.kids.length:Int))=false:=decide_eq_false k2
          go_wp2
          go_meet
          case rel=>exact⟨false,congrArg Value.bool (decide_eq_false (by omega)),Lib.hid (fun h=>by cases h),Lib.hid rfl⟩
      · have dk:decide (0≤kid)=false:=decide_eq_false k1
        go_wp2
        go_meet
        case rel=>exact⟨false,rfl,Lib.hid (fun h=>by cases h),Lib.hid rfl⟩
     case rest=>
      obtain⟨bb,rfl,hbb,hW6⟩:=hcut
      have hb56:=Lib.hid (show Below w5.heap.size w5 wc by rw [hW6.out];exact(Below.refl _ _).alloc (Nat.le_refl _) _)
      have hbg:Hid (Box wc w5.heap.size 48 [.slice B1 g.keys.length e1, .slice B2 g.vals.length e2, .slice B3 g.kids.length e3, .int .u64 (g.size:Nat)]):=Lib.hid (by rw [hW6.out];exact Box.new _ _ _)
      go_upto_if 153 with fail
      go_cut [] from 154 (fun wd=> ∃(nn:BN) (q1 q2 q3:Option Addr) (d1 d2 d3:Nat),Hid (Box wd w.heap.size 48 [.slice q1 nn.keys.length d1, .slice q2 nn.vals.length d2, .slice q3 nn.kids.length d3, .int .u64 (nn.size:Nat)])∧Hid (BNV wd F' (.agg #[.slice q1 nn.keys.length d1, .slice q2 nn.vals.length d2, .slice q3 nn.kids.length d3, .int .u64 (nn.size:Nat)]) nn)∧Hid nn.Ok∧Hid (StoreIs wd s F' R' H' (6*l.length+2*ns.length) 262144 1000 4294967295 (2*l.length+ns.length))∧Hid (Below w.heap.size w wd))
      case first=>
       have hb4c:=Lib.hid (hb4H.out.trans ((hb5H.out.trans (hb56.out.mono hb5H.out.size)).mono hb4H.out.size))
       have hbwc:=Lib.hid (hbw'.out.trans (hb4c.out.mono hbw'.out.size))
       have hxc:=Lib.hid (hbx'.out.below hb4c.out)
       by_cases hbt:bb=true
       · subst hbt
         as_aux_lemma=>
         obtain⟨k1,k2⟩:=hbb.out rfl
         obtain⟨i3,hi3,he3⟩:=tmod_nat k1 k2
         obtain⟨j4,hj4,he4,hj5,hj6⟩:=idx_any to_ ns.length (by omega)
         obtain⟨g3,hA3,hg3,hg3l,hfz,hce,hbnv⟩:=hownH.out.put3 hi3
         have hfz6:wc.frozen? ⟨g3,i3,none⟩=false:=by rw [hW6.out];go_simp
         have hce6:=(hb56.out.cell (p:=⟨g3,i3,none⟩) hg3l).trans hce
         obtain⟨x4,hx4⟩: ∃z,z=ns[j4]:=⟨_,rfl⟩
         have hx64:Hid (x4<18446744073709551616):=Lib.hid (by rw [hx4];exact hns64.out _ (List.getElem_mem hj4))
         obtain⟨b21,o21,hA21,_,_,hc21⟩:=CellsF.num2 hcH.out hj4
         have q21:=hc21 wc (hb5H.out.trans (hb56.out.mono hb5H.out.size))
         rw [←hx4] at q21
         simp only [Option.some.injEq,Addr.mk.injEq,and_true] at hA21
         obtain⟨ha1,ha2⟩:=hA21
         subst ha1 ha2 hA3
         have r2:=hbg.out.at' (i:=2) rfl
         have dg1:decide ((i3:Int)<0)=false:=decide_eq_false (by omega)
         have dg2:decide ((g.kids.length:Int)≤(i3:Int))=false:=decide_eq_false (by omega)
         have dg3:decide (g.kids.length≤i3)=false:=decide_eq_false (by omega)
         have dh1:decide ((j4:Int)<0)=false:=decide_eq_false (by omega)
         have dh2:decide ((ns.length:Int)≤(j4:Int))=false:=decide_eq_false (by omega)
         have dh3:decide (ns.length≤j4)=false:=decide_eq_false (by omega)
         have hbnvH:=Lib.hid hbnv
         have hg3H:=Lib.hid (And.intro hg3 hg3l)
         clear hbnv hx4 hns64 hc21 hce hfz hg3l
         go_wp2
         refine wp_region_quiet_tail 21 (by kernel_rfl) (by kernel_rfl) ?_
         simp only [List.take_succ_cons,List.take_zero,List.drop_succ_cons,List.drop_zero]
         repeat (go_big_quiet_step (fail))
         refine wpQuiet_nil ?_
         rintro _ ⟨nq,rfl⟩
         go_upto_region 20 with fail
         obtain⟨wd1,hwd1⟩: ∃W,W=(wc.drewN nq).setCell ⟨g3,i3,none⟩ (.int .u64 (x4:Nat)):=⟨_,rfl⟩
         rw [←hwd1]
         obtain⟨ks,hks⟩: ∃l,l=g.kids.set i3 x4:=⟨_,rfl⟩
         have hksl:ks.length=g.kids.length:=by rw [hks,List.length_set]
         have hdq:=Tx.drewN_below wc nq
         have hge4:w.heap.size<g3:=by
          have h1:=hbx'.out.lt
          have h2:=hb4H.out.size
          have h3:=hg3H.out.1
          omega
         have hlt5:g3<w5.heap.size:=hg3H.out.2
         have hwrg:wr.heap.size≤g3:=Nat.le_trans hb4H.out.size hg3H.out.1
         have hbrd:Below wr.heap.size wr wd1:=by
          rw [hwd1]
          exact(hb4c.out.trans (hdq.mono hb4c.out.size)).setCell (p:=⟨g3,i3,none⟩) hwrg _
         have hbx1:Box wd1 w.heap.size 48 [.slice A1 n.keys.length c1, .slice A2 n.vals.length c2, .slice A3 n.kids.length c3, .int .u64 (n.size:Nat)]:=by rw [hwd1];exact(hxc.out.below hdq).other (p:=⟨g3,i3,none⟩) (show w.heap.size≠g3 by omega) _
         have hbg1:Box wd1 w5.heap.size 48 [.slice B1 g.keys.length e1, .slice B2 g.vals.length e2, .slice (some ⟨g3,0,none⟩) g.kids.length e3, .int .u64 (g.size:Nat)]:=by rw [hwd1];exact(hbg.out.below hdq).other (p:=⟨g3,i3,none⟩) (show w5.heap.size≠g3 by omega) _
         have hV:=hbnvH.out (wc.drewN nq) x4 g.size (fun b=>F' b∨b=w.heap.size) (hb56.out.trans (hdq.mono hb56.out.size)) (fun b hf=>by
          rcases hf with hf|hf
          · have:=(hst2.out wr (Below.refl _ _)).lt hf
            have:=hb4H.out.size
            omega
          · have:=hbx'.out.lt
            have:=hb4H.out.size
            omega) hgk.out.2.1 hgk.out.2.2.1 hgk.out.2.2.2
         rw [←hwd1,←hks,hksl] at hV
         have hbwd:=Lib.hid (hbw'.out.trans (hbrd.mono hbw'.out.size))
         have hS1:=hst2.out wd1 hbrd
         have hkok:(BN.mk g.keys g.vals ks g.size).Ok:=⟨hgk.out.1.keys,hgk.out.1.vals,fun z hz=>by
          rw [hks] at hz
          rcases List.mem_or_eq_of_mem_set hz with h9|h9
          · exact hgk.out.1.kids z h9
          · rw [h9];exact hx64.out,hgk.out.1.size⟩
         have z0:=hbg1.at' (i:=0) rfl
         have z1:=hbg1.at' (i:=1) rfl
         have z2:=hbg1.at' (i:=2) rfl
         have z3:=hbg1.at' (i:=3) rfl
         have u0:=hbx1.at' (i:=0) rfl
         have u1:=hbx1.at' (i:=1) rfl
         have u2:=hbx1.at' (i:=2) rfl
         have u3:=hbx1.at' (i:=3) rfl
         have f0:=hbx1.free 0
         have f1:=hbx1.free 1
         have f2:=hbx1.free 2
         have f3:=hbx1.free 3
         have hrel:Hid (Box (setFour wd1 w.heap.size (.slice B1 g.keys.length e1) (.slice B2 g.vals.length e2) (.slice (some ⟨g3,0,none⟩) g.kids.length e3) (.int .u64 (g.size:Nat))) w.heap.size 48 [.slice B1 g.keys.length e1, .slice B2 g.vals.length e2, .slice (some ⟨g3,0,none⟩) g.kids.length e3, .int .u64 (g.size:Nat)]∧BNV (setFour wd1 w.heap.size (.slice B1 g.keys.length e1) (.slice B2 g.vals.length e2) (.slice (some ⟨g3,0,none⟩) g.kids.length e3) (.int .u64 (g.size:Nat))) F' (.agg #[.slice B1 g.keys.length e1, .slice B2 g.vals.length e2, .slice (some ⟨g3,0,none⟩) g.kids.length e3, .int .u64 (g.size:Nat)]) ⟨g.keys,g.vals,ks,g.size⟩∧StoreIs (setFour wd1 w.heap.size (.slice B1 g.keys.length e1) (.slice B2 g.vals.length e2) (.slice (some ⟨g3,0,none⟩) g.kids.length e3) (.int .u64 (g.size:Nat))) s F' R' H' (6*l.length+2*ns.length) 262144 1000 4294967295 (2*l.length+ns.length)∧Below w.heap.size w (setFour wd1 w.heap.size (.slice B1 g.keys.length e1) (.slice B2 g.vals.length e2) (.slice (some ⟨g3,0,none⟩) g.kids.length e3) (.int .u64 (g.size:Nat)))):=Lib.hid ⟨setFour_box hbx1 _ _ _ _,hV.turnW (setFour_turn (.inr rfl) _ _ _ _) (fun b hf=> .inl hf),hS1.kb (setFour_kb wd1 w.heap.size _ _ _ _) (fun k e hf=>hgF'.out (e▸hf)) (fun e=>by have:=hs1H.out;omega) (fun k e p=>by rw [e,u0];intro h9;cases h9) (fun e=>by have:=htgH.out;omega),setFour_below hbwd.out (Nat.le_refl _) _ _ _ _⟩
         have hkokH:=Lib.hid hkok
         have hkslH:=Lib.hid hksl
         unfold setFour at hrel
         clear hV hS1 hkok hbx1 hbg1 hwd1 hdq hbrd hks hksl hge4 hlt5 hwrg r2 q21 hfz6 hce6
         go_wp2
         go_meet
         case rel=>exact⟨⟨g.keys,g.vals,ks,g.size⟩,B1,B2,_,e1,e2,e3,Lib.hid (by rw [show(BN.mk g.keys g.vals ks g.size).kids.length=g.kids.length from hkslH.out];exact hrel.out.1),Lib.hid (by rw [show(BN.mk g.keys g.vals ks g.size).kids.length=g.kids.length from hkslH.out];exact hrel.out.2.1),hkokH,Lib.hid hrel.out.2.2.1,Lib.hid hrel.out.2.2.2⟩
       · have hbf:bb=false:=by simpa using hbt
         subst hbf
         go_wp2
         go_meet
         case rel=>exact⟨n,A1,A2,A3,c1,c2,c3,hxc,Lib.hid (hnvH.out _ _ hbwc.out hFw'.out),hokH,Lib.hid (hst2.out _ hb4c.out),hbwc⟩
      case rest=>
       as_aux_lemma=>
       obtain⟨nn,q1,q2,q3,d1,d2,d3,hbx2,hnv2,hok2,hS2,hb2⟩:=hcut
       have y0:=hbx2.out.at' (i:=0) rfl
       have y1:=hbx2.out.at' (i:=1) rfl
       have y2:=hbx2.out.at' (i:=2) rfl
       have y3:=hbx2.out.at' (i:=3) rfl
       have hP:=Lib.hid (bnPut_at hS2.out t htH.out hh hh64 hnv2.out hok2.out)
       have hg6H:=Lib.hid hroot2.out
       go_wp2_with fail
       refine hP.out.mono ?_
       rintro e w7 ⟨rfl,hS7,hT7⟩
       have hb7:=Lib.hid (hb2.out.trans (hT7.to_below hb2.out.size hFw'.out))
       have hz2:Hid (bputR R' t hh nn 0=none):=Lib.hid (by rw [bputR_other (fun e=>hh0.out e.symm)];exact hz0.out)
       have hsh2:Hid (Short (bputR R' t hh nn)):=Lib.hid (fits_short htH.out hsh0.out)
       have hS7H:=Lib.hid hS7
       clear y0 y1 y2 y3 hP hS7 hT7 hbx2 hnv2 hok2 hS2 hb2
       generalize bputR R' t hh nn=R2 at*
       obtain⟨n2,hr2,-⟩:=hS7H.out.rd
       have hAl:=Lib.hid (fun W (hb:Below w7.heap.size w7 W)=>sall_at (hS7H.out.below hb))
       have hFi:=Lib.hid (fun W (hb:Below w7.heap.size w7 W)=>btFind_at (hr2.below hb) hsh2.out htH.out root hrt key)
       have hRk:=Lib.hid (fun W (hb:Below w7.heap.size w7 W)=>btRank_at (hr2.below hb) hsh2.out htH.out root hrt key)
       have hAt:=Lib.hid (fun W (hb:Below w7.heap.size w7 W) (k:Int)=>btAt_at (hr2.below hb) htH.out root hrt k)
       have hNo:=Lib.hid (fun W (hb:Below w7.heap.size w7 W)=>btNods_at (hr2.below hb) t htH.out root hrt)
       have hHe:=Lib.hid (fun W (hb:Below w7.heap.size w7 W)=>btHeight_at (hr2.below hb) t htH.out root hrt)
       have hLs:=Lib.hid (fun W (hb:Below w7.heap.size w7 W)=>btLst_at (hr2.below hb) t htH.out root hrt)
       have hCk:=Lib.hid (fun W (hb:Below w7.heap.size w7 W)=>btCheck_at (hr2.below hb) hsh2.out t htH.out root hrt hroot2.out)
       have hSz:=Lib.hid (fun W (hb:Below w7.heap.size w7 W)=>btSz_at (hr2.below hb) t htH.out root hrt)
       have hPr:=Lib.hid (fun W (hb:Below w7.heap.size w7 W) (a b:Nat) (u1:a<18446744073709551616) (u2:b<18446744073709551616)=>pair16g_at (hr2.below hb) hsh2.out a b u1 u2)
       have hw64:Hid (∀x,blobE R2 x=0→x<18446744073709551616):=Lib.hid (fun x hx=>by
        cases hR:R2 x with
        |none=>unfold blobE at hx;rw [hR] at hx;cases hx
        |some ws=>exact(hr2.u64 hR).1)
       have hItm:=Lib.hid (fun W (hb:Below w7.heap.size w7 W)=>item16g_at (hS7H.out.below hb) hz2.out hsh2.out (key,⟨#[]⟩) hkl.out (Nat.zero_le 1000))
       obtain⟨its2,hits2⟩: ∃z,z=(blist R2 t 40 ([],mostN n2 t) root).1:=⟨_,rfl⟩
       rw [←hits2] at hLs hCk
       clear hits2 hr2
       generalize bnodes R2 t (mostN n2 t) 40 [] root=nodes2 at*
       go_wp2_with fail
       refine(hAl.out w7 (Below.refl _ _)).mono ?_
       rintro e w8 ⟨v8,Hs8,rfl,hperm8,hro8,hb8⟩
       obtain⟨A8,c8,rfl⟩:=ownN_form hro8
       have hml:=Lib.hid hperm8.length_eq
       have hb8H:=Lib.hid hb8
       generalize Hs8.length=many at*
       clear hb8 hro8 hperm8
       have hmb:many≤200:=by have:=hnum.out.1;have:=hml.out;omega
       go_wp2_with fail
       refine(hFi.out w8 hb8H.out).mono ?_
       rintro e w9 ⟨rfl,hb9⟩
       have hb9H:=Lib.hid (hb8H.out.trans (hb9.mono hb8H.out.size))
       clear hb9 hFi
       go_wp2_with fail
       refine(hRk.out w9 hb9H.out).mono ?_
       rintro e w10 ⟨rfl,hb10⟩
       have hb10H:=Lib.hid (hb9H.out.trans (hb10.mono hb9H.out.size))
       clear hb10 hRk
       go_wp2_with fail
       refine(hAt.out w10 hb10H.out _).mono ?_
       rintro e w11 ⟨rfl,hb11⟩
       have hb11H:=Lib.hid (hb10H.out.trans (hb11.mono hb10H.out.size))
       clear hb11 hAt
       go_wp2_with fail
       refine(hNo.out w11 hb11H.out).mono ?_
       rintro e w12 ⟨v12,rfl,_,hb12⟩
       have hb12H:=Lib.hid (hb11H.out.trans (hb12.mono hb11H.out.size))
       clear hb12 hNo
       go_wp2_with fail
       refine(hHe.out w12 hb12H.out).mono ?_
       rintro e w13 ⟨rfl,hb13⟩
       have hb13H:=Lib.hid (hb12H.out.trans (hb13.mono hb12H.out.size))
       clear hb13 hHe
       go_wp2_with fail
       refine(hLs.out w13 hb13H.out).mono ?_
       rintro e w14 ⟨v14,rfl,ho14,hb14⟩
       have hil2:=row_max ho14
       obtain⟨A14,c14,rfl⟩:=ownN_form ho14
       have hb14H:=Lib.hid (hb13H.out.trans (hb14.mono hb13H.out.size))
       have ho14H:=Lib.hid ho14
       clear hb14 hLs ho14
       go_wp2_with fail
       refine(hCk.out w14 hb14H.out).mono ?_
       rintro e w15 ⟨er,rfl,hsay,hb15⟩
       have hb15H:=Lib.hid (hb14H.out.trans (hb15.mono hb14H.out.size))
       have ho15H:=Lib.hid (row_below ho14H.out hb15)
       have hsayH:=Lib.hid hsay
       clear hb15 hCk ho14H hsay
       rcases hsayH.out.e with h0|h8
       ·
        as_aux_lemma=>
        subst h0
        obtain⟨hsy,hsz⟩:=hsayH.out.say rfl
        have hsyH:=Lib.hid hsy
        have hszH:Hid (bszR R2 t root=(its2.length:Nat)):=Lib.hid (by unfold bszR;rw [←hsz];exact IntWalk.wrap64_in _ (by omega))
        clear hsy hsz hsayH
        go_wp2
        go_loopw [31,32] (fun lv iv wr9=> ∃k:Nat,k≤its2.length∧iv= .int .i64 k∧lv= .string (lastI R2 its2 k)∧Hid (Below w15.heap.size w15 wr9)) (fun _ iv _=>its2.length-(intOf iv).toNat)
        case atStart=>exact⟨0,by omega,rfl,rfl,Lib.hid (Below.refl _ _)⟩
        case round=>
         obtain⟨wr9,hwr9⟩: ∃W,W=wr:=⟨_,rfl⟩
         rw [←hwr9] at hrel ⊢
         clear hwr9
         obtain⟨k,hk9,rfl,rfl,hbr⟩:=hrel
         by_cases hlt:k<its2.length
         · have hok9:=hsyH.out k hlt
           have hcmp:=lastI_lt hok9
           have hnx:lastI R2 its2 (k+1)=keyB R2 (its2.getD k (0,0)).1:=rfl
           have hgd:its2.getD k (0,0)=its2[k]:=by simp [hlt]
           obtain⟨g9,hA9,_,hg9,hcs⟩:=itm_cells (row_below ho15H.out hbr.out) rfl (by omega)
           have f1:=(hcs k hlt).1
           have f2:=(hcs k hlt).2
           have hbr7:=Lib.hid (hb15H.out.trans (hbr.out.mono hb15H.out.size))
           have e1:=hok9.1
           have e2:=hok9.2.1
           rw [hgd] at e1 e2 hcmp hnx
           obtain⟨ya,hya⟩: ∃z,its2[k].1=z:=⟨_,rfl⟩
           obtain⟨yb,hyb⟩: ∃z,its2[k].2=z:=⟨_,rfl⟩
           simp only [hya,hyb] at e1 e2 hcmp hnx f1 f2
           have hPk:=hPr.out wr9 hbr7.out ya yb (hw64.out ya e1) (hw64.out yb e2) e1 e2
           obtain⟨pk,hpk⟩: ∃z,keyB R2 ya=z:=⟨_,rfl⟩
           obtain⟨pv,hpv⟩: ∃z,keyB R2 yb=z:=⟨_,rfl⟩
           simp only [hpk,hpv] at hPk hcmp hnx
           obtain⟨lk,hlk⟩: ∃z,lastI R2 its2 k=z:=⟨_,rfl⟩
           simp only [hlk] at hcmp ⊢
           have hPkH:=Lib.hid hPk
           have hnxH:=Lib.hid hnx
           have hcmpH:=Lib.hid hcmp
           subst hA9
           clear hPk hnx hcmp hpk hpv hlk hya hyb e1 e2 hcs hgd hok9 hg9
           go_wp2_with fail
           refine hPkH.out.mono ?_
           rintro e w17 ⟨rfl,hb17⟩
           have hb17H:=Lib.hid (hbr.out.trans (hb17.mono hbr.out.size))
           have hb18H:=Lib.hid (hb17H.out.alloc hb17H.out.size (Obj.cells #[Value.string pk,Value.string pv] 52))
           clear hb17 f1 f2
           rcases hcmpH.out with hk0|⟨hk0,hcm⟩
           · have dk:decide ((0:Int)<(k:Int))=false:=decide_eq_false (by omega)
             have dk2:decide (0<k)=false:=decide_eq_false (by omega)
             clear hk0 hcmpH
             go_wp2
             go_roundw
             case rel=>exact⟨k+1,by omega,by go_num,by rw [hnxH.out],hb18H⟩
             case measure=>simp [intOf];omega
           · have dk:decide ((0:Int)<(k:Int))=true:=decide_eq_true (by omega)
             have dk2:decide (0<k)=true:=decide_eq_true (by omega)
             have hsw:=cmp_swap pk lk
             have db1:Op.bytesLess pk.toList lk.toList=false:=by rw [str_less];exact decide_eq_false (by omega)
             have db2:(pk.toList==lk.toList)=false:=by rw [str_beq];exact decide_eq_false (fun e=>by rw [e] at hcm;have:=(cmp_zero (a:=lk) (b:=lk)).2 rfl;omega)
             clear hcm hcmpH hsw
             go_wp2
             go_roundw
             case rel=>exact⟨k+1,by omega,by go_num,by rw [hnxH.out],hb18H⟩
             case measure=>simp [intOf];omega
         · obtain rfl:k=its2.length:=by omega
           have hbr7:=Lib.hid (hb15H.out.trans (hbr.out.mono hb15H.out.size))
           have hSz2:=hSz.out _ hbr7.out
           rw [hszH.out] at hSz2
           have hSz2H:=Lib.hid hSz2
           clear hSz2
           go_wp2_with fail
           refine hSz2H.out.mono ?_
           rintro e w18 ⟨rfl,hb18⟩
           have hb18H:=Lib.hid (hbr7.out.trans (hb18.mono hbr7.out.size))
           clear hb18
           have hbT:=hb18H
           go_wp2_with fail
           refine(hItm.out _ hbT.out).mono ?_
           intro e wA hR
           cases hR with
           |no hs hT hl hbad=>
            exfalso
            obtain⟨h1,h2,h3⟩:=hnum.out
            omega
           | @ok _ it R3 F3 H3 hik hiv hs3 hz3 hsh3 hi hn hT3 h64 hl3 hold=>
             obtain⟨kh,hkh⟩: ∃z,z=it.kh:=⟨_,rfl⟩
             obtain⟨vh,hvh⟩: ∃z,z=it.vh:=⟨_,rfl⟩
             rw [←hkh,←hvh] at h64 ⊢
             obtain⟨W4,hW4⟩: ∃W,W=wA.alloc (Obj.cells #[.int .u64 (kh:Nat), .int .u64 (vh:Nat)] 31):=⟨_,rfl⟩
             have hb34:Below wA.heap.size wA W4:=by rw [hW4];exact(Below.refl _ wA).alloc (Nat.le_refl _) _
             have hs4:=hs3.below hb34
             have hIn:=Lib.hid (btInsert_at hs4 hsh3 htH.out root hrt kh vh h64.1 h64.2)
             have hs4H:=Lib.hid hs4
             have hW4H:=Lib.hid hW4
             have hbwT:=Lib.hid (hb7.out.trans (hbT.out.mono hb7.out.size))
             have hbA:=Lib.hid (hbwT.out.trans (hT3.to_below hbwT.out.size hFw'.out))
             have hbA4:=Lib.hid (hbA.out.trans (hb34.mono hbA.out.size))
             have hFw3:Hid (∀b,F3 b→w.heap.size≤b):=Lib.hid (fun b hf=>by
              rcases hT3.grow b hf with h9|h9
              · exact hFw'.out b h9
              · have:=hbwT.out.size;omega)
             have hl3H:Hid (H3.length=many+2):=Lib.hid (by rw [hl3,hml.out])
             clear hkh hvh hW4 hb34 hs4 hs3 hi hn hT3 h64 hold hik hiv hz3 hl3
             go_wp2_with fail
             rw [←hW4H.out]
             refine hIn.out.mono ?_
             intro e wB hRB
             obtain⟨ra,rb,rc,ro,rer,rfl,FB,RB,HB,PB,GB,hsB,hlB,hTB⟩:=hRB.some hs4H.out
             have hbB:=Lib.hid (hbA4.out.trans (hTB.to_below hbA4.out.size hFw3.out))
             have hAlB:=Lib.hid (sall_at hsB)
             have hlBH:Hid (many+2≤HB.length):=Lib.hid (by have:=hl3H.out;omega)
             clear hRB hsB hTB hlB hIn
             go_wp2_with fail
             refine hAlB.out.mono ?_
             rintro e wC ⟨vC,HsC,rfl,hpermC,hroC,hbC⟩
             have hmC:=row_max hroC
             obtain⟨AC,cC,rfl⟩:=ownN_form hroC
             have hlC:=hpermC.length_eq
             have hlC2:many+2≤HsC.length:=by have:=hlBH.out;omega
             have hbCH:=Lib.hid (hbB.out.trans (hbC.mono hbB.out.size))
             generalize HsC.length=lenC at*
             have dC:decide ((many:Int)+2≤(lenC:Int))=true:=decide_eq_true (by omega)
             have dC2:decide ((lenC:Int)≥(many:Int)+2)=true:=decide_eq_true (by omega)
             clear hlC hpermC hroC hbC
             go_wp2_with fail
             refine(hAw.out wC hbCH.out).mono ?_
             rintro e wD ⟨rfl,hbD⟩
             have hbDH:=Lib.hid (hbCH.out.trans (hbD.mono hbCH.out.size))
             go_wp2
             go_ret
             exact⟨rfl,hbDH.out⟩
       · subst h8
         have hbT:=hb15H
         go_wp2_with fail
         refine(hItm.out _ hbT.out).mono ?_
         intro e wA hR
         cases hR with
         |no hs hT hl hbad=>
          exfalso
          obtain⟨h1,h2,h3⟩:=hnum.out
          omega
         | @ok _ it R3 F3 H3 hik hiv hs3 hz3 hsh3 hi hn hT3 h64 hl3 hold=>
           obtain⟨kh,hkh⟩: ∃z,z=it.kh:=⟨_,rfl⟩
           obtain⟨vh,hvh⟩: ∃z,z=it.vh:=⟨_,rfl⟩
           rw [←hkh,←hvh] at h64 ⊢
           obtain⟨W4,hW4⟩: ∃W,W=wA.alloc (Obj.cells #[.int .u64 (kh:Nat), .int .u64 (vh:Nat)] 31):=⟨_,rfl⟩
           have hb34:Below wA.heap.size wA W4:=by rw [hW4];exact(Below.refl _ wA).alloc (Nat.le_refl _) _
           have hs4:=hs3.below hb34
           have hIn:=Lib.hid (btInsert_at hs4 hsh3 htH.out root hrt kh vh h64.1 h64.2)
           have hs4H:=Lib.hid hs4
           have hW4H:=Lib.hid hW4
           have hbwT:=Lib.hid (hb7.out.trans (hbT.out.mono hb7.out.size))
           have hbA:=Lib.hid (hbwT.out.trans (hT3.to_below hbwT.out.size hFw'.out))
           have hbA4:=Lib.hid (hbA.out.trans (hb34.mono hbA.out.size))
           have hFw3:Hid (∀b,F3 b→w.heap.size≤b):=Lib.hid (fun b hf=>by
            rcases hT3.grow b hf with h9|h9
            · exact hFw'.out b h9
            · have:=hbwT.out.size;omega)
           have hl3H:Hid (H3.length=many+2):=Lib.hid (by rw [hl3,hml.out])
           clear hkh hvh hW4 hb34 hs4 hs3 hi hn hT3 h64 hold hik hiv hz3 hl3
           go_wp2_with fail
           rw [←hW4H.out]
           refine hIn.out.mono ?_
           intro e wB hRB
           obtain⟨ra,rb,rc,ro,rer,rfl,FB,RB,HB,PB,GB,hsB,hlB,hTB⟩:=hRB.some hs4H.out
           have hbB:=Lib.hid (hbA4.out.trans (hTB.to_below hbA4.out.size hFw3.out))
           have hAlB:=Lib.hid (sall_at hsB)
           have hlBH:Hid (many+2≤HB.length):=Lib.hid (by have:=hl3H.out;omega)
           clear hRB hsB hTB hlB hIn
           go_wp2_with fail
           refine hAlB.out.mono ?_
           rintro e wC ⟨vC,HsC,rfl,hpermC,hroC,hbC⟩
           have hmC:=row_max hroC
           obtain⟨AC,cC,rfl⟩:=ownN_form hroC
           have hlC:=hpermC.length_eq
           have hlC2:many+2≤HsC.length:=by have:=hlBH.out;omega
           have hbCH:=Lib.hid (hbB.out.trans (hbC.mono hbB.out.size))
           generalize HsC.length=lenC at*
           have dC:decide ((many:Int)+2≤(lenC:Int))=true:=decide_eq_true (by omega)
           have dC2:decide ((lenC:Int)≥(many:Int)+2)=true:=decide_eq_true (by omega)
           clear hlC hpermC hroC hbC
           go_wp2_with fail
           refine(hAw.out wC hbCH.out).mono ?_
           rintro e wD ⟨rfl,hbD⟩
           have hbDH:=Lib.hid (hbCH.out.trans (hbD.mono hbCH.out.size))
           go_wp2
           go_ret
           exact⟨rfl,hbDH.out⟩
end Go.Proofs.YthcmecokejemcaaGreatDoor
namespace Go.Proofs.YthcmecokejemcaaGreatDoor
open Go.ChangeShapes Go.WideShapes Go.ChangeAt Go.WideMaps Go.WideElems Go.RowKit Go.Deep
theorem own:ownKnob Tryz.prog.godebug=none:=by kernel_rfl
theorem laidOut:laidOutB Tryz.prog=true:=by kernel_rfl
theorem gTab:Tryz.prog.globalNamed "math/bits.deBruijn64tab" =some 1:=by kernel_rfl
theorem tTab:(Tryz.prog.globals[1]?).map (·.type)=some 238:=by kernel_rfl
abbrev laidL:List (String × DataW Unit):= [("math/bits.deBruijn64tab",Rows.laid_math_bits_deBruijn64tab)]
theorem laid_list:(Rows.laid_math_bits_deBruijn64tab:DataW Unit)= .agg (Lib.deBruijn64tab.map fun n=> .lit (.int .u8 (n:Nat))):=rfl
theorem door_met(os:Os)(args:Array Value):laidMetH Tryz.prog laidL ((World.doorLaid Tryz.prog 400 os).forCall (fun _ _=>0) ⟨#[],args,[]⟩).memory:=
 laidMetH_of_parts3 (fuel:=8) (laidMet_of_run' 8 (by kernel_rfl) (by kernel_rfl)) (by kernel_rfl) (by kernel_rfl)
theorem of_laid{W:World}(h:laidMetH Tryz.prog laidL W):Tab W:=by
 rw [MakeChecks.laidMetH_plain _ _ _ (by kernel_rfl)] at h
 obtain⟨ps,⟨g0,t0,cs0,f0,p0,q0,hg0,ht0,hv0,hd0,_⟩,_⟩:=h
 obtain rfl:=Option.some.inj (gTab.symm.trans hg0)
 obtain rfl:=Option.some.inj (tTab.symm.trans ht0)
 obtain⟨xs,m1,rfl,hx1,hlen,hn,hel⟩:=DataW.trod_array Tryz.underlying238 hd0
 have c5:Tryz.prog.cellsOf 5=1:=by kernel_rfl
 simp only [Prod.mk.injEq] at hx1
 rw [laid_list] at hx1
 have hmap:xs.map (·.1)=Lib.deBruijn64tab.map fun n=>DataW.lit (Lit.int .u8 (n:Nat)):=by
  have:=hx1.1
  simp only [DataW.agg.injEq] at this
  exact this.symm
 intro j hj
 have hj64:j<64:=hj
 have hjx:j<xs.length:=by omega
 have h0:=hel j hj64
 rw [List.getElem?_eq_getElem hjx,c5,Nat.mul_one] at h0
 obtain⟨k,e1,e2,_⟩:=DataW.trod_int Tryz.underlying5 h0
 have h3:(xs.map (·.1))[j]? =some (.lit (.int .u8 (Lib.deBruijn64tab.getD j 0:Nat))):=by
  rw [hmap,List.getElem?_map,List.getElem?_eq_getElem hj]
  simp [List.getD_eq_getElem?_getD,List.getElem?_eq_getElem hj]
 rw [List.getElem?_map,List.getElem?_eq_getElem hjx,e2] at h3
 simp only [Option.map_some,Option.some.injEq,DataW.lit.injEq,Lit.int.injEq,true_and] at h3
 subst h3
 have hc:=World.var?_cell hg0 hv0 j
 rw [hc]
 have hd:cs0.toList[j]? =some (.int .u8 (Lib.deBruijn64tab.getD j 0:Nat)):=by
  have h5:((cs0.toList.drop j).take 1)[0]? =some (.int .u8 (Lib.deBruijn64tab.getD j 0:Nat)):=by rw [e1];rfl
  rw [List.getElem?_take,if_pos (by omega),List.getElem?_drop,Nat.add_zero] at h5
  exact h5
 simpa using hd
theorem int_bound{n:Int}(h:(Lit.int .i64 n).wf=true): -9223372036854775808≤n∧n≤9223372036854775807:=by
 simpa [Lit.wf,IntKind.min,IntKind.max,IntKind.signed,IntKind.bits] using h
theorem prsV_inv: ∀{l:List Pr} {j:Nat} {u:Value},(prsV l)[j]? =some u→ ∃(i:Nat) (hi:i<l.length),(j=i*2∧u= .string l[i].1)∨(j=i*2+1∧u= .string l[i].2)
 | [],j,u,h=>by simp [prsV] at h
 |p::l,0,u,h=>by simp [prsV] at h;exact⟨0,by simp, .inl ⟨rfl,h.symm⟩⟩
 |p::l,1,u,h=>by simp [prsV] at h;exact⟨0,by simp, .inr ⟨rfl,h.symm⟩⟩
 |p::l,j+2,u,h=>by
  obtain⟨i,hi,hh⟩:=prsV_inv (l:=l) (j:=j) (u:=u) (by simpa [prsV] using h)
  refine⟨i+1,by simpa using hi, ?_⟩
  rcases hh with ⟨h1,h2⟩|⟨h1,h2⟩
  · exact .inl ⟨by omega,h2⟩
  · exact .inr ⟨by omega,h2⟩
theorem addr_add(b o j:Nat):(⟨b,o,none⟩:Addr).add j=⟨b,o+j,none⟩:=by unfold Addr.add;split<;>simp_all
section
variable {H:Type} {enc:TypeId × Value→H} {w:World} {base:Nat} {held:Bool}
theorem open_prs{fuel:Nat}{cs:List Value}{x:DataW H × List MemPlace}(h:DataW.trod enc Tryz.prog w base (fun _=>true) held fuel 46 cs=some x): ∃A len cap l,cs= [.slice A len cap]∧len=l.length∧ILaw w A l:=by
 rcases open_slice_pairs Tryz.underlying46 Tryz.underlying52 (by kernel_rfl) rfl rfl (by kernel_rfl) (by kernel_rfl) h with ⟨hcs,_⟩|⟨a,len,cap,m,n,V0,V1,D0,D1,P0,P1,hcs,hb,hl,hm,hmm,_,hx⟩
 · exact⟨none,0,0,[],hcs,rfl, .inl rfl,fun p hp=>by simp at hp,by simp⟩
 · have hmc:m=cap:=by simpa using hmm
   subst hmc
   have hS: ∀i,∃p:Pr,i<m→V0 i= .string p.1∧V1 i= .string p.2∧p.1.size≤maxLen∧p.2.size≤maxLen:=fun i=>by
    by_cases hi:i<m
    · obtain⟨h1,h2,h3,h4⟩:=hx i hi
      obtain⟨s0,e0,_,z0⟩:=DataW.trod_string Tryz.underlying9 h3
      obtain⟨s1,e1,_,z1⟩:=DataW.trod_string Tryz.underlying9 h4
      exact⟨(s0,s1),fun _=>⟨by simpa using e0,by simpa using e1,z0,z1⟩⟩
    · exact⟨(⟨#[]⟩,⟨#[]⟩),fun hh=>absurd hh hi⟩
   obtain⟨f,hf⟩:=Classical.axiomOfChoice hS
   have hll:((List.range len).map f).length=len:=by simp
   unfold maxLen at hm
   refine⟨some a,len,m,(List.range len).map f,hcs,hll.symm, ?_, ?_,by rw [hll];omega⟩
   · by_cases h0:len=0
     · subst h0;exact .inl rfl
     · obtain⟨b,off,spot⟩:=a
       have hc0:=(hx 0 (by omega)).1
       have hspot:spot=none:=by simpa [Addr.add] using World.cell?_spot hc0
       subst hspot
       have hbl:=World.block_lt_of_cell? _ _ hc0
       rw [addr_add] at hbl
       refine .inr ⟨b,off,rfl,hbl,by show¬w.heap.size≤b;simp only at hbl;omega,fun j u hu=> ?_⟩
       obtain⟨i,hi,hh⟩:=prsV_inv hu
       have hil:i<len:=by omega
       obtain⟨c0,c1,_,_⟩:=hx i (by omega)
       obtain⟨g0,g1,_,_⟩:=hf i (by omega)
       rw [addr_add] at c0 c1
       have hget:((List.range len).map f)[i]=f i:=by simp
       rcases hh with ⟨rfl,rfl⟩|⟨rfl,rfl⟩
       · rw [c0,g0,hget]
       · rw [c1,g1,hget]
   · intro p hp
     obtain⟨i,hi,rfl⟩:=List.mem_map.1 hp
     have hil:i<len:=by simpa using hi
     obtain⟨_,_,z0,z1⟩:=hf i (by omega)
     unfold maxLen at z0 z1
     exact⟨z0,z1⟩
end
theorem h64_bound{n:Int}(h:(Lit.int .u64 n).wf=true):0≤n∧n≤18446744073709551615:=by
 simpa [Lit.wf,IntKind.min,IntKind.max,IntKind.signed,IntKind.bits] using h
def HLaw(w:World)(A:Option Addr)(l:List Nat):Prop:=CellsF w (fun b=>w.heap.size≤b) A (hsV l)∧(∀z∈l,z<18446744073709551616)∧l.length≤9223372036854775807
theorem hsV_inv{l:List Nat}{j:Nat}{u:Value}(h:(hsV l)[j]? =some u): ∃hj:j<l.length,u= .int .u64 (l[j]:Nat):=by
 unfold hsV at h
 rw [List.getElem?_map] at h
 by_cases hj:j<l.length
 · rw [List.getElem?_eq_getElem hj] at h
   exact⟨hj,by simpa using h.symm⟩
 · rw [List.getElem?_eq_none (by omega)] at h
   cases h
section
variable {H:Type} {enc:TypeId × Value→H} {w:World} {base:Nat} {held:Bool}
set_option maxRecDepth 100000 in
theorem open_hs{fuel:Nat}{cs:List Value}{x:DataW H × List MemPlace}(h:DataW.trod enc Tryz.prog w base (fun _=>true) held fuel 43 cs=some x): ∃A len cap l,cs= [.slice A len cap]∧len=l.length∧HLaw w A l:=by
 have ce:Tryz.prog.cellsOf 23=1:=by kernel_rfl
 rcases open_slice Tryz.underlying43 h with ⟨hcs,_⟩|⟨a,len,cap,m,n,D,Pl,hcs,hb,hl,hm,hmm,_,hx⟩
 · exact⟨none,0,0,[],hcs,rfl, .inl rfl,fun p hp=>by simp at hp,by simp⟩
 · have hmc:m=cap:=by simpa using hmm
   subst hmc
   have hS: ∀i,∃z:Nat,i<m→w.cell? (a.add i)=some (.int .u64 (z:Nat))∧z<18446744073709551616:=fun i=>by
    by_cases hi:i<m
    · obtain⟨cs',h1,h2⟩:=hx i hi
      rw [ce] at h1
      obtain⟨_,hlen,hcell⟩:=World.cells?_some h1
      match cs',hlen with
      | [v0],_=>
        have e0:=hcell 0 (by omega)
        rw [Go.Deep.add_add] at e0
        obtain⟨z,ez,_,bz⟩:=DataW.trod_int Tryz.underlying23 h2
        obtain⟨b1,b2⟩:=h64_bound bz
        obtain⟨k,rfl⟩:=Int.eq_ofNat_of_zero_le b1
        simp only [List.cons.injEq,and_true] at ez
        subst ez
        exact⟨k,fun _=>⟨by simpa using e0,by omega⟩⟩
    · exact⟨0,fun hh=>absurd hh hi⟩
   obtain⟨f,hf⟩:=Classical.axiomOfChoice hS
   have hll:((List.range len).map f).length=len:=by simp
   unfold maxLen at hm
   refine⟨some a,len,m,(List.range len).map f,hcs,hll.symm, ?_, ?_,by rw [hll];omega⟩
   · by_cases h0:len=0
     · subst h0;exact .inl rfl
     · obtain⟨b,off,spot⟩:=a
       have hc0:=(hf 0 (by omega)).1
       have hspot:spot=none:=by simpa [Addr.add] using World.cell?_spot hc0
       subst hspot
       have hbl:=World.block_lt_of_cell? _ _ hc0
       rw [addr_add] at hbl
       refine .inr ⟨b,off,rfl,hbl,by show¬w.heap.size≤b;simp only at hbl;omega,fun j u hu=> ?_⟩
       obtain⟨hi,rfl⟩:=hsV_inv hu
       have hil:j<len:=by omega
       obtain⟨c0,_⟩:=hf j (by omega)
       rw [addr_add] at c0
       have hget:((List.range len).map f)[j]=f j:=by simp
       rw [c0,hget]
   · intro p hp
     obtain⟨i,hi,rfl⟩:=List.mem_map.1 hp
     have hil:i<len:=by simpa using hi
     exact(hf i (by omega)).2
def BnLaw(w:World)(v:Value)(n:BN):Prop:= ∃A1 c1 A2 c2 A3 c3,v= .agg #[.slice A1 n.keys.length c1, .slice A2 n.vals.length c2, .slice A3 n.kids.length c3, .int .u64 (n.size:Nat)]∧HLaw w A1 n.keys∧HLaw w A2 n.vals∧HLaw w A3 n.kids∧n.size<18446744073709551616
theorem bn_under: ∃f0 f1 f2 f3:Field,Tryz.prog.underlying 48=some (.struct #[f0,f1,f2,f3])∧(f0.type=43∧f0.offset=0)∧(f1.type=43∧f1.offset=1)∧(f2.type=43∧f2.offset=2)∧(f3.type=22∧f3.offset=3):=
 ⟨_,_,_,_,Tryz.underlying48,⟨rfl,rfl⟩,⟨rfl,rfl⟩,⟨rfl,rfl⟩,⟨rfl,rfl⟩⟩
set_option maxRecDepth 100000 in
theorem open_bn{v:Value}{d:DataW H}{p:List MemPlace}(hv:Value.okWide Tryz.prog w .any base 48 v)(h:DataW.Trod enc Tryz.prog w 0 (fun _=>true) held 48 v d p): ∃n:BN,BnLaw w v n:=by
 obtain⟨f0,f1,f2,f3,hu,⟨t0,o0⟩,⟨t1,o1⟩,⟨t2,o2⟩,t3,o3⟩:=bn_under
 obtain⟨cs,rfl,hsz⟩:=okWide_struct hu hv
 have hc4:Tryz.prog.cellsOf 48=4:=by kernel_rfl
 have cs0:Tryz.prog.cellsOf 43=1:=by kernel_rfl
 have cs3:Tryz.prog.cellsOf 22=1:=by kernel_rfl
 obtain⟨l⟩:=cs
 match l,hsz.trans hc4 with
 | [v0,v1,v2,v3],_=>
   obtain⟨fuel,hf⟩:=h
   obtain⟨xs,k,_,_,_,hlen,hg⟩:=DataW.trod_struct hu hf
   match xs,hlen with
   | [y0,y1,y2,y3],_=>
     have g0:=hg 0 f0 rfl
     have g1:=hg 1 f1 rfl
     have g2:=hg 2 f2 rfl
     have g3:=hg 3 f3 rfl
     rw [t0,o0,cs0] at g0
     rw [t1,o1,cs0] at g1
     rw [t2,o2,cs0] at g2
     rw [t3,o3,cs3] at g3
     simp only [Value.cells,List.drop_zero,List.drop_succ_cons,List.take_succ_cons,List.take_zero,List.getElem?_cons_zero,List.getElem?_cons_succ] at g0 g1 g2 g3
     obtain⟨A1,n1,c1,l1,e1,m1,h1⟩:=open_hs g0
     obtain⟨A2,n2,c2,l2,e2,m2,h2⟩:=open_hs g1
     obtain⟨A3,n3,c3,l3,e3,m3,h3⟩:=open_hs g2
     obtain⟨z,ez,_,bz⟩:=DataW.trod_int Tryz.underlying22 g3
     obtain⟨b1,b2⟩:=h64_bound bz
     obtain⟨k,rfl⟩:=Int.eq_ofNat_of_zero_le b1
     simp only [List.cons.injEq,and_true] at e1 e2 e3 ez
     subst e1 e2 e3 ez m1 m2 m3
     exact⟨⟨l1,l2,l3,k⟩,A1,c1,A2,c2,A3,c3,rfl,h1,h2,h3,by show k<_;omega⟩
end
theorem BnLaw.bnv{w w' :World}{v:Value}{n:BN}{F:Nat→Prop}(h:BnLaw w v n)(hb:Below w.heap.size w w')(hF: ∀b,F b→w.heap.size≤b)(hl:n.keys.length≤50∧n.vals.length≤50∧n.kids.length≤50):BNV w' F v n:=by
 obtain⟨A1,c1,A2,c2,A3,c3,rfl,h1,h2,h3,_⟩:=h
 exact⟨⟨A1,c1,A2,c2,A3,c3,rfl,Ints_off h1.1 hb hF hb.size,Ints_off h2.1 hb hF hb.size,Ints_off h3.1 hb hF hb.size⟩,by omega,by omega,by omega⟩
end Go.Proofs.YthcmecokejemcaaGreatDoor
