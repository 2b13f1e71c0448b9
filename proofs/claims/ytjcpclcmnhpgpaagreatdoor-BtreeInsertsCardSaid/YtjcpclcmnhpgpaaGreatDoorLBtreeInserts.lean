/-
  The seat's own texts, what BtreeInserts wants besides: In16, Laid, Open.
-/
import Derived.Test.YtjcpclcmnhpgpaaGreatDoorHMxh
import Derived.Test.YtjcpclcmnhpgpaaGreatDoorRows
import Derived.ProofKit
import Derived.LaidMore
import Derived.OpenShut
import Derived.ShutString
import Derived.ChangeOld
import Derived.Stop.Joined
import Derived.Deep.Slices
import Derived.Deep.Fields
import Derived.ChangeSame
import Derived.Deep.SlicePairs
import Derived.ChangeSlices
set_option linter.unusedSimpArgs false
set_option linter.unusedVariables false
set_option maxHeartbeats 40000000
namespace Go.Proofs.YtjcpclcmnhpgpaaGreatDoor
open Go.RowKit Go.Shelf
def Kp16(w1:World)(F:Nat→Prop)(W:World)(F' :Nat→Prop)(A:Option Addr)(l:List Pr):Prop:=CellsF W F' A (prsV l)∧Turn w1 F W F'
theorem Kp16.below{w1 W W' :World}{F F' :Nat→Prop}{A:Option Addr}{l:List Pr}(h:Kp16 w1 F W F' A l)(hb:Below W.heap.size W W'):Kp16 w1 F W' F' A l:=⟨h.1.turn (Turn.below hb),h.2.trans (Turn.below hb)⟩
theorem Kp16.turn{w1 W W' :World}{F F' F2:Nat→Prop}{A:Option Addr}{l:List Pr}(h:Kp16 w1 F W F' A l)(hT:Turn W F' W' F2):Kp16 w1 F W' F2 A l:=⟨h.1.turn hT,h.2.trans hT⟩
set_option maxRecDepth 100000 in
theorem inserts16_0{w:World}(hT:Tab w)(t q sl:Int)(l:List Pr)(A:Option Addr)(c:Nat)(h:ILaw w A l)(hg:t<2∨16<t∨q<0∨40000<q∨sl<1∨1000<sl∨100<l.length∨longL l=true):
 Calls Tryz.prog 5 #[.int .i64 t, .int .i64 q, .int .i64 sl, .slice A l.length c] w (TrueB w):=by
 have hA:=Lib.hid (awake16_at hT)
 have hLH:=Lib.hid (refLong_at (c:=c) h.1.prs h.2.2 h.2.1)
 have z1:=h.2.2
 clear hT h
 unfold TrueB
 by_cases q0:t<2
 · have d0:decide (t<2)=true:=decide_eq_true q0
   clear hg
   go_enter Tryz.func5,Tryz.ntmps5
   go_wp2_with fail
   refine hA.out.mono ?_
   rintro e w9 ⟨rfl,hb9⟩
   have hb9H:=Lib.hid hb9
   clear hb9
   go_wp2
   go_ret
   exact⟨rfl,hb9H.out⟩
 · have d0:decide (t<2)=false:=decide_eq_false q0
   by_cases q1:16<t
   · have d1:decide (16<t)=true:=decide_eq_true q1
     clear hg
     go_enter Tryz.func5,Tryz.ntmps5
     go_wp2_with fail
     refine hA.out.mono ?_
     rintro e w9 ⟨rfl,hb9⟩
     have hb9H:=Lib.hid hb9
     clear hb9
     go_wp2
     go_ret
     exact⟨rfl,hb9H.out⟩
   · have d1:decide (16<t)=false:=decide_eq_false q1
     by_cases q2:q<0
     · have d2:decide (q<0)=true:=decide_eq_true q2
       clear hg
       go_enter Tryz.func5,Tryz.ntmps5
       go_wp2_with fail
       refine hA.out.mono ?_
       rintro e w9 ⟨rfl,hb9⟩
       have hb9H:=Lib.hid hb9
       clear hb9
       go_wp2
       go_ret
       exact⟨rfl,hb9H.out⟩
     · have d2:decide (q<0)=false:=decide_eq_false q2
       by_cases q3:40000<q
       · have d3:decide (40000<q)=true:=decide_eq_true q3
         clear hg
         go_enter Tryz.func5,Tryz.ntmps5
         go_wp2_with fail
         refine hA.out.mono ?_
         rintro e w9 ⟨rfl,hb9⟩
         have hb9H:=Lib.hid hb9
         clear hb9
         go_wp2
         go_ret
         exact⟨rfl,hb9H.out⟩
       · have d3:decide (40000<q)=false:=decide_eq_false q3
         by_cases q4:sl<1
         · have d4:decide (sl<1)=true:=decide_eq_true q4
           clear hg
           go_enter Tryz.func5,Tryz.ntmps5
           go_wp2_with fail
           refine hA.out.mono ?_
           rintro e w9 ⟨rfl,hb9⟩
           have hb9H:=Lib.hid hb9
           clear hb9
           go_wp2
           go_ret
           exact⟨rfl,hb9H.out⟩
         · have d4:decide (sl<1)=false:=decide_eq_false q4
           by_cases q5:1000<sl
           · have d5:decide (1000<sl)=true:=decide_eq_true q5
             clear hg
             go_enter Tryz.func5,Tryz.ntmps5
             go_wp2_with fail
             refine hA.out.mono ?_
             rintro e w9 ⟨rfl,hb9⟩
             have hb9H:=Lib.hid hb9
             clear hb9
             go_wp2
             go_ret
             exact⟨rfl,hb9H.out⟩
           · have d5:decide (1000<sl)=false:=decide_eq_false q5
             by_cases q6:(100:Int)<(l.length:Int)
             · have d6:decide ((100:Int)<(l.length:Int))=true:=decide_eq_true q6
               clear hg
               go_enter Tryz.func5,Tryz.ntmps5
               go_wp2_with fail
               refine hA.out.mono ?_
               rintro e w9 ⟨rfl,hb9⟩
               have hb9H:=Lib.hid hb9
               clear hb9
               go_wp2
               go_ret
               exact⟨rfl,hb9H.out⟩
             · have d6:decide ((100:Int)<(l.length:Int))=false:=decide_eq_false q6
               have hl:longL l=true:=by
                rcases hg with h|h|h|h|h|h|h|h
                · omega
                · omega
                · omega
                · omega
                · omega
                · omega
                · omega
                · exact h
               rw [hl] at hLH
               clear hg hl
               go_enter Tryz.func5,Tryz.ntmps5
               go_wp2_with fail
               refine hLH.out.mono ?_
               rintro e w0 ⟨rfl,rfl⟩
               go_wp2_with fail
               refine hA.out.mono ?_
               rintro e w9 ⟨rfl,hb9⟩
               have hb9H:=Lib.hid hb9
               clear hb9
               go_wp2
               go_ret
               exact⟨rfl,hb9H.out⟩
set_option maxRecDepth 100000 in
theorem inserts16_main{w:World}(hT:Tab w)(t:Nat)(ht:BN.Deg t)(q most:Nat)(hq:q≤40000)(hm1:1≤most)(hm2:most≤1000)(l:List Pr)(A:Option Addr)(c:Nat)(h:ILaw w A l)(g1:l.length≤100)(g3:longL l=false):
 Calls Tryz.prog 5 #[.int .i64 (t:Nat), .int .i64 (q:Nat), .int .i64 (most:Nat), .slice A l.length c] w (TrueB w):=by
 have hTH:=Lib.hid hT
 have hLH:=Lib.hid (refLong_at (c:=c) h.1.prs h.2.2 h.2.1)
 rw [g3] at hLH
 have t1:=ht.1
 have t2:=ht.2
 have t1' :1≤t:=by omega
 have d1:decide ((t:Int)<2)=false:=decide_eq_false (by omega)
 have d2:decide ((16:Int)<(t:Int))=false:=decide_eq_false (by omega)
 have d3:decide ((q:Int)<0)=false:=decide_eq_false (by omega)
 have d4:decide ((40000:Int)<(q:Int))=false:=decide_eq_false (by omega)
 have d5:decide ((most:Int)<1)=false:=decide_eq_false (by omega)
 have d6:decide ((1000:Int)<(most:Int))=false:=decide_eq_false (by omega)
 have d7:decide ((100:Int)<(l.length:Int))=false:=decide_eq_false (by omega)
 have hN:=Lib.hid (snew_at hT q most 4294967295 (by omega) (by omega) (by omega) (by omega) (by omega))
 have hszl:=Lib.hid (sized_of g3)
 have hsz0:=Lib.hid h.2.1
 have hcA:=Lib.hid h.1
 have htH:=Lib.hid ht
 clear hT h g3 ht
 unfold TrueB
 go_enter Tryz.func5,Tryz.ntmps5
 go_wp2_with fail
 refine hLH.out.mono ?_
 rintro e w0 ⟨rfl,rfl⟩
 clear hLH
 go_wp2_with fail
 refine hN.out.mono ?_
 rintro e w1 ⟨s,F,rfl,hS,hs1,hF1,hb1⟩
 have hb1H:=Lib.hid hb1
 have hF1H:=Lib.hid hF1
 have hcf1:=Lib.hid (Ints_off hcA.out hb1 hF1 hb1.size)
 have hSt1:Hid (BtIn w1 s F (fun _=>none) [] 0 q most 4294967295 0 t 0 [] [] 0 0):=Lib.hid (BtIn.start hS t)
 clear hb1 hF1 hS hN
 go_wp2_with fail
 go_loopw [11,12,13] (fun rv lv iv wr=> ∃(i root:Nat) (its:List It) (ns:List Nat) (hg:Nat) (F' :Nat→Prop) (R' :Nat→Option (List Nat)) (H' :List Nat) (P G:Nat) (la:List Pr) (Al:Option Addr) (cl:Nat),i≤l.length∧la.length≤i∧iv= .int .i64 i∧rv= .int .u64 (root:Nat)∧lv= .slice Al la.length cl∧Hid (BtIn wr s F' R' H' P q most 4294967295 G t root its ns hg 0)∧Hid (Bt.prs its=la)∧Hid (Kp16 w1 F wr F' Al la)∧Hid (Al=none→cl=0)∧Hid (la.length≤cl)∧Hid (Sized la)) (fun _ _ iv _=>l.length-(intOf iv).toNat)
 case atStart=>exact⟨0,0,[],[],0,F,_,[],0,0,[],none,0,by omega,by simp,rfl,rfl,rfl,hSt1,Lib.hid rfl,Lib.hid ⟨.inl rfl,Turn.refl _ _⟩,Lib.hid (fun _=>rfl),Lib.hid (by simp),Lib.hid (fun p hp=>by cases hp)⟩
 case round=>
  obtain⟨i,root,its,ns,hg,F',R',H',P,G,la,Al,cl,hi,hla,rfl,rfl,rfl,hst,hpr,hk,hAl,hcc,hsz9⟩:=hrel
  by_cases hlt:i<l.length
  ·
   as_aux_lemma=>
   obtain⟨bb,oo,hAs,q1,q2⟩:=(hcf1.out.turn hk.out.2).pairs hlt
   have hlp' :=hszl.out l[i] (List.getElem_mem hlt)
   obtain⟨p,hp'⟩: ∃p,l[i]=p:=⟨_,rfl⟩
   rw [hp'] at hlp'
   simp only [hp'] at q1 q2
   have hp:=Lib.hid hp'
   have hlp:=Lib.hid hlp'
   have hbo:Hid (A=some ⟨bb,oo,none⟩):=Lib.hid hAs
   have hil0:its.length=la.length:=by rw [←hpr.out,Bt.prs_len]
   have hi0:=Lib.hid hil0
   have hI:=Lib.hid (item16_at hst.out p hlp'.1 hlp'.2)
   have hAs' :=hbo.out
   clear hp' hlp' hil0 hAs
   rw [hAs']
   go_wp2_with fail
   refine hI.out.mono ?_
   intro e w4 hR
   have hhg:=hst.out.tr.hg_le htH.out (by have:=hi0.out;omega)
   cases hR with
   | @no _ na nb F4 H4 hb hT hl hbad=>
     have hb34:Below w4.heap.size w4 (w4.alloc (Obj.cells #[.int .u64 (na:Nat), .int .u64 (nb:Nat)] 33)):=(Below.refl _ w4).alloc (Nat.le_refl _) _
     have hstE:=Lib.hid (hb.below hb34)
     have hkE:=Lib.hid ((hk.out.turn hT).below hb34)
     clear hb hT hl hbad hb34
     go_wp2
     go_roundw
     case rel=>exact⟨i+1,root,its,ns,hg,F4,R',H4,P+6,G+2,la,Al,cl,by omega,by omega,by go_num,rfl,rfl,hstE,hpr,hkE,hAl,hcc,hsz9⟩
     case measure=>simp [intOf];omega
   | @ok _ it R3 F3 H3 hik hiv hb hi3 hnd hT h64 hl3 hold=>
     obtain⟨W4,hW4⟩: ∃W,W=w4.alloc (Obj.cells #[.int .u64 (it.kh:Nat), .int .u64 (it.vh:Nat)] 33):=⟨_,rfl⟩
     obtain⟨b14,hb14⟩: ∃b,b=w4.heap.size:=⟨_,rfl⟩
     have hb34:Below w4.heap.size w4 W4:=by rw [hW4];exact(Below.refl _ w4).alloc (Nat.le_refl _) _
     have hst4:=Lib.hid (hb.below hb34)
     have hk4:=Lib.hid ((hk.out.turn hT).below hb34)
     have x14:Box W4 b14 33 [.int .u64 (it.kh:Nat), .int .u64 (it.vh:Nat)]:=by rw [hW4,hb14];exact Box.new w4 _ _
     have hF14: ¬F3 b14:=fun hf=>by have:=hb.st.lt hf;omega
     have hx14:=Lib.hid x14
     have hikH:=Lib.hid (And.intro hik hiv)
     have hiH:=Lib.hid hi3
     have hndH:=Lib.hid hnd
     have h64H:=Lib.hid h64
     obtain⟨kh,hkh⟩: ∃z,z=it.kh:=⟨_,rfl⟩
     obtain⟨vh,hvh⟩: ∃z,z=it.vh:=⟨_,rfl⟩
     have hkv:=Lib.hid (And.intro hkh hvh)
     rw [←hkh,←hvh] at hx14 hW4 ⊢
     have hWH:=Lib.hid (And.intro hW4 hb14)
     obtain⟨many,hmany⟩: ∃z,z=H3.length:=⟨_,rfl⟩
     have hmanyH:=Lib.hid hmany
     have hml:many≤100000:=by
      have h1:=hb.len
      have h2:=hst.out.tr.ns_le htH.out
      have h3:=hi0.out
      omega
     have hitp:Hid (it.pr=p):=Lib.hid (by show(it.k,it.v)=p;rw [hik,hiv])
     have hAl4:=Lib.hid (sall_at hst4.out.st)
     clear hI hb hT hik hiv hi3 hnd h64 hl3 hold hb34 hst hk x14 hW4 hb14 q1 q2 hkh hvh hmany
     go_wp2_with fail
     rw [←hWH.out.1,←hWH.out.2]
     refine hAl4.out.mono ?_
     rintro e w5 ⟨v5,Hs5,rfl,hpm5,ho5,hb5⟩
     obtain⟨A5,c5,rfl⟩:=ownsRow_form ho5
     have hl5:Hs5.length=many:=by rw [hpm5.length_eq,hmanyH.out]
     rw [hl5]
     have hst5:=Lib.hid (hst4.out.below hb5)
     have hk5:=Lib.hid (hk4.out.below hb5)
     have hx5:=Lib.hid (hx14.out.below hb5)
     have hHt5:=Lib.hid (hst5.out.height_at htH.out (by have:=hi0.out;omega))
     clear hpm5 ho5 hb5 hl5 hst4 hk4 hx14 hAl4
     go_wp2_with fail
     refine hHt5.out.mono ?_
     rintro e w6 ⟨rfl,hb6⟩
     have hst6:=Lib.hid (hst5.out.below hb6)
     have hk6:=Lib.hid (hk5.out.below hb6)
     have hx6:=Lib.hid (hx5.out.below hb6)
     have q14:=hx6.out.at' (i:=0) rfl
     have q15:=hx6.out.at' (i:=1) rfl
     have hIn:=hst6.out.insert_at htH.out it hiH.out (by omega) hndH.out (by have:=hi0.out;omega) h64H.out
     rw [←hkv.out.1,←hkv.out.2] at hIn
     have hInH:=Lib.hid hIn
     have hfl:=Lib.hid (Bt.findI_has (key:=it.k) hst6.out.ow.rise)
     have hlen6:=Lib.hid hst6.out.len
     clear hb6 hst5 hk5 hx5 hHt5 hIn
     go_wp2_with fail
     refine hInH.out.mono ?_
     intro e w7 hR4
     cases hR4 with
     | @full _ n7 er R7 F7 hf hn he hb7 hi7 hT7=>
       as_aux_lemma=>
       obtain⟨W8,hW8⟩: ∃W,W=w7.alloc (Obj.cells #[.int .u64 0, .int .u64 0] 33):=⟨_,rfl⟩
       have hb78:Below w7.heap.size w7 W8:=by rw [hW8];exact(Below.refl _ w7).alloc (Nat.le_refl _) _
       have hst8:=hb7.below hb78
       have hk8:=Lib.hid ((hk6.out.turn hT7).below hb78)
       have hF7: ¬F7 b14:=hT7.not hx6.out.lt hF14
       have hx8:=Lib.hid ((hx6.out.turn hT7 hF14).below hb78)
       have hDr:=drop16_at (m:=0) hst8 hi7 hndH.out
       rw [←hkv.out.1,←hkv.out.2] at hDr
       have hDrH:=Lib.hid hDr
       have q14:=hx8.out.at' (i:=0) rfl
       have q15:=hx8.out.at' (i:=1) rfl
       have he' :((er:Int) !=0)=true∧(((er:Int) !=3)=false∨(((er:Int) !=3)=true∧((er:Int) !=10)=false)):=by
        rcases he with ⟨rfl,_⟩|⟨rfl,_⟩
        · exact⟨rfl, .inl rfl⟩
        · exact⟨rfl, .inr ⟨rfl,rfl⟩⟩
       obtain⟨e0,e310⟩:=he'
       have hW8H:=Lib.hid hW8
       rw [hW8] at q14 q15
       clear hW8 hb78 hst8 hDr hb7 hi7 hT7 hf hn he hInH hst6 hk6
       go_wp2_with fail
       rw [←hW8H.out]
       refine hDrH.out.mono ?_
       rintro e w9 ⟨R9,F9,H9,rfl,hst9',hl9,hT9⟩
       have hst9:=Lib.hid hst9'
       have hk9:=Lib.hid (hk8.out.turn hT9)
       obtain⟨hn,hhn⟩: ∃z,z=H9.length:=⟨_,rfl⟩
       have hhnH:=Lib.hid hhn
       have hAl9:=Lib.hid (sall_at hst9'.st)
       have dq:((hn:Int) !=(many:Int)-2)=false:=by
        have:=hmanyH.out
        simp
        omega
       have hIs9:=Lib.hid (fun W (hb:Below w9.heap.size w9 W)=>is16_at (c:=cl) htH.out (hst9.out.below hb) (by have:=hi0.out;omega) hpr.out (hk9.out.below hb).1)
       clear hst9' hl9 hT9 hhn hDrH q14 q15 hk8 hx8
       have main: ∀(a:Unit),True:=fun _=>trivial
       clear main
       rcases e310 with e3|⟨e3,e10⟩
       · go_wp2_with fail
         refine hAl9.out.mono ?_
         rintro e w10 ⟨v10,Hs10,rfl,hpm10,ho10,hb10⟩
         obtain⟨A10,c10,rfl⟩:=ownsRow_form ho10
         have hl10:Hs10.length=hn:=by rw [hpm10.length_eq,hhnH.out]
         rw [hl10]
         have hI10:=Lib.hid (hIs9.out _ hb10)
         have hb10H:=Lib.hid hb10
         clear hpm10 ho10 hb10 hl10
         go_wp2_with fail
         refine hI10.out.mono ?_
         rintro e w11 ⟨rfl,hb11⟩
         have hb11H:=Lib.hid (hb10H.out.trans (hb11.mono hb10H.out.size))
         have hstE:=Lib.hid (hst9.out.below hb11H.out)
         have hkE:=Lib.hid (hk9.out.below hb11H.out)
         clear hb11
         go_wp2
         go_roundw
         case rel=>exact⟨i+1,root,its,ns,hg,F9,R9,H9,P+6+n7*2,G+2+n7,la,Al,cl,by omega,by omega,by go_num,rfl,rfl,hstE,hpr,hkE,hAl,hcc,hsz9⟩
         case measure=>simp [intOf];omega
       · go_wp2_with fail
         refine hAl9.out.mono ?_
         rintro e w10 ⟨v10,Hs10,rfl,hpm10,ho10,hb10⟩
         obtain⟨A10,c10,rfl⟩:=ownsRow_form ho10
         have hl10:Hs10.length=hn:=by rw [hpm10.length_eq,hhnH.out]
         rw [hl10]
         have hI10:=Lib.hid (hIs9.out _ hb10)
         have hb10H:=Lib.hid hb10
         clear hpm10 ho10 hb10 hl10
         go_wp2_with fail
         refine hI10.out.mono ?_
         rintro e w11 ⟨rfl,hb11⟩
         have hb11H:=Lib.hid (hb10H.out.trans (hb11.mono hb10H.out.size))
         have hstE:=Lib.hid (hst9.out.below hb11H.out)
         have hkE:=Lib.hid (hk9.out.below hb11H.out)
         clear hb11
         go_wp2
         go_roundw
         case rel=>exact⟨i+1,root,its,ns,hg,F9,R9,H9,P+6+n7*2,G+2+n7,la,Al,cl,by omega,by omega,by go_num,rfl,rfl,hstE,hpr,hkE,hAl,hcc,hsz9⟩
         case measure=>simp [intOf];omega
     | @put _ now9 n7 R7 F7 H7 ns7 hg7 hf hl7 hn hb7 hT7=>
       as_aux_lemma=>
       obtain⟨W8,hW8⟩: ∃W,W=w7.alloc (Obj.cells #[.int .u64 0, .int .u64 0] 33):=⟨_,rfl⟩
       have hb78:Below w7.heap.size w7 W8:=by rw [hW8];exact(Below.refl _ w7).alloc (Nat.le_refl _) _
       have hst8:=Lib.hid (hb7.below hb78)
       have hk8:=Lib.hid ((hk6.out.turn hT7).below hb78)
       have hprX:Hid (Bt.prs (Bt.putI its it)=putL la p):=Lib.hid (by rw [Bt.putI_prs hst6.out.ow.rise hf,hpr.out,hitp.out])
       have hfd:findL la p.1= -1:=by
        have h1:=hfl.out.1
        rw [hf,hpr.out,hikH.out.1] at h1
        simpa using h1
       obtain⟨its7,hits7⟩: ∃z,z=Bt.putI its it:=⟨_,rfl⟩
       rw [←hits7] at hprX hst8
       have hl78:its7.length=its.length+1:=by rw [hits7,Bt.putI_len]
       obtain⟨hn8,hhn8⟩: ∃z,z=H7.length:=⟨_,rfl⟩
       have hcount:hn8≤many+hg+1:=by
        have h1:=hlen6.out
        have h2:=hst8.out.len
        have h3:=hmanyH.out
        omega
       have hhn8H:=Lib.hid hhn8
       have dg1:decide ((hn8:Int)>(many:Int)+(hg:Int)+1)=false:=decide_eq_false (by omega)
       have dg2:decide (many+hg+1<hn8)=false:=decide_eq_false (by omega)
       have hFi:=refFind_at (c:=cl) hk8.out.1.prs (Nat.le_refl _) (by omega) hsz9.out p.1 (by have:=hlp.out.1;omega)
       rw [hfd] at hFi
       have hFiH:=Lib.hid hFi
       obtain⟨bq8,oq8,hAq8,y81,y82⟩:=(hcf1.out.turn hk8.out.2).pairs hlt
       rw [hbo.out] at hAq8
       cases hAq8
       simp only [hp.out] at y81 y82
       have hAl8:=Lib.hid (fun W (hb:Below W8.heap.size W8 W)=>sall_at (hst8.out.below hb).st)
       have hW8H:=Lib.hid hW8
       rw [hW8] at y81 y82
       clear hW8 hb78 hb7 hT7 hf hn hl7 hInH hst6 hk6 hx6 q14 q15 hFi hfd hits7 hhn8 hl78
       go_wp2_with fail
       rw [←hW8H.out]
       refine hFiH.out.mono ?_
       rintro e w9 ⟨rfl,hb9⟩
       have hb9H:=Lib.hid hb9
       clear hb9 y81 y82
       go_wp2_with fail
       refine(hAl8.out _ hb9H.out).mono ?_
       rintro e w10 ⟨v10,Hs10,rfl,hpm10,ho10,hb10⟩
       obtain⟨A10,c10,rfl⟩:=ownsRow_form ho10
       have hl10:Hs10.length=hn8:=by rw [hpm10.length_eq,hhn8H.out]
       rw [hl10]
       have hb10H:=Lib.hid (hb9H.out.trans (hb10.mono hb9H.out.size))
       have hst9:=Lib.hid (hst8.out.below hb10H.out)
       have hk9:=Lib.hid (hk8.out.below hb10H.out)
       clear hpm10 ho10 hb10 hl10
       have hPu:=Lib.hid (refPut_at (c:=cl) hk9.out.1.prs (Nat.le_refl _) hAl.out hcc.out (by omega) hsz9.out p (by have:=hlp.out.1;omega))
       have hFlt:Hid (∀b,F7 b→b<w10.heap.size):=Lib.hid (fun b hf=>hst9.out.st.lt hf)
       obtain⟨lb,hlb⟩: ∃z,z=putL la p:=⟨_,rfl⟩
       rw [←hlb] at hPu hprX
       have hlbl:lb.length≤i+1:=by rw [hlb];have:=putL_len la p;omega
       have hszb:Hid (Sized lb):=Lib.hid (by
        intro z hz
        rw [←hprX.out] at hz
        obtain⟨it9,h8,h9⟩:=List.mem_map.1 hz
        have:=hst9.out.ow.at' it9 h8
        rw [←h9]
        exact⟨by show it9.k.size≤_;have:=this.ks;omega,by show it9.v.size≤_;have:=this.vs;omega⟩)
       have hq:=(hcf1.out.turn hk9.out.2).pairs hlt
       obtain⟨bq,oq,hAq,y1,y2⟩:=hq
       rw [hbo.out] at hAq
       cases hAq
       simp only [hp.out] at y1 y2
       clear hlb
       go_wp2_with fail
       refine hPu.out.mono ?_
       rintro e w20 ⟨v20,rfl,hro,hb20⟩
       obtain⟨A20,c20,rfl,hA20,hc20,hP20⟩:=own_pairs hro rfl
       have hst20:=Lib.hid (hst9.out.below hb20)
       have hk20:Hid (Kp16 w1 F w20 F7 A20 lb):=Lib.hid ⟨CellsF.own hro hP20 hFlt.out,hk9.out.2.trans (Turn.below hb20)⟩
       have hA20H:=Lib.hid hA20
       have hc20H:=Lib.hid hc20
       have hil:its7.length=lb.length:=by rw [←hprX.out,Bt.prs_len]
       have hnsl:=hst9.out.tr.ns_le htH.out
       have hIs:=Lib.hid (is16_at (c:=c20) htH.out hst20.out (by omega) hprX.out hk20.out.1)
       have hHt:=Lib.hid (fun W (hb:Below w20.heap.size w20 W)=>(hst20.out.below hb).height_at htH.out (by omega))
       have hAl2:=Lib.hid (fun W (hb:Below w20.heap.size w20 W)=>sall_at (hst20.out.below hb).st)
       have hNd:=Lib.hid (fun W (hb:Below w20.heap.size w20 W)=>(hst20.out.below hb).nodes_at htH.out (by omega))
       have hleast:=hst20.out.tr.least htH.out (by omega)
       have hLs:=Lib.hid (fun W=>least16_at t hg7 t1' hleast.2 W)
       have hle9:=hleast.1
       obtain⟨lv,hlv⟩: ∃z,z=least16 t hg7:=⟨_,rfl⟩
       rw [←hlv] at hLs hle9
       rw [hil] at hle9
       have hHl:=hst20.out.len
       rw [hil] at hHl
       obtain⟨hn,hhn⟩: ∃z,z=H7.length:=⟨_,rfl⟩
       obtain⟨nn9,hnn9⟩: ∃z,z=ns7.length:=⟨_,rfl⟩
       rw [←hhn,←hnn9] at hHl
       rw [←hnn9,hil] at hnsl
       have hnn9H:=Lib.hid hnn9
       have hhnH:=Lib.hid hhn
       have dl1:decide ((lv:Int)>(lb.length:Int))=false:=decide_eq_false (by omega)
       have dl2:decide (lb.length<lv)=false:=decide_eq_false (by omega)
       have dl3:((hn:Int) !=2*(lb.length:Int)+(nn9:Int))=false:=by simp;omega
       clear hro hb20 hP20 hA20 hc20 hst9 hk9 hPu hleast hlv hhn hnn9 y1 y2 hil
       go_wp2_with fail
       refine hIs.out.mono ?_
       rintro e w21 ⟨rfl,hb21⟩
       have hb21H:=Lib.hid hb21
       clear hb21
       go_wp2_with fail
       refine(hHt.out _ hb21H.out).mono ?_
       rintro e w22 ⟨rfl,hb22⟩
       have hb22H:=Lib.hid (hb21H.out.trans (hb22.mono hb21H.out.size))
       clear hb22
       go_wp2_with fail
       refine(hLs.out w22).mono ?_
       rintro e w23 ⟨rfl,rfl⟩
       go_wp2_with fail
       refine(hAl2.out _ hb22H.out).mono ?_
       rintro e w24 ⟨v24,Hs24,rfl,hpm24,ho24,hb24⟩
       obtain⟨A24,c24,rfl⟩:=ownsRow_form ho24
       have hl24:Hs24.length=hn:=by rw [hpm24.length_eq,hhnH.out]
       rw [hl24]
       have hb24H:=Lib.hid (hb22H.out.trans (hb24.mono hb22H.out.size))
       clear hb24 ho24 hpm24 hl24
       go_wp2_with fail
       refine(hNd.out _ hb24H.out).mono ?_
       rintro e w25 ⟨v25,rfl,ho25,hb25⟩
       obtain⟨A25,c25,rfl⟩:=ownN_form ho25
       rw [←hnn9H.out]
       have hb25H:=Lib.hid (hb24H.out.trans (hb25.mono hb24H.out.size))
       have hstE:=Lib.hid (hst20.out.below hb25H.out)
       have hkE:Hid (Kp16 w1 F w25 F7 A20 lb):=Lib.hid (hk20.out.below hb25H.out)
       clear hb25 ho25
       go_wp2
       go_roundw
       case rel=>exact⟨i+1,now9,its7,ns7,hg7,F7,R7,H7,(P+6+n7*2),(G+2+n7),lb,A20,c20,by omega,hlbl,by go_num,rfl,rfl,hstE,hprX,hkE,hA20H,hc20H,hszb⟩
       case measure=>simp [intOf];omega
     | @here _ old R7 hf hb7 ho hnd2 hT7=>
       as_aux_lemma=>
       obtain⟨W8,hW8⟩: ∃W,W=w7.alloc (Obj.cells #[.int .u64 (old.kh:Nat), .int .u64 (old.vh:Nat)] 33):=⟨_,rfl⟩
       obtain⟨b19,hb19⟩: ∃b,b=w7.heap.size:=⟨_,rfl⟩
       have hb78:Below w7.heap.size w7 W8:=by rw [hW8];exact(Below.refl _ w7).alloc (Nat.le_refl _) _
       have hst8:=Lib.hid (hb7.below hb78)
       have hk8:=Lib.hid ((hk6.out.turn hT7).below hb78)
       have x19:Box W8 b19 33 [.int .u64 (old.kh:Nat), .int .u64 (old.vh:Nat)]:=by rw [hW8,hb19];exact Box.new w7 _ _
       have hF19: ¬F3 b19:=fun hf=>by have:=hb7.st.lt hf;omega
       have hprX:Hid (Bt.prs (Bt.setI its it)=putL la p):=Lib.hid (by rw [Bt.setI_prs hst6.out.ow.rise hf,hpr.out,hitp.out])
       obtain⟨hf1,hf2⟩:=hfl.out
       obtain⟨hg1,hg2⟩:=hf2 old hf
       obtain⟨hrl,hg3⟩:=List.getElem?_eq_some_iff.1 hg1
       rw [hf] at hf1
       simp only [Option.isSome_some,if_true] at hf1
       rw [hpr.out,hikH.out.1] at hf1
       have hrl2:rankL la p.1<la.length:=by
        have h1:=hrl
        rw [hpr.out,hikH.out.1] at h1
        have:=hi0.out
        omega
       have hget:la[rankL la p.1]=(old.k,old.v):=by
        have e1:la[rankL la p.1]? =some old.pr:=by
         have h1:=hg1
         rw [hpr.out,hikH.out.1] at h1
         rw [←hpr.out]
         unfold Bt.prs
         rw [List.getElem?_map]
         have h2:its[rankL (Bt.prs its) p.1]? =some old:=by rw [hpr.out];exact h1
         unfold Bt.prs at h2
         rw [h2]
         rfl
        exact(List.getElem?_eq_some_iff.1 e1).2
       obtain⟨its7,hits7⟩: ∃z,z=Bt.setI its it:=⟨_,rfl⟩
       rw [←hits7] at hprX hst8 hnd2
       have hl78:its7.length=its.length:=by rw [hits7,Bt.setI_len]
       have hcount:H3.length=many:=hmanyH.out.symm
       have dg1:decide ((many:Int)>(many:Int)+(hg:Int)+1)=false:=decide_eq_false (by omega)
       have dg2:decide (many+hg+1<many)=false:=decide_eq_false (by omega)
       have hFi:=refFind_at (c:=cl) hk8.out.1.prs (Nat.le_refl _) (by omega) hsz9.out p.1 (by have:=hlp.out.1;omega)
       rw [hf1] at hFi
       have hqp:=fun W (hb:Below W8.heap.size W8 W)=>(hk8.out.below hb).1.pairs hrl2
       simp only [hget] at hqp
       have hPr8:=Lib.hid (fun W (hb:Below W8.heap.size W8 W)=>by
        obtain⟨N9,hr9,_⟩:=(hst8.out.below hb).st.rd
        exact pair16_at hr9 hst8.out.sh ho)
       have hDr8:=Lib.hid (fun W (hb:Below W8.heap.size W8 W)=>drop16_at (m:=0) (hst8.out.below hb) ho hnd2)
       obtain⟨r,hr⟩: ∃z,z=rankL la p.1:=⟨_,rfl⟩
       rw [←hr] at hFi hqp hrl2
       obtain⟨ka,hka⟩: ∃z,z=old.kh:=⟨_,rfl⟩
       obtain⟨va,hva⟩: ∃z,z=old.vh:=⟨_,rfl⟩
       obtain⟨pk,hpk⟩: ∃z,z=old.k:=⟨_,rfl⟩
       obtain⟨pv,hpv⟩: ∃z,z=old.v:=⟨_,rfl⟩
       rw [←hka,←hva] at x19 hDr8 ⊢
       simp only [←hka,←hva,←hpk,←hpv] at hPr8 hqp
       have hFiH:=Lib.hid hFi
       have hqpH:=Lib.hid hqp
       have hx19:=Lib.hid x19
       obtain⟨bq8,oq8,hAq8,y81,y82⟩:=(hcf1.out.turn hk8.out.2).pairs hlt
       rw [hbo.out] at hAq8
       cases hAq8
       simp only [hp.out] at y81 y82
       have hAl8:=Lib.hid (fun W (hb:Below W8.heap.size W8 W)=>sall_at (hst8.out.below hb).st)
       have hW8H:Hid (W8=w7.alloc (Obj.cells #[.int .u64 (ka:Nat), .int .u64 (va:Nat)] 33)∧b19=w7.heap.size):=Lib.hid ⟨by rw [hka,hva];exact hW8,hb19⟩
       have hl78H:=Lib.hid hl78
       rw [hW8H.out.1] at y81 y82
       clear hW8 hb19 hb78 hb7 hT7 hf hInH hst6 hk6 hx6 q14 q15 hFi hqp x19 hf1 hf2 hg1 hg2 hg3 hrl hget hits7 hl78 hka hva hpk hpv hr ho hnd2
       go_wp2_with fail
       rw [←hW8H.out.1,←hW8H.out.2]
       refine hFiH.out.mono ?_
       rintro e w9 ⟨rfl,hb9⟩
       have hb9H:=Lib.hid hb9
       clear hb9 y81 y82
       go_wp2_with fail
       refine(hAl8.out _ hb9H.out).mono ?_
       rintro e w10 ⟨v10,Hs10,rfl,hpm10,ho10,hb10⟩
       obtain⟨A10,c10,rfl⟩:=ownsRow_form ho10
       have hl10:Hs10.length=many:=by rw [hpm10.length_eq,hcount]
       rw [hl10]
       have hb10H:=Lib.hid (hb9H.out.trans (hb10.mono hb9H.out.size))
       have hx10:=hx19.out.below hb10H.out
       have q19:=hx10.at' (i:=0) rfl
       have q20:=hx10.at' (i:=1) rfl
       clear hpm10 ho10 hb10 hl10 hx10
       go_wp2_with fail
       refine(hPr8.out _ hb10H.out).mono ?_
       rintro e w11 ⟨rfl,hb11⟩
       have hb11a:=Lib.hid (hb10H.out.trans (hb11.mono hb10H.out.size))
       have hb11H:=Lib.hid (hb11a.out.alloc hb11a.out.size (Obj.cells #[Value.string pk,Value.string pv] 37))
       obtain⟨bs,os,hBs,s1,s2⟩:=hqpH.out _ hb11H.out
       subst hBs
       have s3:(w11.alloc (Obj.cells #[Value.string pk,Value.string pv] 37)).cell? ⟨w11.heap.size,0,none⟩=some (.string pk):=by go_simp
       have s4:(w11.alloc (Obj.cells #[Value.string pk,Value.string pv] 37)).cell? ⟨w11.heap.size,1,none⟩=some (.string pv):=by go_simp
       clear hb11 q19 q20
       go_wp2
       go_quiet (fail)
       have hb12:=Lib.hid (hb11H.out.trans ((Tx.drewN_below _ nq).mono hb11H.out.size))
       have hx12:=hx19.out.below hb12.out
       have q19:=hx12.at' (i:=0) rfl
       have q20:=hx12.at' (i:=1) rfl
       have hD12:=Lib.hid (hDr8.out _ hb12.out)
       have hk12:=Lib.hid (hk8.out.below hb12.out)
       generalize (World.drewN (w11.alloc (Obj.cells #[Value.string pk,Value.string pv] 37)) nq)=w12 at*
       clear s1 s2 s3 s4 hx12
       go_wp2_with fail
       refine hD12.out.mono ?_
       rintro e w13 ⟨R13,F13,H13,rfl,hst13,hl13,hT13⟩
       have hst9:=Lib.hid hst13
       have hk9:=Lib.hid (hk12.out.turn hT13)
       clear hst13 hT13 hD12 hk12 q19 q20 hl13
       have hPu:=Lib.hid (refPut_at (c:=cl) hk9.out.1.prs (Nat.le_refl _) hAl.out hcc.out (by omega) hsz9.out p (by have:=hlp.out.1;omega))
       have hFlt:Hid (∀b,F13 b→b<w13.heap.size):=Lib.hid (fun b hf=>hst9.out.st.lt hf)
       obtain⟨lb,hlb⟩: ∃z,z=putL la p:=⟨_,rfl⟩
       rw [←hlb] at hPu hprX
       have hlbl:lb.length≤i+1:=by rw [hlb];have:=putL_len la p;omega
       have hszb:Hid (Sized lb):=Lib.hid (by
        intro z hz
        rw [←hprX.out] at hz
        obtain⟨it9,h8,h9⟩:=List.mem_map.1 hz
        have:=hst9.out.ow.at' it9 h8
        rw [←h9]
        exact⟨by show it9.k.size≤_;have:=this.ks;omega,by show it9.v.size≤_;have:=this.vs;omega⟩)
       have hq:=(hcf1.out.turn hk9.out.2).pairs hlt
       obtain⟨bq,oq,hAq,y1,y2⟩:=hq
       rw [hbo.out] at hAq
       cases hAq
       simp only [hp.out] at y1 y2
       clear hlb
       go_wp2_with fail
       refine hPu.out.mono ?_
       rintro e w20 ⟨v20,rfl,hro,hb20⟩
       obtain⟨A20,c20,rfl,hA20,hc20,hP20⟩:=own_pairs hro rfl
       have hst20:=Lib.hid (hst9.out.below hb20)
       have hk20:Hid (Kp16 w1 F w20 F13 A20 lb):=Lib.hid ⟨CellsF.own hro hP20 hFlt.out,hk9.out.2.trans (Turn.below hb20)⟩
       have hA20H:=Lib.hid hA20
       have hc20H:=Lib.hid hc20
       have hil:its7.length=lb.length:=by rw [←hprX.out,Bt.prs_len]
       have hnsl:=hst9.out.tr.ns_le htH.out
       have hIs:=Lib.hid (is16_at (c:=c20) htH.out hst20.out (by omega) hprX.out hk20.out.1)
       have hHt:=Lib.hid (fun W (hb:Below w20.heap.size w20 W)=>(hst20.out.below hb).height_at htH.out (by omega))
       have hAl2:=Lib.hid (fun W (hb:Below w20.heap.size w20 W)=>sall_at (hst20.out.below hb).st)
       have hNd:=Lib.hid (fun W (hb:Below w20.heap.size w20 W)=>(hst20.out.below hb).nodes_at htH.out (by omega))
       have hleast:=hst20.out.tr.least htH.out (by omega)
       have hLs:=Lib.hid (fun W=>least16_at t hg t1' hleast.2 W)
       have hle9:=hleast.1
       obtain⟨lv,hlv⟩: ∃z,z=least16 t hg:=⟨_,rfl⟩
       rw [←hlv] at hLs hle9
       rw [hil] at hle9
       have hHl:=hst20.out.len
       rw [hil] at hHl
       obtain⟨hn,hhn⟩: ∃z,z=H13.length:=⟨_,rfl⟩
       obtain⟨nn9,hnn9⟩: ∃z,z=ns.length:=⟨_,rfl⟩
       rw [←hhn,←hnn9] at hHl
       rw [←hnn9,hil] at hnsl
       have hnn9H:=Lib.hid hnn9
       have hhnH:=Lib.hid hhn
       have dl1:decide ((lv:Int)>(lb.length:Int))=false:=decide_eq_false (by omega)
       have dl2:decide (lb.length<lv)=false:=decide_eq_false (by omega)
       have dl3:((hn:Int) !=2*(lb.length:Int)+(nn9:Int))=false:=by simp;omega
       clear hro hb20 hP20 hA20 hc20 hst9 hk9 hPu hleast hlv hhn hnn9 y1 y2 hil
       go_wp2_with fail
       refine hIs.out.mono ?_
       rintro e w21 ⟨rfl,hb21⟩
       have hb21H:=Lib.hid hb21
       clear hb21
       go_wp2_with fail
       refine(hHt.out _ hb21H.out).mono ?_
       rintro e w22 ⟨rfl,hb22⟩
       have hb22H:=Lib.hid (hb21H.out.trans (hb22.mono hb21H.out.size))
       clear hb22
       go_wp2_with fail
       refine(hLs.out w22).mono ?_
       rintro e w23 ⟨rfl,rfl⟩
       go_wp2_with fail
       refine(hAl2.out _ hb22H.out).mono ?_
       rintro e w24 ⟨v24,Hs24,rfl,hpm24,ho24,hb24⟩
       obtain⟨A24,c24,rfl⟩:=ownsRow_form ho24
       have hl24:Hs24.length=hn:=by rw [hpm24.length_eq,hhnH.out]
       rw [hl24]
       have hb24H:=Lib.hid (hb22H.out.trans (hb24.mono hb22H.out.size))
       clear hb24 ho24 hpm24 hl24
       go_wp2_with fail
       refine(hNd.out _ hb24H.out).mono ?_
       rintro e w25 ⟨v25,rfl,ho25,hb25⟩
       obtain⟨A25,c25,rfl⟩:=ownN_form ho25
       rw [←hnn9H.out]
       have hb25H:=Lib.hid (hb24H.out.trans (hb25.mono hb24H.out.size))
       have hstE:=Lib.hid (hst20.out.below hb25H.out)
       have hkE:Hid (Kp16 w1 F w25 F13 A20 lb):=Lib.hid (hk20.out.below hb25H.out)
       clear hb25 ho25
       go_wp2
       go_roundw
       case rel=>exact⟨i+1,root,its7,ns,hg,F13,R13,H13,(P+6),(G+2),lb,A20,c20,by omega,hlbl,by go_num,rfl,rfl,hstE,hprX,hkE,hA20H,hc20H,hszb⟩
       case measure=>simp [intOf];omega
  · obtain rfl:i=l.length:=by omega
    have hbw:=Lib.hid (hb1H.out.trans (hk.out.2.to_below hb1H.out.size hF1H.out))
    have hAw:=Lib.hid (awake16_at (hTH.out.below hbw.out (tab_lt hTH.out)))
    clear hst hpr hk
    go_wp2_with fail
    refine hAw.out.mono ?_
    rintro e w9 ⟨rfl,hb9⟩
    have hb9H:=Lib.hid (hbw.out.trans (hb9.mono hbw.out.size))
    clear hb9
    go_wp2
    go_ret
    exact⟨rfl,hb9H.out⟩
end Go.Proofs.YtjcpclcmnhpgpaaGreatDoor
namespace Go.Proofs.YtjcpclcmnhpgpaaGreatDoor
open Go.ChangeShapes Go.WideShapes Go.ChangeAt Go.WideMaps Go.WideElems Go.RowKit Go.Deep
theorem own:ownKnob Tryz.prog.godebug=none:=by kernel_rfl
theorem laidOut:laidOutB Tryz.prog=true:=by kernel_rfl
theorem gTab:Tryz.prog.globalNamed "math/bits.deBruijn64tab" =some 1:=by kernel_rfl
theorem tTab:(Tryz.prog.globals[1]?).map (·.type)=some 244:=by kernel_rfl
abbrev laidL:List (String × DataW Unit):= [("math/bits.deBruijn64tab",Rows.laid_math_bits_deBruijn64tab)]
theorem laid_list:(Rows.laid_math_bits_deBruijn64tab:DataW Unit)= .agg (Lib.deBruijn64tab.map fun n=> .lit (.int .u8 (n:Nat))):=rfl
theorem door_met(os:Os)(args:Array Value):laidMetH Tryz.prog laidL ((World.doorLaid Tryz.prog 400 os).forCall (fun _ _=>0) ⟨#[],args,[]⟩).memory:=
 laidMetH_of_parts3 (fuel:=8) (laidMet_of_run' 8 (by kernel_rfl) (by kernel_rfl)) (by kernel_rfl) (by kernel_rfl)
theorem of_laid{W:World}(h:laidMetH Tryz.prog laidL W):Tab W:=by
 rw [MakeChecks.laidMetH_plain _ _ _ (by kernel_rfl)] at h
 obtain⟨ps,⟨g0,t0,cs0,f0,p0,q0,hg0,ht0,hv0,hd0,_⟩,_⟩:=h
 obtain rfl:=Option.some.inj (gTab.symm.trans hg0)
 obtain rfl:=Option.some.inj (tTab.symm.trans ht0)
 obtain⟨xs,m1,rfl,hx1,hlen,hn,hel⟩:=DataW.trod_array Tryz.underlying244 hd0
 have c5:Tryz.prog.cellsOf 5=1:=by kernel_rfl
 simp only [Prod.mk.injEq] at hx1
 rw [laid_list] at hx1
 have hmap:xs.map (·.1)=Lib.deBruijn64tab.map fun n=>DataW.lit (Lit.int .u8 (n:Nat)):=by
  have:=hx1.1
  simp only [DataW.agg.injEq] at this
  exact this.symm
 intro j hj
 have hj64:j<64:=hj
 have hjx:j<xs.length:=by omega
 have h0:=hel j hj64
 rw [List.getElem?_eq_getElem hjx,c5,Nat.mul_one] at h0
 obtain⟨k,e1,e2,_⟩:=DataW.trod_int Tryz.underlying5 h0
 have h3:(xs.map (·.1))[j]? =some (.lit (.int .u8 (Lib.deBruijn64tab.getD j 0:Nat))):=by
  rw [hmap,List.getElem?_map,List.getElem?_eq_getElem hj]
  simp [List.getD_eq_getElem?_getD,List.getElem?_eq_getElem hj]
 rw [List.getElem?_map,List.getElem?_eq_getElem hjx,e2] at h3
 simp only [Option.map_some,Option.some.injEq,DataW.lit.injEq,Lit.int.injEq,true_and] at h3
 subst h3
 have hc:=World.var?_cell hg0 hv0 j
 rw [hc]
 have hd:cs0.toList[j]? =some (.int .u8 (Lib.deBruijn64tab.getD j 0:Nat)):=by
  have h5:((cs0.toList.drop j).take 1)[0]? =some (.int .u8 (Lib.deBruijn64tab.getD j 0:Nat)):=by rw [e1];rfl
  rw [List.getElem?_take,if_pos (by omega),List.getElem?_drop,Nat.add_zero] at h5
  exact h5
 simpa using hd
theorem int_bound{n:Int}(h:(Lit.int .i64 n).wf=true): -9223372036854775808≤n∧n≤9223372036854775807:=by
 simpa [Lit.wf,IntKind.min,IntKind.max,IntKind.signed,IntKind.bits] using h
theorem prsV_inv: ∀{l:List Pr} {j:Nat} {u:Value},(prsV l)[j]? =some u→ ∃(i:Nat) (hi:i<l.length),(j=i*2∧u= .string l[i].1)∨(j=i*2+1∧u= .string l[i].2)
 | [],j,u,h=>by simp [prsV] at h
 |p::l,0,u,h=>by simp [prsV] at h;exact⟨0,by simp, .inl ⟨rfl,h.symm⟩⟩
 |p::l,1,u,h=>by simp [prsV] at h;exact⟨0,by simp, .inr ⟨rfl,h.symm⟩⟩
 |p::l,j+2,u,h=>by
  obtain⟨i,hi,hh⟩:=prsV_inv (l:=l) (j:=j) (u:=u) (by simpa [prsV] using h)
  refine⟨i+1,by simpa using hi, ?_⟩
  rcases hh with ⟨h1,h2⟩|⟨h1,h2⟩
  · exact .inl ⟨by omega,h2⟩
  · exact .inr ⟨by omega,h2⟩
theorem addr_add(b o j:Nat):(⟨b,o,none⟩:Addr).add j=⟨b,o+j,none⟩:=by unfold Addr.add;split<;>simp_all
section
variable {H:Type} {enc:TypeId × Value→H} {w:World} {base:Nat} {held:Bool}
theorem open_prs{fuel:Nat}{cs:List Value}{x:DataW H × List MemPlace}(h:DataW.trod enc Tryz.prog w base (fun _=>true) held fuel 22 cs=some x): ∃A len cap l,cs= [.slice A len cap]∧len=l.length∧ILaw w A l:=by
 rcases open_slice_pairs Tryz.underlying22 Tryz.underlying37 (by kernel_rfl) rfl rfl (by kernel_rfl) (by kernel_rfl) h with ⟨hcs,_⟩|⟨a,len,cap,m,n,V0,V1,D0,D1,P0,P1,hcs,hb,hl,hm,hmm,_,hx⟩
 · exact⟨none,0,0,[],hcs,rfl, .inl rfl,fun p hp=>by simp at hp,by simp⟩
 · have hmc:m=cap:=by simpa using hmm
   subst hmc
   have hS: ∀i,∃p:Pr,i<m→V0 i= .string p.1∧V1 i= .string p.2∧p.1.size≤maxLen∧p.2.size≤maxLen:=fun i=>by
    by_cases hi:i<m
    · obtain⟨h1,h2,h3,h4⟩:=hx i hi
      obtain⟨s0,e0,_,z0⟩:=DataW.trod_string Tryz.underlying9 h3
      obtain⟨s1,e1,_,z1⟩:=DataW.trod_string Tryz.underlying9 h4
      exact⟨(s0,s1),fun _=>⟨by simpa using e0,by simpa using e1,z0,z1⟩⟩
    · exact⟨(⟨#[]⟩,⟨#[]⟩),fun hh=>absurd hh hi⟩
   obtain⟨f,hf⟩:=Classical.axiomOfChoice hS
   have hll:((List.range len).map f).length=len:=by simp
   unfold maxLen at hm
   refine⟨some a,len,m,(List.range len).map f,hcs,hll.symm, ?_, ?_,by rw [hll];omega⟩
   · by_cases h0:len=0
     · subst h0;exact .inl rfl
     · obtain⟨b,off,spot⟩:=a
       have hc0:=(hx 0 (by omega)).1
       have hspot:spot=none:=by simpa [Addr.add] using World.cell?_spot hc0
       subst hspot
       have hbl:=World.block_lt_of_cell? _ _ hc0
       rw [addr_add] at hbl
       refine .inr ⟨b,off,rfl,hbl,by show¬w.heap.size≤b;simp only at hbl;omega,fun j u hu=> ?_⟩
       obtain⟨i,hi,hh⟩:=prsV_inv hu
       have hil:i<len:=by omega
       obtain⟨c0,c1,_,_⟩:=hx i (by omega)
       obtain⟨g0,g1,_,_⟩:=hf i (by omega)
       rw [addr_add] at c0 c1
       have hget:((List.range len).map f)[i]=f i:=by simp
       rcases hh with ⟨rfl,rfl⟩|⟨rfl,rfl⟩
       · rw [c0,g0,hget]
       · rw [c1,g1,hget]
   · intro p hp
     obtain⟨i,hi,rfl⟩:=List.mem_map.1 hp
     have hil:i<len:=by simpa using hi
     obtain⟨_,_,z0,z1⟩:=hf i (by omega)
     unfold maxLen at z0 z1
     exact⟨z0,z1⟩
theorem open_zs{fuel:Nat}{cs:List Value}{x:DataW H × List MemPlace}(h:DataW.trod enc Tryz.prog w base (fun _=>true) held fuel 49 cs=some x): ∃A len cap zs,cs= [.slice A len cap]∧len=zs.length∧IInts w A zs:=by
 rcases open_ints Tryz.underlying49 Tryz.underlying3 (by kernel_rfl) h with ⟨hcs,_⟩|⟨a,len,cap,zs,hcs,hb,hl,hm,hz,_,hc,hwf⟩
 · exact⟨none,0,0,[],hcs,rfl, .inl rfl,by simp,fun z hz=>by simp at hz⟩
 · have hzc:zs.length=cap:=by simpa using hz
   unfold maxLen at hm
   have hll:(zs.take len).length=len:=by simp;omega
   refine⟨some a,len,cap,zs.take len,hcs,hll.symm, ?_,by rw [hll];omega,fun z hz=>int_bound (hwf z (List.mem_of_mem_take hz))⟩
   by_cases h0:len=0
   · subst h0;exact .inl rfl
   · obtain⟨b,off,spot⟩:=a
     have hc0:=hc 0 (by omega)
     have hspot:spot=none:=by simpa [Addr.add] using World.cell?_spot hc0
     subst hspot
     have hbl:=World.block_lt_of_cell? _ _ hc0
     rw [addr_add] at hbl
     refine .inr ⟨b,off,rfl,hbl,by show¬w.heap.size≤b;simp only at hbl;omega,fun j u hu=> ?_⟩
     rw [intsV,List.getElem?_map] at hu
     by_cases hj:j<(zs.take len).length
     · have hj2:j<zs.length:=by omega
       have h1:=hc j hj2
       rw [addr_add] at h1
       rw [h1]
       rw [List.getElem?_eq_getElem hj,Option.map_some,Option.some.injEq] at hu
       rw [←hu,List.getElem_take]
       simp [List.getD_eq_getElem?_getD,List.getElem?_eq_getElem hj2]
     · rw [List.getElem?_eq_none (by omega)] at hu
       cases hu
end
end Go.Proofs.YtjcpclcmnhpgpaaGreatDoor
