/- A part. -/
import Derived.Test.YtiopopoohglepaaGreatDoorVMf
import Derived.Shelf.SlIterI.Nil
import Derived.Shelf.SortM.Plain
import Derived.Shelf.SortM.SortNone
import Derived.Ground.GgzProg
import Derived.Ground.SlgmProg
set_option linter.all false
set_option maxRecDepth 100000
set_option maxHeartbeats 1000000
namespace Go.Proofs.YtiopopoohglepaaGreatDoor
open Go.Proofs.Tryz
open Go.RowKit Go.Shelf Go.Maps Go.Sort
variable {a mb q:Nat}{mem:Nat->Nat}{ps:List Nat}{w:World}
def Tryz.Nl:Go.Shelf.Ren:=⟨fun|7=>116|10=>156|n=>n,fun|23=>124|26=>3|3=>193|28=>191|0=>0|27=>190|33=>196|4=>4|n=>n,fun|n=>n⟩
theorem Tryz.Yc:Go.Proofs.SlLaysZI.n7 Tryz.prog Tryz.Nl:={
 mixed:=by kernel_rfl
 f7:=⟨Tryz.f116.name,by decide,Tryz.func116.trans (congrArg some (by kernel_rfl))⟩
 f10:=⟨Tryz.f156.name,by decide,Tryz.func156.trans (congrArg some (by kernel_rfl))⟩
 t0:=Tryz.underlying0
 a0:=Tryz.isAgg0
 z0:=Tryz.sizeOf0
 v0:=Tryz.zeroValue0
 t4:=Tryz.underlying4
 a4:=Tryz.isAgg4
 z4:=Tryz.sizeOf4
 v4:=Tryz.zeroValue4
 t23:=Tryz.underlying124
 a23:=Tryz.isAgg124
 z23:=Tryz.sizeOf124
 v23:=Tryz.zeroValue124
 t26:=Tryz.underlying3
 a26:=Tryz.isAgg3
 z26:=Tryz.sizeOf3
 v26:=Tryz.zeroValue3
 t27:=Tryz.underlying190
 a27:=Tryz.isAgg190
 z27:=Tryz.sizeOf190
 v27:=Tryz.zeroValue190
 t28:=Tryz.underlying191
 a28:=Tryz.isAgg191
 z28:=Tryz.sizeOf191
 v28:=Tryz.zeroValue191
 t33:=Tryz.underlying196
 a33:=Tryz.isAgg196
 z33:=Tryz.sizeOf196
 v33:=Tryz.zeroValue196 }
def Tryz.KI:Go.Shelf.Ren:=⟨fun|6=>115|8=>154|9=>155|11=>170|13=>168|12=>171|23=>186|24=>187|14=>188|15=>189|16=>190|17=>191|18=>192|19=>193|20=>194|21=>195|22=>196|25=>203|26=>198|27=>199|28=>204|29=>205|30=>206|31=>208|n=>n,fun|26=>3|28=>191|24=>39|0=>0|3=>3|37=>209|48=>28|50=>22|4=>4|40=>249|39=>248|45=>141|5=>5|9=>9|51=>261|55=>144|57=>268|58=>269|33=>196|n=>n,fun|n=>n⟩
theorem Tryz.XD:Go.Proofs.SlLaysZI.n6 Tryz.prog Tryz.KI:={
 mixed:=by kernel_rfl
 f6:=⟨Tryz.f115.name,by decide,Tryz.func115.trans (congrArg some (by kernel_rfl))⟩
 f8:=⟨Tryz.f154.name,by decide,Tryz.func154.trans (congrArg some (by kernel_rfl))⟩
 f11:=⟨Tryz.f170.name,by decide,Tryz.func170.trans (congrArg some (by kernel_rfl))⟩
 t0:=Tryz.underlying0
 a0:=Tryz.isAgg0
 z0:=Tryz.sizeOf0
 v0:=Tryz.zeroValue0
 t24:=Tryz.underlying39
 a24:=Tryz.isAgg39
 z24:=Tryz.sizeOf39
 v24:=Tryz.zeroValue39
 t26:=Tryz.underlying3
 a26:=Tryz.isAgg3
 z26:=Tryz.sizeOf3
 v26:=Tryz.zeroValue3
 t28:=Tryz.underlying191
 a28:=Tryz.isAgg191
 z28:=Tryz.sizeOf191
 v28:=Tryz.zeroValue191
 i26:=by kernel_rfl }
def Tryz.Ts:Go.Shelf.Ren:=⟨fun|5=>155|8=>168|7=>171|19=>186|20=>187|10=>188|11=>189|12=>190|13=>191|14=>192|15=>193|16=>194|17=>195|18=>196|30=>203|31=>198|32=>199|33=>204|34=>205|35=>206|40=>208|n=>n,fun|23=>39|25=>3|3=>3|32=>209|22=>39|0=>0|44=>28|46=>22|4=>4|36=>249|35=>248|41=>141|5=>5|9=>9|53=>261|57=>144|63=>268|64=>269|n=>n,fun|n=>n⟩
theorem Tryz.XW:Go.Proofs.SlLaysM.n5 Tryz.prog Tryz.Ts:={
 mixed:=by kernel_rfl
 f5:=⟨Tryz.f155.name,by decide,Tryz.func155.trans (congrArg some (by kernel_rfl))⟩
 f7:=⟨Tryz.f171.name,by decide,Tryz.func171.trans (congrArg some (by kernel_rfl))⟩
 f8:=Tryz.func168.trans (congrArg some (by kernel_rfl))
 f10:=⟨Tryz.f188.name,by decide,Tryz.func188.trans (congrArg some (by kernel_rfl))⟩
 f11:=⟨Tryz.f189.name,by decide,Tryz.func189.trans (congrArg some (by kernel_rfl))⟩
 f12:=⟨Tryz.f190.name,by decide,Tryz.func190.trans (congrArg some (by kernel_rfl))⟩
 f13:=⟨Tryz.f191.name,by decide,Tryz.func191.trans (congrArg some (by kernel_rfl))⟩
 f14:=⟨Tryz.f192.name,by decide,Tryz.func192.trans (congrArg some (by kernel_rfl))⟩
 f15:=⟨Tryz.f193.name,by decide,Tryz.func193.trans (congrArg some (by kernel_rfl))⟩
 f16:=⟨Tryz.f194.name,by decide,Tryz.func194.trans (congrArg some (by kernel_rfl))⟩
 f17:=⟨Tryz.f195.name,by decide,Tryz.func195.trans (congrArg some (by kernel_rfl))⟩
 f18:=⟨Tryz.f196.name,by decide,Tryz.func196.trans (congrArg some (by kernel_rfl))⟩
 f19:=Tryz.func186.trans (congrArg some (by kernel_rfl))
 f20:=Tryz.func187.trans (congrArg some (by kernel_rfl))
 f30:=⟨Tryz.f203.name,by decide,Tryz.func203.trans (congrArg some (by kernel_rfl))⟩
 f31:=Tryz.func198.trans (congrArg some (by kernel_rfl))
 f32:=Tryz.func199.trans (congrArg some (by kernel_rfl))
 f33:=⟨Tryz.f204.name,by decide,Tryz.func204.trans (congrArg some (by kernel_rfl))⟩
 f34:=⟨Tryz.f205.name,by decide,Tryz.func205.trans (congrArg some (by kernel_rfl))⟩
 f35:=⟨Tryz.f206.name,by decide,Tryz.func206.trans (congrArg some (by kernel_rfl))⟩
 f40:=⟨Tryz.f208.name,by decide,Tryz.func208.trans (congrArg some (by kernel_rfl))⟩
 t0:=Tryz.underlying0
 a0:=Tryz.isAgg0
 z0:=Tryz.sizeOf0
 v0:=Tryz.zeroValue0
 t3:=Tryz.underlying3
 a3:=Tryz.isAgg3
 z3:=Tryz.sizeOf3
 v3:=Tryz.zeroValue3
 t4:=Tryz.underlying4
 a4:=Tryz.isAgg4
 z4:=Tryz.sizeOf4
 v4:=Tryz.zeroValue4
 t5:=Tryz.underlying5
 a5:=Tryz.isAgg5
 z5:=Tryz.sizeOf5
 v5:=Tryz.zeroValue5
 t9:=Tryz.underlying9
 a9:=Tryz.isAgg9
 z9:=Tryz.sizeOf9
 v9:=Tryz.zeroValue9
 t22:=Tryz.underlying39
 a22:=Tryz.isAgg39
 z22:=Tryz.sizeOf39
 v22:=Tryz.zeroValue39
 t23:=Tryz.underlying39
 a23:=Tryz.isAgg39
 z23:=Tryz.sizeOf39
 v23:=Tryz.zeroValue39
 t25:=Tryz.underlying3
 a25:=Tryz.isAgg3
 z25:=Tryz.sizeOf3
 v25:=Tryz.zeroValue3
 t32:=Tryz.underlying209
 a32:=Tryz.isAgg209
 z32:=Tryz.sizeOf209
 v32:=Tryz.zeroValue209
 t35:=Tryz.underlying248
 a35:=Tryz.isAgg248
 z35:=Tryz.sizeOf248
 v35:=Tryz.zeroValue248
 t36:=Tryz.underlying249
 a36:=Tryz.isAgg249
 z36:=Tryz.sizeOf249
 v36:=Tryz.zeroValue249
 t41:=Tryz.underlying141
 a41:=Tryz.isAgg141
 z41:=Tryz.sizeOf141
 v41:=Tryz.zeroValue141
 t44:=Tryz.underlying28
 a44:=Tryz.isAgg28
 z44:=Tryz.sizeOf28
 v44:=Tryz.zeroValue28
 t46:=Tryz.underlying22
 a46:=Tryz.isAgg22
 z46:=Tryz.sizeOf22
 v46:=Tryz.zeroValue22
 t53:=Tryz.underlying261
 a53:=Tryz.isAgg261
 z53:=Tryz.sizeOf261
 v53:=Tryz.zeroValue261
 t57:=Tryz.underlying144
 a57:=Tryz.isAgg144
 z57:=Tryz.sizeOf144
 v57:=Tryz.zeroValue144
 t63:=Tryz.underlying268
 a63:=Tryz.isAgg268
 z63:=Tryz.sizeOf268
 v63:=Tryz.zeroValue268
 t64:=Tryz.underlying269
 a64:=Tryz.isAgg269
 z64:=Tryz.sizeOf269
 v64:=Tryz.zeroValue269 }
theorem Y4(m:Nat):AnyZI.SortsIn prog Tryz.KI Fence.wide m:=
 ⟨λAz off cap d W I J O=>callsIn_wide.2 (AnyM.slices_Sort_int Tryz.XW Az off cap d W I J O),
  λp cap W=>callsIn_wide.2 (AnyM.slices_Sort_int_none Tryz.XW p cap W)⟩
theorem O9{D:DW}(h:AW w a mb D ps q mem):
 Calls prog 65 #[.pointer (some ⟨a,0,none⟩)] w λe w' => ∃(v:Value) (d:List Int),e= .returned v/\d.Perm (intKeys D)/\
  w'.ownsRow w.heap.size 3 1 v d.length ((d.mergeSort (λx y=>decide (x<=y))).map encZ)/\(v= .slice none 0 0↔d= [])/\Below w.heap.size w w' :=by
 refine(callsIn_wide (n:=6)).1 ?_;have I:=h.own;have O:=I.lt;have U:Maps.size D<=maxLen:=by have:=h.room;have:=h.Dw;unfold maxLen;omega
 have V:Maps.size D*8<=140737488355328:=by have:=h.room;have:=h.Dw;omega
 have Z:SeqGives Fence.wide 2 prog 156 #[.pointer (some ⟨w.heap.size,0,none⟩)] encZ (λd=>d.Perm (intKeys D)) (Maps.size D) (w.alloc (.cells #[.map (some mb)] 124)):=
  AnyZI.keys_gives (ρ:=Tryz.Nl) { Tryz.Yc with } Fence.wide _ trivial rfl (by omega) w.heap.size mb _ D _ (by simp) (by simp) (by
   obtain⟨es,clock,J,aa,hs,ab⟩:=I;exact⟨es,clock,(Below.heap_alloc _ _ mb O).trans J,aa,hs,ab⟩)
 have ac: ∀mb W,CallsIn Fence.wide 5 prog 116 #[.map mb] W λe w' =>e= .returned (.func (.func 156) #[] #[.pointer (some ⟨W.heap.size,0,none⟩)])/\w' =W.alloc (.cells #[.map mb] 124):=λmb W=>AnyZI.keys_in Tryz.Yc Fence.wide 5 trivial rfl mb W
 have cS:=AnyZI.sorted_in Tryz.XD Fence.wide 5 trivial trivial trivial trivial rfl (by omega) (Y4 _) (enters_of func155 (by kernel_rfl) rfl) 156 #[.pointer (some ⟨w.heap.size,0,none⟩)] trivial (enters_of func156 (by kernel_rfl) rfl) _ _ U V _ Z
 change CallsIn _ _ prog 115 _ _ _ at cS
 have ai:=h.cm;have aj:Fence.wide.fn 116:=trivial;have al:Fence.wide.fn 115:=trivial;have ae:=Zh (callsIn_wide (n:=5) |>.2 (FO h));have am:Fence.wide.fn 114:=trivial;clear h U V O I;refine callsIn_of_wp func65 rfl trivial ?_ rfl;simp only [ntmps65,List.size_toArray,List.length_cons,List.length_nil,Nat.reduceAdd,Nat.reduceSub,Array.replicate_succ,Array.replicate_zero,List.push_toArray,List.append_toArray,List.nil_append,List.cons_append]
 gi_wp2_with (first
  |(gi_at_call 114;refine ae.mono ?_;rintro e w' ⟨rfl,rfl⟩)
  |(gi_at_call 116;refine(ac _ _).mono ?_;rintro e w' ⟨rfl,rfl⟩)
  |(gi_at_call 115;refine cS.mono ?_;rintro e w' ⟨v,d,rfl,af,ag,ah,J⟩))
 go_ret;exact⟨v,d,rfl,af,ownsRow_base_a ag (by simp),ah,((Below.refl _ w).alloc (Nat.le_refl _) _).trans (J.mono (by simp))⟩
theorem QX{D:DW}(h:AW w a mb D ps q mem)(x:Int):Maps.has D (.int .i64 x)=true↔ ∃k∈ps,x=(k:Nat):=by
 rw [<-h.Cc x];refine⟨h.full x,λhh=> ?_⟩
 cases hs:Maps.has D (.int .i64 x) with
 |true=>rfl
 |false=>exact absurd (by unfold Cw;rw [Maps.atKey_of_not_has hs];rfl) hh
theorem JB{D:DW}(h:AW w a mb D ps q mem)(U:ps.Pairwise (· < ·)){d:List Int}(hp:d.Perm (intKeys D)):
 d.length=ps.length/\(d.mergeSort (λx y=>decide (x<=y))).map encZ=ps.map λp:Nat=>Value.int .i64 (p:Int):=by
 obtain⟨es,rfl,V⟩:=World.ownsMap.tidy h.own E7;have h1:(ps.map λp:Nat=>(p:Int)).Perm (intKeys (.map es)):=by
  refine perm_intKeys V ?_ ?_ ?_
  . intro p hp
    obtain⟨x,hx⟩:=h.keys p.1 (by
     rw [Maps.has_eq,List.any_eq_true];refine⟨p,hp, ?_⟩;obtain⟨ac,Z,ae,aa⟩:=World.ownsMap.entries h.own E7
     cases Z
     exact WideAt.sameKey_self (aa p hp))
    exact⟨x,hx⟩
  . refine List.Pairwise.imp (S:=λa b=>a≠b) (λI=> ?_) ((List.pairwise_map.2 (U.imp (S:=λ(a b:Nat)=>(a:Int)<(b:Int)) (λI=>by omega))))
    omega
  . intro x
    rw [QX h x];simp only [List.mem_map];exact⟨λ⟨k,O,e⟩=>⟨k,O,e.symm⟩,λ⟨k,O,e⟩=>⟨k,O,e.symm⟩⟩
 have J:d.Perm (ps.map λp:Nat=>(p:Int)):=hp.trans h1.symm;have ab:d.mergeSort (λx y=>decide (x<=y))=ps.map λp:Nat=>(p:Int):=by
  refine List.Perm.eq_of_pairwise (le:=λx y=>x<=y) (λa b _ _ h1 J=>by omega) ?_ ?_ ((List.mergeSort_perm _ _).trans J)
  . have:=List.pairwise_mergeSort (le:=λx y:Int=>decide (x<=y)) (λa b c h1 J=>by simp at *; omega) (λa b=>by simp;omega) d
    exact this.imp (λI=>by simpa using I)
  . exact List.pairwise_map.2 (U.imp (λI=>by omega))
 refine⟨by rw [J.length_eq,List.length_map], ?_⟩;rw [ab,List.map_map];rfl
theorem J9{D:DW}(h:AW w a mb D ps q mem)(I:ps.Pairwise (· < ·)):
 Calls prog 65 #[.pointer (some ⟨a,0,none⟩)] w λe w' => ∃v,e= .returned v/\w'.ownsRow w.heap.size 3 1 v ps.length (ps.map λp:Nat=>Value.int .i64 (p:Int))/\Below w.heap.size w w' :=
 (O9 h).mono λe w' ⟨v,U,he,hp,d,_,J⟩=>by
  obtain⟨h1,O⟩:=JB h I hp;rw [h1,O] at d;exact⟨v,he,d,J⟩
theorem WC(w:World)(q:Nat)(I:q<=262144)(t:TypeId):AW ((w.alloc (.map #[] 0)).alloc (.cells #[.int .i64 q, .map (some w.heap.size)] t)) (w.heap.size+1) w.heap.size (.map []) [] q (λ_=>0):=by
 have d: ∀p:Int,Cw (.map []) p=none:=λp=>rfl
 refine⟨?_, ?_, ?_, ?_, ?_,List.Pairwise.nil,rfl, ?_, ?_,I,by simp, ?_, ?_, ?_,λ_=>by omega⟩
 . go_simp
 . go_simp
 . exact(World.ownsMap_made w _ _ _).alloc _
 . simp [Maps.size]
 . intro p;rw [d];simp
 . intro p h;simp [Maps.has] at h
 . intro k h;simp [Maps.has] at h
 . intro p g h;rw [d] at h;cases h
 . intro p J g h;rw [d] at h;cases h
 . intro p g h;rw [d] at h;cases h
theorem QY(q:Nat)(d:q<=262144)(w:World):
 Calls prog 27 #[.int .i64 q] w λe w' => ∃a mb,e= .returned (.tuple #[.pointer (some ⟨a,0,none⟩), .int .i64 0])/\AW w' a mb (.map []) [] q (λ_=>0)/\w.heap.size<=a/\w.heap.size<=mb/\Below w.heap.size w w' :=by
 have d1:decide ((q:Int)<0)=false:=by simp
 have d2:decide ((262144:Int)<(q:Int))=false:=by simp;omega
 have I:=λw=>run_makeMap (P:=prog) 124 w
 go_enter func27,ntmps27;go_wp2
 go_ret2
 exact⟨w.heap.size+1,w.heap.size,rfl,WC w q d _,by omega,Nat.le_refl _,((Below.refl _ w).alloc (Nat.le_refl _) _).alloc (by simp) _⟩
def Sh(w:World)(D:DW)(w' :World)(D' :DW)(mb:Nat):Prop:=w.mapTurned w' mb/\ ∀p g:Nat,Cw D' (p:Nat)=some g->Cw D (p:Nat)=some g
theorem AW.drop1{D:DW}{p n:Nat}(h:AW w a mb D (p::ps) q mem){w' :World}
 (af:Ez w' mb n (D.del (.int .i64 p))) (Z:w.mapTurned w' mb):AW w' a mb (D.del (.int .i64 p)) ps q mem/\Sh w D w' (D.del (.int .i64 p)) mb:=by
 have I:=Fk h.own h.cq;have ag:Maps.Tidy D:=World.ownsMap.tidy h.own E7;have ah:=Z.grown;have d: ∀k,k<w.heap.size->k≠mb->w'.heap[k]? =w.heap[k]? :=λk J ai=>ah.block k J (by simpa using ai)
 have O: ∀x:Int,Cw (D.del (.int .i64 p)) x=if x=(p:Nat) then none else Cw D x:=λx=>Vd _ _
 have hold: ∀x g:Nat,Cw (D.del (.int .i64 p)) (x:Nat)=some g->Cw D (x:Nat)=some g:=λx g hg=>by
  rw [O] at hg;by_cases hx:(x:Int)=(p:Nat)
  . rw [if_pos hx] at hg;cases hg
  . rwa [if_neg hx] at hg
 have aj:Maps.has D (.int .i64 p)=true:=(QX h _).2 ⟨p,by simp,rfl⟩;have aa:=List.nodup_cons.1 h.nodup;have ab:Maps.size (D.del (.int .i64 p))=ps.length:=by
  have h1:=Maps.size_del (k:= .int .i64 p) ag;rw [aj,if_pos rfl,h.count,List.length_cons] at h1;omega
 refine⟨⟨?_, ?_,af.tight, ?_, ?_,aa.2,ab, ?_, ?_,h.Dw, ?_, ?_, ?_, ?_,h.word⟩,Z,hold⟩
 . exact Yen
 . exact Yeo
 . have:=h.room;rw [h.count,List.length_cons] at this;rw [ab];omega
 . intro x
   rw [O];by_cases hx:x=(p:Nat)
   . rw [if_pos hx]
     refine⟨λhh=>absurd rfl hh, ?_⟩;rintro⟨k,J,rfl⟩;obtain rfl:k=p:=by omega
     exact absurd J aa.1
   . rw [if_neg hx,h.Cc x]
     constructor
     . rintro⟨k,J,rfl⟩
       rcases List.mem_cons.1 J with rfl|h1
       . exact absurd rfl hx
       . exact⟨k,h1,rfl⟩
     . rintro⟨k,J,rfl⟩
       exact⟨k,List.mem_cons_of_mem _ J,rfl⟩
 . intro x hx
   by_cases U:x=(p:Nat)
   . subst U;rw [Maps.has_del_same] at hx;cases hx
   . rw [Maps.has_del_other (by simpa using U)] at hx
     rw [O,if_neg U];exact h.full x hx
 . intro k J
   by_cases ac:k= .int .i64 p
   . exact⟨_,ac⟩
   . rw [Maps.has_del_other ac] at J
     exact h.keys k J
 . intro x hx;exact h.low x (List.mem_cons_of_mem _ hx)
 . intro x g hg k J
   have V :=hold x g hg;have hw:=h.words x g V k J;have ae:=d g (Al (a:=⟨g,k,none⟩) hw.1) (Fk h.own hw.1);exact⟨(World.cell?_of_block (a:=⟨g,k,none⟩) ae).trans hw.1,(World.frozen?_of_block (a:=⟨g,k,none⟩) ae).trans hw.2⟩
 . intro x al g hg V;exact h.inj x al g (hold _ _ hg) (hold _ _ V)
 . intro x g hg;exact h.off x g (hold _ _ hg)
theorem Sh.refl{D:DW}(h:AW w a mb D ps q mem):Sh w D w D mb:=⟨World.ownsMap.turned_refl h.own,λ_ _ h=>h⟩
theorem Sh.trans{w1 w2:World}{D D1 d:DW}(h:Sh w D w1 D1 mb)(k:Sh w1 D1 w2 d mb):Sh w D w2 d mb:=⟨h.1.trans k.1,λp g hp=>h.2 p g (k.2 p g hp)⟩
theorem L8{D:DW}(f n:Nat)(h:AW w a mb D (List.range' f n++ps) q mem)(am:1<=n)(an:n<=4096):
 Calls prog 104 #[.pointer (some ⟨a,0,none⟩), .int .i64 f, .int .i64 n] w λe w' => ∃D',e= .returned (.int .i64 0)/\AW w' a mb D' ps q mem/\Sh w D w' D' mb:=by
 have ae:=h.cm;have U:=h.own;have hN:=Zh (FO h);have ao:=h.low (f+(n-1)) (List.mem_append_left _ (by rw [List.mem_range'_1];omega));obtain⟨d1,d2⟩:=Z0;have d3:decide ((f:Int)<0)=false:=by simp
 have d4:decide ((1048575:Int)-(n:Int)+1<(f:Int))=false:=by simp;omega
 have V:=Zh h;clear h;go_enter func104,ntmps104;go_wp2_with (go_at_call 114;refine hN.mono ?_;rintro e w' ⟨rfl,rfl⟩);clear d1 d2 d3 d4 hN
 go_loopw [31] (λZ wr=> ∃k:Nat,k<=n/\Z= .int .i64 k/\wr=w) (λZ _=>n-(intOf Z).toNat)
 case atStart=>exact⟨0,by omega,rfl,rfl⟩
 case round=>
  obtain⟨k,aq,rfl,ah⟩:=hrel;subst ah;by_cases ar:k<n
  . obtain⟨g,hg⟩:=V.UR (p:=f+k) (List.mem_append_left _ (by rw [List.mem_range'_1];omega))
    have ai:=Zh hg;clear hg;go_wp2_with (at_lookup;refine EM _ rfl _ _ rfl mb _ D rfl U ((f:Int)+(k:Int)) rfl (by omega) (by omega) ?_;rw [show(f:Int)+(k:Int)=((f+k:Nat):Int) by push_cast;rfl,ai.out];dsimp only [S4]);go_roundw
    case rel=>exact⟨k+1,by omega,by go_num,by trivial⟩
    case measure=>simp [intOf];omega
  . obtain rfl:k=n:=by omega
    obtain⟨aa,rfl⟩: ∃aa:World,aa=wr:=⟨_,rfl⟩;go_wp2
    go_loopw [45] (λab af=> ∃j:Nat,j<=k/\ab= .int .i64 j/\ ∃D',AW af a mb D' (List.range' (f+j) (k-j)++ps) q mem/\Sh aa D af D' mb) (λab _=>k-(intOf ab).toNat)
    case atStart=>exact⟨0,by omega,rfl,D,V,Sh.refl V⟩
    case round=>
     obtain⟨j,au,rfl,D',d,J⟩:=hrel;by_cases aw:j<k
     . have hm:=d.own
       have ax:=d.cm;have ac:=Zh d;have I:=Zh J;clear d J ae U;go_wp2_with (at_delete;refine wpList_delete_own _ rfl _ _ 124 3 rfl 193 E7 Tryz.underlying124 F9 mb _ D' rfl hm _ (.int .i64 ((f+j:Nat):Int)) rfl (QL (p:=((f+j:Nat):Int)) (by omega) (by omega)) ?_;intro w1 aj al);have ag:=ac.out;rw [show k-j=(k-(j+1))+1 by omega,List.range'_succ,List.cons_append] at ag;have O:=ag.drop1 aj al;go_wp2;exact Yei
     . obtain rfl:j=k:=by omega
       have ac:=Zh d;have I:=Zh J;clear d J ae U;go_wp2;go_ret;exact⟨D',rfl,by simpa using ac.out,I⟩
