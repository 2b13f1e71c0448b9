/- A part. -/
import Derived.Test.YtiopopoohglepaaGreatDoorVMv
import Derived.Shelf.Spec.SlicesInsert
import Derived.Lib.AppendZerosOnto
import Derived.Laws.NewBlocks
set_option linter.all false
set_option maxRecDepth 100000
set_option maxHeartbeats 16000000
namespace Go.Proofs.YtiopopoohglepaaGreatDoor
open Go.Proofs.Tryz
open Go.RowKit Go.Shelf Go.Lib
variable {A:Option Addr}{B N b2 bl cap g j o t vb x:Nat}{F F':Nat->Prop}{T e:TypeId}{W W' w w3:World}{cur:Array Value}{l st:List Nat}{n:BN}{v v':Value}
def Hu(cur:Array Value):Nat->List Value->Array Value
 |_,[]=>cur
 |o,v::vs=>Hu (cur.setIfInBounds o v) (o+1) vs
theorem Dj: ∀(vs:List Value) (o:Nat) (cur:Array Value),(Hu cur o vs).size=cur.size
 | [],_,_=>rfl
 |v::vs,o,cur=>by unfold Hu;rw [Dj vs,Array.size_setIfInBounds]
theorem Gv: ∀(vs:List Value) (o:Nat) (cur:Array Value),o+vs.length<=cur.size->(Hu cur o vs).toList=cur.toList.take o++(vs++cur.toList.drop (o+vs.length))
 | [],o,cur,_=>by simp [Hu]
 |v::vs,o,cur,h=>by
  simp only [List.length_cons] at h;unfold Hu;rw [Gv vs (o+1) _ (by rw [Array.size_setIfInBounds];omega),Array.toList_setIfInBounds];have d:o<cur.toList.length:=by rw [Array.length_toList];omega
  rw [List.take_set,List.drop_set_of_lt (by omega),List.take_succ_eq_append_getElem d,List.set_append_right _ _ (by rw [List.length_take];omega)];rw [List.length_take,Nat.min_eq_left (by omega),Nat.sub_self];simp only [List.set_cons_zero,List.append_assoc,List.cons_append,List.nil_append,List.length_cons];rw [show o+(vs.length+1)=o+1+vs.length by omega]
theorem OB{fr:Nat × Nat}(h:w.heap[g]? =some (.cells cur e fr))(v:Value):(w.setCell ⟨g,o,none⟩ v).heap[g]? =some (.cells (cur.setIfInBounds o v) e fr):=by
 simp [World.setCell,Array.getElem?_modify,h]
theorem DK: ∀(vs:List Value) (o:Nat) (w:World) {g:Nat} {cur:Array Value} {e:TypeId} {fr:Nat × Nat},w.heap[g]? =some (.cells cur e fr)->(w.setCells g o vs).heap[g]? =some (.cells (Hu cur o vs) e fr)
 | [],_,_,_,_,_,_,h=>h
 |v::vs,o,w,g,cur,e,fr,h=>DK vs (o+1) _ (OB h v)
theorem Dt: ∀(vs:List Value) (o:Nat) (w:World) (g k:Nat),k≠g->(w.setCells g o vs).heap[k]? =w.heap[k]?
 | [],_,_,_,_,_=>rfl
 |v::vs,o,w,g,k,h=>(Dt vs (o+1) _ g k h).trans (Below.heap_setCell w ⟨g,o,none⟩ v k h)
theorem DI: ∀(vs:List Value) (o:Nat) (w:World) (g:Nat),(w.setCells g o vs).heap.size=w.heap.size/\(w.setCells g o vs).os=w.os/\(w.setCells g o vs).tape=w.tape/\(w.setCells g o vs).output=w.output
 | [],_,_,_=>⟨rfl,rfl,rfl,rfl⟩
 |v::vs,o,w,g=>by
  obtain⟨h1,d,I,J⟩:=DI vs (o+1) (w.setCell ⟨g,o,none⟩ v) g;exact⟨by rw [World.setCells,h1];simp [World.setCell],d,I,J⟩
theorem I3{fr:Nat × Nat}(h:w.heap[g]? =some (.cells cur e fr)):w.cell? ⟨g,j,none⟩=cur[j]? :=by simp [World.cell?,h]
theorem J2(h:w.heap[g]? =some (.cells cur e (0,0))):w.frozen? ⟨g,j,none⟩=false:=by simp [World.frozen?,h]
theorem F1{u:Value}{fr:Nat × Nat}(h:w.heap[g]? =some (.cells #[u] e fr)): ∀j d,[u][j]? =some d ->w.cell? ((⟨g,0,none⟩:Addr).add j)=some d :=by
 intro j d I
 cases j with
 |zero=>rw [Addr.add_lit,I3 h];simpa using I
 |succ j=>simp at I
def JF(B:Nat)(w:World)(r:Option Nat)(l:List Nat)(e:Ending)(w' :World):Prop:=
 ∃v',e= .returned v' /\w'.ownsRow B 23 1 v' l.length (AG l)/\Rw w w' r v'.ownBlock
theorem IF(a b:List Nat):AG (a++b)=AG a++AG b:=by unfold AG;simp
theorem Km: ∀v∈AG l,v.oneCell' =true:=by
 intro v d;unfold AG at d;obtain⟨x,_,rfl⟩:=List.mem_map.1 d;rfl
theorem Tryz.OU:(Tryz.prog.info? 23).map (·.size)=some 1:=by kernel_rfl
theorem PZ(aa:B<=w.heap.size)(d:w.ownsRow B 23 1 v l.length (AG l))(an:l.length<=100000)(ab:w.heap[vb]? =some (.cells #[.int .u64 x] 23 (0,0))):
 Calls prog 88 #[v, .int .i64 l.length, .slice (some ⟨vb,0,none⟩) 1 1] w (JF B w v.ownBlock (l++ [x])):=by
 obtain⟨i0,hi,ac,ae,af⟩:=info_parts Tryz.CV;have ag:Hid (∀v' w',w'.ownsRow B 23 1 v' (l.length+1) (AG l++ [.int .u64 x])->w.grownBy w' v.ownBlock->(v'.ownBlock=v.ownBlock\/v'.ownBlock=some w.heap.size)->JF B w v.ownBlock (l++ [x]) (.returned v') w'):=Zh (λv' w' h1 I U=>by
  refine⟨v',rfl,by rw [List.length_append,IF];exact h1,I, ?_⟩;rcases U with U|U
  . exact .inl U
  . exact Z4)
 have ah:=Zh ab;clear ab;rcases d.2 with ⟨rfl,I⟩|⟨g,cap,cur,rfl,I,U,ao,ai,aj⟩
 . obtain rfl:l= []:=List.eq_nil_of_length_eq_zero I
   have J:=Zh d;clear d I;go_enter func88,ntmps88;go_wp2_with (at_builtin;refine wpList_append_own_at _ rfl _ _ 46 rfl B 23 i0 (.int .u64 0) 1 8 Tryz.BI hi ac ae af rfl (by decide) _ _ _ rfl J ⟨vb,0,none⟩ 1 1 [.int .u64 x] rfl rfl (F1 ah) (by simp [Value.oneCell']) (by unfold maxLen;omega) (by omega) aa ?_;intro v' w4 O V _ Z)
   all_goals
    go_ret;exact ag.out _ _ O V Z
 . have al:=ai
   unfold maxLen at al;have J:=Zh d;clear d U ai aj;have am:Hid (∀c v' w',w'.ownsRow B 23 1 v' (l.length+1) (AG l++ [.int .u64 x])->w.grownBy w' (some g)->(v'.ownBlock=some g\/v'.ownBlock=some w.heap.size)->JF B w (Value.slice (some ⟨g,0,none⟩) l.length c).ownBlock (l++ [x]) (.returned v') w'):=Zh (λ_=>ag);go_enter func88,ntmps88;go_wp2_with (at_builtin;refine wpList_append_own_at _ rfl _ _ 46 rfl B 23 i0 (.int .u64 0) 1 8 Tryz.BI hi ac ae af rfl (by decide) _ _ _ rfl J ⟨vb,0,none⟩ 1 1 [.int .u64 x] rfl rfl (F1 ah) (by simp [Value.oneCell']) (by unfold maxLen;omega) (by omega) aa ?_;intro v' w4 O V _ Z)
   all_goals
    go_ret;exact am.out _ _ _ O V Z
theorem K5{cs:List Value}(d:W.heap[g]? =some (.cells cur T (0,0)))(Z:o+cs.length<=cur.size)(h1: ∀v∈cs,v.oneCell' =true){a:Addr}{sLen dLen:Nat}(O:cs.length=Nat.min sLen dLen)(U: ∀j v,cs[j]? =some v->W.cell? (a.add j)=some v)(ty:TypeId)(I J:Nat):
 (Builtin.copy_ #[46,46] ty #[.slice (some ⟨g,o,none⟩) dLen I, .slice (some a) sLen J]).run prog W= .ok (goInt cs.length) (W.setCells g o cs):=
 run_copy_cells W _ _ ty 23 g o dLen I a sLen J cs Tryz.BI Tryz.OU O U (λj V=>by rw [I3 d,Array.getElem?_eq_getElem (by omega)];rfl) (λj V=>J2 d) h1
theorem PH{fr:Nat × Nat}(h:w.heap[g]? =some (.cells cur e fr)):w.shape? g=some (e,cur.size):=by simp [World.shape?,h]
def Yer{P}(h:P:=by
 rw [<-I,List.getElem?_take] at d
 split at d
 . rw [<-Array.getElem?_toList];exact d
 . cases d):=h
def Ymv{P}(h:P:=by
 have d:AG (x::l.drop k)=(Value.int .u64 x)::(AG l).drop k:=by unfold AG;simp
 have I:AG (l.take k)=(AG l).take k:=by unfold AG;simp
 exact And.intro d I):=h
def Ynm{P}(h:P:=by
 have hlen:(AG l).length=l.length:=Da l;have d:((AG l).drop k).length=l.length-k:=by rw [List.length_drop,hlen]
 exact And.intro hlen d):=h
def Yqt{P}(h:P:=by
 have J: ∀j v,(AG l)[j]? =some v->cur[j]? =some v:=λj v d=>by
  exact Yer
 exact J):=h
theorem OV(aB:T=23)(hg:w.heap[g]? =some (.cells cur T (0,0)))(aC:B<=g)(ae:cur.size=cap)(af:cap<=maxLen)(I:cur.toList.take l.length=AG l)(k:Nat)(aU:k<l.length)(aD:l.length+1<=cap)(O:w.heap[vb]? =some (.cells #[.int .u64 x] 23 (0,0)))(am:vb≠g):
 Calls prog 88 #[.slice (some ⟨g,0,none⟩) l.length cap, .int .i64 k, .slice (some ⟨vb,0,none⟩) 1 1] w (JF B w (some g) (l.take k++x::l.drop k)):=by
 subst aB;obtain⟨hlen,U⟩:=Ynm;have an:=Yqt;obtain⟨V,J⟩:=Zx (w.drew.setCells g (k+1) ((AG l).drop k));have ab:w.drew.heap[g]? =some (.cells cur 23 (0,0)):=hg;have ag:V.heap[g]? =some (.cells (Hu cur (k+1) ((AG l).drop k)) 23 (0,0)):=by rw [J];exact DK _ _ _ ab
 have ao:V.heap[vb]? =some (.cells #[.int .u64 x] 23 (0,0)):=by rw [J,Dt _ _ _ _ _ am];exact O
 obtain⟨aq,aa⟩:=Zx (V.setCells g k [.int .u64 x]);have ar:aq.heap[g]? =some (.cells (Hu (Hu cur (k+1) ((AG l).drop k)) k [.int .u64 x]) 23 (0,0)):=by rw [aa];exact DK _ _ _ ag
 have ah:=λty ai aE=>K5 (W:=w.drew) (g:=g) (o:=k+1) (cs:=(AG l).drop k) (a:=⟨g,k,none⟩) (sLen:=l.length+1-k) (dLen:=l.length-k) ab (by rw [U];omega) (λv aF=>Km v (List.mem_of_mem_drop aF)) (by rw [U];simp only [Nat.min_def];split<;>omega) (λj v d=>by rw [Addr.add_lit,I3 ab];exact an _ v (by rwa [List.getElem?_drop] at d)) ty ai aE
 rw [<-J] at ah;have ac:=λty ai=>K5 (W:=V) (g:=g) (o:=k) (cs:= [.int .u64 x]) (a:=⟨vb,0,none⟩) (sLen:=1) (dLen:=l.length+1-k) ag (by rw [Dj];simp;omega) (by simp [Value.oneCell']) (by simp only [List.length_singleton,Nat.min_def];split<;>omega) (F1 ao) ty ai 1
 rw [<-aa] at ac;have aG:Hid (JF B w (some g) (l.take k++x::l.drop k) (.returned (.slice (some ⟨g,0,none⟩) (l.length+1) cap)) aq):=Zh (by
  have aj:(l.take k++x::l.drop k).length=l.length+1:=by simp;omega
  obtain⟨s1,s2,au,aw⟩:=DI ((AG l).drop k) (k+1) w.drew g;obtain⟨r1,r2,r3,ax⟩:=DI [.int .u64 x] k V g;rw [<-J] at s1 s2 au aw;rw [<-aa] at r1 r2 r3 ax;refine⟨_,rfl,⟨by rw [Da,Nat.mul_one], .inr ⟨g,cap,_,by rw [aj],aC,ar,by rw [aj];exact aD,af,by rw [Dj,Dj,Nat.mul_one];exact ae, ?_⟩⟩,⟨⟨by rw [r2,s2];rfl,by rw [r3,au];rfl,by rw [ax,aw];rfl,by rw [r1,s1];exact Nat.le_refl _,λj d aH=> ?_⟩, .inl rfl⟩⟩
  . rw [aj,Nat.mul_one,Gv _ _ _ (by rw [Dj];simp;omega),Gv _ _ _ (by rw [U];omega),U,IF]
    have aI:(cur.toList.take (k+1)).length=k+1:=(by rw [List.length_take,Array.length_toList];omega);have aJ: ∀Z:List Value,(cur.toList.take (k+1)++Z).take k=(AG l).take k:=λZ=>by
     rw [List.take_append_of_le_length (by omega),<-I,List.take_take,List.take_take];congr 1;omega
    obtain⟨aK,aL⟩:=Ymv;have aM: ∀Z:List Value,(cur.toList.take (k+1)++Z).drop (k+1)=Z:=(λZ=>List.drop_left' aI);rw [aJ,aK,aL,List.length_singleton,aM];generalize cur.toList.drop (k+1+(l.length-k))=Tl;have aN:((AG l).take k++([Value.int .u64 x]++(AG l).drop k)).length=l.length+1:=(by simp [hlen];omega);have aO:(AG l).take k++([Value.int .u64 x]++((AG l).drop k++Tl))=((AG l).take k++([Value.int .u64 x]++(AG l).drop k))++Tl:=(by simp);rw [aO,List.take_left' aN];rfl
  . have ay:j≠g:=λe=>aH (by rw [e])
    rw [aa,Dt _ _ _ _ _ ay,J,Dt _ _ _ _ _ ay];rfl)
 have az: ∀lb al,(callFunc 137 #[.slice (some ⟨vb,0,none⟩) 1 1, .slice (some ⟨g,k+1,none⟩) lb al]).run prog w= .ok (.value (.bool false)) w:=λlb al=>by
  rw [run_callFunc_extern func137 (by kernel_rfl) (by kernel_rfl) (by kernel_rfl) (e:=Extern.SlicesOverlaps.overlaps #[46,46] #[4]) (by kernel_rfl),
   Lib.run_overlaps_apart w 46 4 23 Tryz.BI 1 (by intro w;exact Tryz.sizeOf23 w) ⟨vb,0,none⟩ ⟨g,k+1,none⟩ 1 1 lb al am _ _ _ _ (PH O) (PH hg) (by rw [ae];omega) (J2 O) (J2 O)]
  rfl
 have aV:IntKind.i64.wrap ((k:Int)+1)=(k:Int)+1:=by unfold maxLen at af;rw [IntKind.wrap_i64];omega
 have aP:=af;unfold maxLen at aP;have aW:((k:Int)==(l.length:Int))=false:=by simp;omega
 have aX: ¬(cap=k+1):=by omega
 have aY: ¬(cap=k):=by omega
 have aZ:(0:Int)<=(k:Int)+1:=by omega
 have a0:((k:Int)+1).toNat=k+1:=by omega
 have a1:(k:Int)<=(l.length:Int)+1:=by omega
 have a2:(k:Int)+1<=(l.length:Int)+1:=by omega
 have a3:decide ((l.length:Int)+1>(cap:Int))=false:=decide_eq_false (by omega);have aQ:=Zh ah;have aR:=Zh ac;have aS:=az;clear ah ac az ag ar ao ab J aa an U hlen I ae hg O;go_enter func88,ntmps88;go_wp2_with (simp only [aS]);refine Aw (λ_=>True) [.r 0, .r 1, .r 2, .r 3, .r 4, .r 5, .r 6, .r 7, .a 8] trivial ?_
 iterate 8 (refine Ej _ _ rfl rfl (by rintro W _;go_simp;exact rfl) ?_;go_simp)
 refine AK _ rfl (λaT aA=> ?_);refine wpList_copy_runI _ rfl _ _ 46 46 rfl _ _ rfl rfl (aQ _ _ _) ?_;go_wp2;refine aA _ _ trivial ?_;clear aA aT;refine AO ?_;have ac:=aR.out;go_wp2;go_ret;exact aG.out
theorem OO(a2:B<=w.heap.size)(aJ:T=23)(hg:w.heap[g]? =some (.cells cur T (0,0)))(aK:cur.size=cap)(I:cur.toList.take l.length=AG l)(a3:l.length<=100000)(k:Nat)(a4:k<l.length)(aL:cap<l.length+1)(a5:l.length<=cap)(al:w.heap[vb]? =some (.cells #[.int .u64 x] 23 (0,0))):
 Calls prog 88 #[.slice (some ⟨g,0,none⟩) l.length cap, .int .i64 k, .slice (some ⟨vb,0,none⟩) 1 1] w (JF B w (some g) (l.take k++x::l.drop k)):=by
 obtain⟨i0,hi,ay,az,am⟩:=info_parts Tryz.CV;subst aJ;obtain⟨hlen,ag⟩:=Ynm;have ah:((AG l).take k).length=k:=by rw [List.length_take,hlen];omega
 have an:=Yqt;have aM:g<w.heap.size:=(Array.getElem?_eq_some_iff.1 hg).1;have aN:vb<w.heap.size:=(Array.getElem?_eq_some_iff.1 al).1;obtain⟨J,J5⟩:=Zx w.heap.size;obtain⟨G,ac⟩:=Zx (grownCap w (l.length+1) cap 23);have aO:l.length+1<=G:=by rw [ac];exact grownCap_ge w _ _ _
 have aA:G<=maxLen:=by rw [ac];exact grownCap_le_maxLen w _ _ _ (by unfold maxLen;omega)
 have hold:(Builtin.firstCells i0.size k (.slice (some ⟨g,0,none⟩) k cap)).run prog w.drew= .ok ((AG l).take k).toArray w.drew:=by
  rw [az];exact run_firstCells_some w.drew 1 k ⟨g,0,none⟩ k cap ((AG l).take k) (by rw [ah];omega) (λj v d=>by
   rw [Addr.add_lit,Nat.zero_add,I3 (w:=w.drew) hg];rw [List.getElem?_take] at d
   split at d
   . exact an j v d
   . cases d)
 obtain⟨O,ai⟩: ∃O:Array Value,O=((AG l).take k).toArray++Builtin.zeroCells (Value.int .u64 0).cells (l.length+1-k)++Builtin.zeroCells (Value.int .u64 0).cells (G-(l.length+1)):=⟨_,rfl⟩;have aa:O.size=G:=by rw [ai];simp [Builtin.zeroCells,Value.cells,hlen];omega
 have aB:O.toList.take k=(AG l).take k:=by rw [ai];simp only [Array.toList_append,List.append_assoc];exact List.take_left' ah
 obtain⟨ab,V⟩:=Zx (w.drew.alloc (.cells O 23));have aP: ∀ty,(Builtin.append_ #[46,3] ty #[.slice (some ⟨g,0,none⟩) k cap, .int .i64 ((l.length:Int)+1-(k:Int))]).run prog w= .ok (.slice (some ⟨J,0,none⟩) (l.length+1) G) ab:=λty=>by
  have aC:k+(l.length+1-k)=l.length+1:=by omega
  have aQ:(l.length:Int)+1-(k:Int)=((l.length+1-k:Nat):Int):=by omega
  have h:=Lib.run_append_grow_zeros w 46 3 ty 23 i0 (.int .u64 0) .i64 .i64 Tryz.BI Tryz.underlying3 hi ay (some ⟨g,0,none⟩) k cap ((AG l).take k) hold (l.length+1-k) (by omega) (by omega) (by omega) (by omega) (by rw [am];omega) (by rw [am,aC];exact growslice_fits aL (by omega));rw [aC] at h;rw [aQ,h,J5,ac,V,ai,ac]
 have ao:ab.heap[J]? =some (.cells O 23 (0,0)):=by rw [V,J5];exact Array.getElem?_push_size
 have aq: ∀j,j<w.heap.size->ab.heap[j]? =w.heap[j]? :=λj d=>by rw [V];exact Below.heap_alloc w.drew _ j d
 obtain⟨U,ae⟩:=Zx (ab.setCells J k [.int .u64 x]);have ar:U.drew.heap[J]? =some (.cells (Hu O k [.int .u64 x]) 23 (0,0)):=by rw [ae];exact DK _ _ _ ao
 have au: ∀j,j<w.heap.size->U.drew.heap[j]? =w.heap[j]? :=λj d=>by
  rw [<-aq j d,ae];exact Dt _ _ _ _ _ (by omega)
 obtain⟨aD,af⟩:=Zx (U.drew.setCells J (k+1) ((AG l).drop k));have aE:aD.heap[J]? =some (.cells (Hu (Hu O k [.int .u64 x]) (k+1) ((AG l).drop k)) 23 (0,0)):=by rw [af];exact DK _ _ _ ar
 have aR:=λty aw=>K5 (W:=ab) (g:=J) (o:=k) (cs:= [.int .u64 x]) (a:=⟨vb,0,none⟩) (sLen:=1) (dLen:=l.length+1-k) ao (by rw [aa];simp;omega) (by simp [Value.oneCell']) (by simp only [List.length_singleton,Nat.min_def];split<;>omega) (F1 ((aq vb aN).trans al)) ty aw 1
 rw [<-ae] at aR;have aj:=λty aw aS=>K5 (W:=U.drew) (g:=J) (o:=k+1) (cs:=(AG l).drop k) (a:=⟨g,k,none⟩) (sLen:=l.length-k) (dLen:=l.length-k) ar (by rw [Dj,ag,aa];omega) (λv aT=>Km v (List.mem_of_mem_drop aT)) (by rw [ag];simp) (λj v d=>by rw [Addr.add_lit,I3 ((au g aM).trans hg)];exact an _ v (by rwa [List.getElem?_drop] at d)) ty aw aS
 rw [<-af] at aj;have aU:Hid (JF B w (some g) (l.take k++x::l.drop k) (.returned (.slice (some ⟨J,0,none⟩) (l.length+1) G)) aD):=Zh (by
  have ax:(l.take k++x::l.drop k).length=l.length+1:=by simp;omega
  obtain⟨s1,s2,aF,aG⟩:=DI ((AG l).drop k) (k+1) U.drew J;obtain⟨r1,r2,r3,aH⟩:=DI [.int .u64 x] k ab J;rw [<-af] at s1 s2 aF aG;rw [<-ae] at r1 r2 r3 aH;refine⟨_,rfl,⟨by rw [Da,Nat.mul_one], .inr ⟨J,G,_,by rw [ax],by omega,aE,by rw [ax];exact aO,aA,by rw [Dj,Dj,Nat.mul_one];exact aa, ?_⟩⟩,⟨⟨?_, ?_, ?_, ?_,λj d a6=> ?_⟩, .inr λj d=> ?_⟩⟩
  . rw [ax,Nat.mul_one,Gv _ _ _ (by rw [Dj,ag,aa];omega),Gv _ _ _ (by rw [aa];simp;omega),IF,aB]
    obtain⟨aV,aW⟩:=Ymv;generalize O.toList.drop (k+ [Value.int .u64 x].length)=Z;have aX:((AG l).take k++([Value.int .u64 x]++Z)).take (k+1)=(AG l).take k++ [Value.int .u64 x]:=by
     rw [<-List.append_assoc];exact List.take_left' (by simp [ah])
    rw [aX,aV,aW];generalize ((AG l).take k++([Value.int .u64 x]++Z)).drop (k+1+((AG l).drop k).length)=Y;have aY:(AG l).take k++ [Value.int .u64 x]++((AG l).drop k++Y)=((AG l).take k++([Value.int .u64 x]++(AG l).drop k))++Y:=(by simp);rw [aY,List.take_left' (by simp [hlen];omega)];rfl
  . rw [s2];show U.os=_;rw [r2,V];rfl
  . rw [aF];show U.tape=_;rw [r3,V];rfl
  . rw [aG];show U.output=_;rw [aH,V];rfl
  . rw [s1];show _<=U.heap.size;rw [r1,V];simp [World.alloc]
  . rw [af,Dt _ _ _ _ _ (by omega)];exact au j d
  . have:J=j:=by simpa [Value.ownBlock] using d
    omega)
 have a7:((k:Int)==(l.length:Int))=false:=by simp;omega
 have aZ:=aA;unfold maxLen at aZ;have a8:IntKind.i64.wrap ((k:Int)+1)=(k:Int)+1:=by rw [IntKind.wrap_i64];omega
 have a9:(0:Int)<=(k:Int)+1:=by omega
 have ba:((k:Int)+1).toNat=k+1:=by omega
 have bb:(k:Int)<=(l.length:Int):=by omega
 have bc: ¬(G=k):=by omega
 have bd: ¬(G=k+1):=by omega
 have be: ¬(cap=k):=by omega
 have bf:decide ((l.length:Int)+1>(cap:Int))=true:=decide_eq_true (by omega);have a0:=Zh aj;clear aj hold ao ar aE aq au V ae af an ag ah hlen I aK hg al J5 ac ai aa aB hi ay az am;go_enter func88,ntmps88;go_wp2_with (at_builtin;refine Lib.wpList_append_run _ rfl _ _ _ _ rfl _ _ rfl rfl _ _ (aP _) ?_);refine Aw (λ_=>True) [.r 0, .r 1, .r 2, .r 3, .r 4, .r 5, .r 6, .r 7, .a 8] trivial ?_
 iterate 8 (refine Ej _ _ rfl rfl (by rintro W _;go_simp;exact rfl) ?_;go_simp)
 refine AK _ rfl (λa1 aI=> ?_);have aj:=a0.out;go_wp2;refine aI _ _ trivial ?_;clear aI a1;refine AO ?_;go_wp2;go_ret;exact aU.out
theorem O7(O:B<=w.heap.size)(U:w.ownsRow B 23 1 v l.length (AG l))(k:Nat)(ai:k<=l.length)(V:l.length<=100000)(d:w.heap[vb]? =some (.cells #[.int .u64 x] 23 (0,0)))(ac:v.ownBlock≠some vb):
 Calls prog 88 #[v, .int .i64 k, .slice (some ⟨vb,0,none⟩) 1 1] w (JF B w v.ownBlock (l.take k++x::l.drop k)):=by
 by_cases he:k=l.length
 . subst he
   rw [List.take_length,List.drop_length];exact PZ O U V d
 . have Z:k<l.length:=by omega
   rcases U.2 with ⟨h1,aa⟩|⟨g,cap,cur,rfl,aa,ab,ae,af,I,J⟩
   . omega
   . rw [Nat.mul_one] at I J
     have ag:vb≠g:=(λe=>ac (by rw [e];rfl));by_cases ah:l.length+1<=cap
     . exact OV rfl ab aa I af J k Z ah d ag
     . exact OO O rfl ab I J V k Z (by omega) ae d
section
variable {s:Nat}  {R R':Zr} {H H':List Nat} {P q most last G:Nat}
theorem Am.grown{A B:World}{row:Option Nat}(h:Am A s F R H P q most last G)(hg:A.grownBy B row)(I: ∀k,row=some k->s<k/\1<k/\ ¬F k/\ ∀p,A.cell? ⟨k,0,none⟩≠some (.pointer p)):Am B s F R H P q most last G:=
 h.kb (Cs:=λk=>row=some k) ⟨hg.size,λk o d _ J=>(hg.block k (Array.getElem?_eq_some_iff.1 d).1 (λe=>J e.symm)).trans d⟩ (λk d=>(I k d).2.2.1) (λd=>Nat.lt_irrefl _ (I s d).1) (λk d=>(I k d).2.2.2) (λd=>Nat.lt_irrefl _ (I _ d).2.1)
theorem A3(W:World)(b j:Nat)(v:Value):W.grownBy (W.setCell ⟨b,j,none⟩ v) (some b):=
 ⟨rfl,rfl,rfl,by simp [World.setCell],λk _ d=>Below.heap_setCell W ⟨b,j,none⟩ v k (λe=>d (by rw [e]))⟩
theorem Gp{A B:World}(d:Below A.heap.size A B)(row:Option Nat):A.grownBy B row:=⟨d.os,d.tape,d.output,d.size,λk I _=>d.block k I⟩
theorem Bh{A B C:World}{row:Option Nat}(h:A.grownBy B row)(g:B.grownBy C row):A.grownBy C row:=⟨g.os.trans h.os,g.tape.trans h.tape,g.output.trans h.output,Nat.le_trans h.size g.size,λk d I=>(g.block k (Nat.lt_of_lt_of_le d h.size) I).trans (h.block k d I)⟩
theorem Ux(h:W.ownsRow B 23 1 v l.length (AG l))(I:l≠ []): ∀k,v.ownBlock=some k-> ∀p,W.cell? ⟨k,0,none⟩≠some (.pointer p):=by
 intro k J p d
 cases l with
 |nil=>exact I rfl
 |cons x l=>
  have h1:=h.cells J 0 (.int .u64 x) rfl;rw [Addr.add_lit] at h1;have O:W.cell? ⟨k,0,none⟩=some (.int .u64 x):=h1;rw [O] at d
  cases d
structure Mk(N:Nat)(W:World)(s t:Nat)(F:Nat->Prop)(bl b2:Nat)(v:Value)(st:List Nat):Prop where
 bx:An W bl 46 [v]
 Jv:An W b2 96 [.pointer (some ⟨s,0,none⟩), .int .i64 t]
 row:W.ownsRow N 23 1 v st.length (AG st)
 nil:st= []->v= .slice none 0 0
 fl: ¬F bl
 f2: ¬F b2
 fr: ∀k,v.ownBlock=some k->k≠bl/\k≠b2/\ ¬F k
theorem Mk.Ar(h:Mk N W s t F bl b2 v st)(I:Ad W F W' F'):Mk N W' s t F' bl b2 v st:=
 ⟨h.bx.Ar I h.fl,h.Jv.Ar I h.f2,Em h.row λk d=>I.keep k (Bs h.row k d) (h.fr k d).2.2,h.nil,I.not h.bx.lt h.fl,I.not h.Jv.lt h.f2,λk d=>⟨(h.fr k d).1,(h.fr k d).2.1,I.not (Bs h.row k d) (h.fr k d).2.2⟩⟩
def Ymk{P}(h:P:=by
 have k1:An w3 bl 46 [v]:=h.bx.block ((hg.block bl (by have:=h.bx.lt;simp;omega) d).trans (Below.heap_alloc W tmp bl h.bx.lt));exact k1):=h
theorem Mk.more{tmp:Obj}(h:Mk N W s t F bl b2 v st)(U:bl≠b2)(V: ∀b,F b->b<W.heap.size)(Z:w3.ownsRow N 23 1 v' (st++ [x]).length (AG (st++ [x])))(hg:(W.alloc tmp).grownBy w3 v.ownBlock)(I:v'.ownBlock=v.ownBlock\/v'.ownBlock=some (W.alloc tmp).heap.size):
 Mk N (w3.setCell ⟨bl,0,none⟩ v') s t F bl b2 v' (st++ [x]):=by
 have d:some bl≠v.ownBlock:=λe=>(h.fr bl e.symm).1 rfl
 have aa:some b2≠v.ownBlock:=λe=>(h.fr b2 e.symm).2.1 rfl
 have k1:=Ymk;have k2:An w3 b2 96 _:=h.Jv.block ((hg.block b2 (by have:=h.Jv.lt;simp;omega) aa).trans (Below.heap_alloc W tmp b2 h.Jv.lt));have O: ∀k,v'.ownBlock=some k->k≠bl/\k≠b2/\ ¬F k:=λk J=>by
  rcases I with I|I
  . exact h.fr k (by rw [<-I];exact J)
  . rw [I] at J
    have:W.heap.size+1=k:=(by simpa using J);refine⟨λe=> ?_,λe=> ?_,λab=> ?_⟩
    . have:=h.bx.lt;omega
    . have:=h.Jv.lt;omega
    . have:=V k ab;omega
 refine⟨k1.set 0 v',k2.other (p:=⟨bl,0,none⟩) (Ne.symm U) v',Em Z λk J=>Below.heap_setCell w3 ⟨bl,0,none⟩ v' k (O k J).1,λe=>by simp at e,h.fl,h.f2,O⟩
theorem Mk.store{tmp:Obj}{x:Nat}(h:Mk N W s t F bl b2 v st)(hs:Am W s F R H P q most last G)(hN:s<N/\1<N)(J5:N<=bl)(hg:(W.alloc tmp).grownBy w3 v.ownBlock):Am (w3.setCell ⟨bl,0,none⟩ v') s F R H P q most last G:=by
 have O:Below W.heap.size W (W.alloc tmp):=(Below.refl _ W).alloc (Nat.le_refl _) _;have h1:Am w3 s F R H P q most last G:=(hs.below O).grown hg (λk I=>by
  have Z:=(BM h.row I).1;refine⟨by omega,by omega,(h.fr k I).2.2,λp J=> ?_⟩;have U:st≠ []:=λe=>by rw [h.nil e] at I;simp [Value.ownBlock] at I
  rw [World.cell?_of_block (Below.heap_alloc W tmp k (Bs h.row k I))] at J;exact Ux h.row U k I p J)
 have d:some bl≠v.ownBlock:=λe=>(h.fr bl e.symm).1 rfl
 have k1:=Ymk;refine h1.grown (A3 w3 bl 0 v') (λk I=> ?_);obtain rfl:bl=k:=Option.some.inj I;refine⟨by omega,by omega,h.fl,λp J=> ?_⟩;rw [k1.at' (i:=0) rfl] at J;obtain⟨A,c,V⟩:=Bu h.row;rw [V] at J
 cases J
theorem Bt.Dx.snoc(h:Bt.Dx R R' t st)(hx:R' x=none)(h0:x≠0):Bt.Dx R (AT R' x (some (n.wd t))) t (st++ [x]):=by
 have J:x∉st:=λhm=>by obtain⟨_,_,ws,h1,_⟩:=h.new x hm;rw [hx] at h1;cases h1
 refine⟨λy d=> ?_, ?_,λz I=> ?_⟩
 . rcases List.mem_append.1 d with d|d
   . exact⟨(h.new y d).1,(h.new y d).2.1,Bt.EE (h.new y d).2.2⟩
   . rw [List.mem_singleton] at d
     subst d;exact⟨by rw [<-h.old y J];exact hx,h0,⟨_,AR _ _ _,BN.B6 _ _⟩⟩
 . rw [List.nodup_append]
   exact⟨h.nodup,by simp,λa ha b O e=>by rw [List.mem_singleton] at O;exact J (by rw [<-O,<-e];exact ha)⟩
 . rw [List.mem_append,List.mem_singleton,not_or] at I
   rw [As I.2];exact h.old z I.1
theorem Bt.Dx.start:Bt.Dx R R t []:=⟨λx hx=>absurd hx (by simp),List.nodup_nil,λ_ _=>rfl⟩
def MkR(w:World)(s:Nat)(F:Nat->Prop)(R:Zr)(H:List Nat)(P q most last G t n:Nat)(e:Ending)(w' :World):Prop:=
 (∃st F' R' bl b2 v,e= .returned (.tuple #[.func (.func 87) #[] #[.pointer (some ⟨bl,0,none⟩), .pointer (some ⟨b2,0,none⟩)], .int .i64 0])/\st.length=n/\Bt.Dx R R' t st/\(∀x∈st,R' x=some (BN.zero.wd t)/\x<18446744073709551616)/\
  Am w' s F' R' (st.reverse++H) (P+n*CC (6*t+2)) q most last (G+n)/\Ad w F w' F' /\Mk w.heap.size w' s t F' bl b2 v st/\w.heap.size<=bl/\w.heap.size<=b2/\bl≠b2)\/
 (∃er F',e= .returned (.tuple #[.nilFunc, .int .i64 (er:Nat)])/\((er=3/\q<(P+n*CC (6*t+2))*64)\/(er=10/\(most<H.length+n\/last<G+n)))/\Am w' s F' R H (P+n*CC (6*t+2)) q most last (G+n)/\Ad w F w' F')
def Gm(R:Zr)(st:List Nat):Zr:=λy=>if y∈st then none else R y
theorem S7:Gm R []=R:=by funext y;simp [Gm]
theorem RN(l:List Nat)(x:Nat):AT (Gm R l) x none=Gm R (l++ [x]):=by
 funext y
 unfold AT Gm;by_cases h:y=x
 . subst h;simp
 . simp [h]
theorem P3(h:Bt.Dx R R' t st):Gm R' st=R:=by
 funext y
 unfold Gm;by_cases d:y∈st
 . rw [if_pos d];exact(h.new y d).1.symm
 . rw [if_neg d];exact h.old y d
theorem S6{H:List Nat}(hx:x∉st):((x::st).reverse++H).erase x=st.reverse++H:=by
 rw [List.reverse_cons,List.append_assoc,List.erase_append_right _ (by simpa using hx)];simp
end
theorem VB(w:World)(F:Nat->Prop):CX w F (.agg #[.slice none 0 0, .slice none 0 0, .slice none 0 0, .int .u64 0]) BN.zero:=
 ⟨⟨none,0,none,0,none,0,rfl, .inl rfl, .inl rfl, .inl rfl⟩,by simp [BN.zero]⟩
theorem SA:BN.zero.Ok:=⟨λx h=>by simp [BN.zero] at h,λx h=>by simp [BN.zero] at h,λx h=>by simp [BN.zero] at h,by simp [BN.zero]⟩
theorem OQ(t:Nat):BN.zero.Fits t:=⟨by simp [BN.zero],rfl, .inl rfl⟩
section
variable {s:Nat}  {R:Zr} {H:List Nat} {P q most last G:Nat}
theorem RI(h:Am w s F R H P q most last G)(t:Nat)(bc:BN.A1 t)(n:Nat)(bM:n<=1000):
 Calls prog 46 #[.agg #[.pointer (some ⟨s,0,none⟩), .int .i64 t], .int .i64 n] w (MkR w s F R H P q most last G t n):=by
 have bd:=h.FN;have be:1<w.heap.size:=by
  obtain⟨nn,bf,_⟩:=h.rd;obtain⟨_,_,_,_,_,_,_,_,_,_,_,_,_,_,_,_,_,_,_,bg⟩:=bf;exact bg.2
 obtain⟨i0,hi,bh,bi,bj⟩:=info_parts Tryz.CV;obtain⟨d,J⟩:=Zx ((w.alloc (Obj.cells #[.pointer (some ⟨s,0,none⟩), .int .i64 t] 96)).alloc (Obj.cells #[.slice none 0 0] 46));have az:=Xb;obtain⟨b2,aA⟩:=Zx w.heap.size;obtain⟨bl,aB⟩:=Zx (w.heap.size+1);have aU:An d b2 96 [.pointer (some ⟨s,0,none⟩), .int .i64 t]:=by rw [J,aA];exact(An.new w 96 [.pointer (some ⟨s,0,none⟩), .int .i64 t]).alloc _
 have aV:An d bl 46 [.slice none 0 0]:=by
  rw [J,aB];have:=An.new (w.alloc (Obj.cells #[.pointer (some ⟨s,0,none⟩), .int .i64 t] 96)) 46 [.slice none 0 0];exact ZS
 have g2:w.heap.size<=b2:=by omega
 have aC:w.heap.size<=bl:=by omega
 have aW:bl≠b2:=by omega
 have aD: ∀b,F b->b<w.heap.size:=λb aE=>h.lt aE
 have aX:Mk w.heap.size d s t F bl b2 (.slice none 0 0) []:=⟨aV,aU,World.ownsRow_nil _ _ _ _,λ_=>rfl,λaa=>by have:=aD _ aa;omega,λaa=>by have:=aD _ aa;omega,λk aY=>by simp [Value.ownBlock] at aY⟩;obtain⟨I,aF⟩:=Zx (CC (6*t+2));have bk:Hid (Bt.Dx R R t []/\(∀x∈([]:List Nat),R x=some (BN.zero.wd t)/\x<18446744073709551616)/\Am d s F R H (P+0*I) q most last (G+0)/\Ad w F d F/\Mk w.heap.size d s t F bl b2 (.slice none 0 0) []):=Zh ⟨Bt.Dx.start,λx hx=>absurd hx (by simp),by rw [Nat.zero_mul];exact h.below az,Ad.below az,aX⟩
 have aZ:Hid (∀e W,((∃st F' R' bl b2 v,e= .returned (.tuple #[.func (.func 87) #[] #[.pointer (some ⟨bl,0,none⟩), .pointer (some ⟨b2,0,none⟩)], .int .i64 0])/\st.length=n/\Bt.Dx R R' t st/\(∀x∈st,R' x=some (BN.zero.wd t)/\x<18446744073709551616)/\Am W s F' R' (st.reverse++H) (P+n*I) q most last (G+n)/\Ad w F W F' /\Mk w.heap.size W s t F' bl b2 v st/\w.heap.size<=bl/\w.heap.size<=b2/\bl≠b2)\/
  (∃er F',e= .returned (.tuple #[.nilFunc, .int .i64 (er:Nat)])/\((er=3/\q<(P+n*I)*64)\/(er=10/\(most<H.length+n\/last<G+n)))/\Am W s F' R H (P+n*I) q most last (G+n)/\Ad w F W F'))->MkR w s F R H P q most last G t n e W):=Zh (λe W h=>by unfold MkR;rw [<-aF];exact h)
 have aG:=Zh (And.intro J (And.intro aA aB));have bm:=Zh aF;clear h J az aA aB aU aV aX aF aD;go_enter func46,ntmps46;go_wp2;rw [<-aG.1,<-aG.2.2,<-aG.2.1]
 go_loopw [12] (λaH wr=> ∃(i:Nat) (st:List Nat) (v:Value) (ac:Nat->Prop) (R1:Zr),i<=n/\aH= .int .i64 i/\st.length=i/\Hid (Bt.Dx R R1 t st/\(∀x∈st,R1 x=some (BN.zero.wd t)/\x<18446744073709551616)/\Am wr s ac R1 (st.reverse++H) (P+i*I) q most last (G+i)/\Ad w F wr ac/\Mk w.heap.size wr s t ac bl b2 v st)) (λaH _=>n-(intOf aH).toNat)
 case atStart=>exact⟨0,[], .slice none 0 0,F,R,Nat.zero_le _,rfl,rfl,bk⟩
 case round=>
  obtain⟨i,st,v,ac,R1,bN,rfl,a0,am⟩:=hrel;have an:=Zh a0;clear a0;by_cases bo:i<n
  . obtain⟨k1,k2,ag,ah,ae⟩:=am.out
    obtain⟨ao,a1⟩:=A2 ae.Jv;have aq:=Tf ag t bc (VB wr ac) SA (OQ t);unfold MT at aq;rw [BN.B6,<-bm.out] at aq;have bp:=Zh aq;have ai:=Zh (And.intro k1 k2);have aI:=Zh ah;have a2:=Zh ae;clear aq k1 k2 ag ah ae am;go_wp2_with fail;refine bp.mono ?_;rintro e w1 (⟨x,O,ar,bq,br,rfl,af,V⟩|⟨er,O,rfl,aJ,af,V⟩)
    . have m1:=a2.Ar V
      obtain⟨A,c,aK⟩:=Bu m1.row;have a3:=ai.1.snoc (n:=BN.zero) ar bq
      have bs:Hid (∀v' w4,w4.ownsRow w.heap.size 23 1 v' (st++ [x]).length (AG (st++ [x]))-> ∀tmp,(w1.alloc tmp).grownBy w4 v.ownBlock->(v'.ownBlock=v.ownBlock\/v'.ownBlock=some (w1.alloc tmp).heap.size)->
       (Bt.Dx R (AT R1 x (some (BN.zero.wd t))) t (st++ [x])/\(∀y∈st++ [x],(AT R1 x (some (BN.zero.wd t))) y=some (BN.zero.wd t)/\y<18446744073709551616)/\Am (w4.setCell ⟨bl,0,none⟩ v') s O (AT R1 x (some (BN.zero.wd t))) ((st++ [x]).reverse++H) (P+(i+1)*I) q most last (G+(i+1))/\Ad w F (w4.setCell ⟨bl,0,none⟩ v') O/\Mk w.heap.size (w4.setCell ⟨bl,0,none⟩ v') s t O bl b2 v' (st++ [x]))):=Zh (λv' w4 h1 tmp U bu=>by
       have bv:Below w1.heap.size w1 (w1.alloc tmp):=(Below.refl _ w1).alloc (Nat.le_refl _) _;refine⟨a3,λy aj=> ?_, ?_, ?_,m1.more aW (λb aE=>af.lt aE) h1 U bu⟩
       . by_cases e:y=x
         . subst e;exact⟨AR _ _ _,br⟩
         . rw [As e]
           rcases List.mem_append.1 aj with aj|aj
           . exact ai.2 y aj
           . exact absurd (List.mem_singleton.1 aj) e
       . have:=m1.store (v' :=v') (x:=x) af ⟨bd,be⟩ aC U
         rw [List.reverse_append,Nat.succ_mul,<-Nat.add_assoc];exact this
       . have bw:=(aI.trans V).trans (Ad.below (F:=O) bv)
         have au:=bw.own (Nat.le_refl _) U (λr Z=>(BM m1.row Z).1);exact au.own (Nat.le_refl _) (A3 w4 bl 0 v') (λr Z=>by obtain rfl:bl=r:=Option.some.inj Z;exact aC))
      have bz:Hid (∀tmp w4,(w1.alloc tmp).grownBy w4 v.ownBlock->w4.cell? ⟨bl,0,none⟩=some v/\w4.frozen? ⟨bl,0,none⟩=false):=Zh (λtmp w4 hg=>by
       have bA:some bl≠v.ownBlock:=(λe=>(m1.fr bl e.symm).1 rfl);have k1:An w4 bl 46 [v]:=m1.bx.block ((hg.block bl (by have:=m1.bx.lt;simp;omega) bA).trans (Below.heap_alloc w1 tmp bl m1.bx.lt));exact⟨k1.at' (i:=0) rfl,k1.free 0⟩)
      have aL:=m1.row;have bB:=m1.bx.at' (i:=0) rfl;have bO:w.heap.size<=w1.heap.size:=Nat.le_trans aI.size V.size;have hlen:=an.out;subst aK;have bC:=Zh aL;rw [hlen] at aL;have aM:=Zh hlen;clear a3 m1 af V aL hlen ao a1;go_wp2_with (at_builtin;refine wpList_append_own_at _ rfl _ _ 46 rfl w.heap.size 23 i0 (.int .u64 0) 1 8 Tryz.BI hi bh bi bj rfl (by decide) _ _ _ rfl (bC.alloc _) ⟨w1.heap.size,0,none⟩ 1 1 [.int .u64 (x:Int)] rfl rfl (cell_one_new _ _ _) (by simp [Value.oneCell']) (by rw [aM.out];unfold maxLen;omega) (by rw [aM.out];omega) (by simp;omega) ?_;intro v' w4 aN aO _ a4;obtain⟨bP,bQ,rfl⟩:=Bu aN;obtain⟨bR,bS⟩:=bz.out _ _ aO;have aP:=Zh (bs _ _ (by rw [HA,List.length_append];exact aN) _ aO a4);clear aN aO a4);go_roundw
      case rel=>exact⟨i+1,st++ [x],_,O,_,by omega,by go_num,by rw [List.length_append,aM.out];rfl,aP⟩
      case measure=>simp [intOf];omega
    . have m1:=a2.Ar V
      have bT:((er:Int) !=0)=true:=by rcases aJ with ⟨rfl,_⟩|⟨rfl,_⟩<;>rfl
      have hmul:i*I+I<=n*I:=(by rw [<-Nat.succ_mul];exact Nat.mul_le_mul_right I bo);have a5:=af.more (P' :=P+n*I) (G' :=G+n) (by omega) (by omega);have bD:Hid ((er=3/\q<(P+n*I)*64)\/(er=10/\(most<H.length+n\/last<G+n))):=Zh (by
       rcases aJ with ⟨h1,U⟩|⟨h1,U⟩
       . exact .inl ⟨h1,Nat.lt_of_lt_of_le U (Nat.mul_le_mul_right 64 (by omega))⟩
       . refine .inr ⟨h1, ?_⟩
         have au:=an.out;rw [List.length_append,List.length_reverse] at U;rcases U with U|U
         . exact .inl (by omega)
         . exact .inr (by omega))
      obtain⟨A,c,aK⟩:=Bu m1.row;have bB:=m1.bx.at' (i:=0) rfl;have bU:st.length<=1000:=(by have:=an.out;omega);have bE:Hid (Am w1 s O (Gm R1 (st.take 0)) ((st.drop 0).reverse++H) (P+n*I) q most last (G+n)/\Ad w F w1 O/\Mk w.heap.size w1 s t O bl b2 v st):=Zh ⟨by rw [List.take_zero,S7];exact a5,aI.trans V,m1⟩;subst aK;clear m1 aJ hmul af a5 V ao a1;go_wp2
      go_loopw [27] (λaQ aR=> ∃(k:Nat) (al:Nat->Prop),k<=st.length/\aQ= .int .i64 (k:Nat)/\Hid (Am aR s al (Gm R1 (st.take k)) ((st.drop k).reverse++H) (P+n*I) q most last (G+n)/\Ad w F aR al/\Mk w.heap.size aR s t al bl b2 (.slice A st.length c) st)) (λaQ _=>st.length-(intOf aQ).toNat)
      case atStart=>exact⟨0,O,Nat.zero_le _,rfl,bE⟩
      case round=>
       obtain⟨k,al,aY,rfl,Z⟩:=hrel;by_cases aw:k<st.length
       . obtain⟨r1,r2,r3⟩:=Z.out
         obtain⟨bV,bW,bF,a6⟩:=A5 (F:=λ_=>False) r3.row (λ_ h=>h.elim)
         cases bF
         obtain⟨b,o,bG,bX,a7⟩:=a6.num aw;have bH:=a7 _ (Below.refl _ _);have a8:st[k]∈st:=List.getElem_mem aw;have ax:st.drop k=st[k]::st.drop (k+1):=List.drop_eq_getElem_cons aw;have aS:=ai.1.nodup;have a9:st[k]∉st.drop (k+1):=by
          have:=List.Nodup.sublist (List.drop_sublist k st) aS;rw [ax] at this;exact(List.nodup_cons.1 this).1
         have ba:st[k]∉st.take k:=by
          have au:(st.take k++st.drop k).Nodup:=(by rw [List.take_append_drop];exact aS);intro hm;exact(List.nodup_append.1 au).2.2 _ hm _ (by rw [ax];exact List.mem_cons_self) rfl
         have ar:Gm R1 (st.take k) st[k]=some (BN.zero.wd t):=by
          unfold Gm;rw [if_neg ba];exact(ai.2 _ a8).1
         have ay:=LQ r1 ar;rw [ax,S6 a9,RN,show st.take k++ [st[k]]=st.take (k+1) from(List.take_succ_eq_append_getElem aw).symm] at ay;obtain⟨x,hx⟩: ∃x,st[k]=x:=⟨_,rfl⟩;rw [hx] at ay bH;have bI:=Zh ay;have bJ:=Zh r2;have bK:=Zh r3;have ao:=r3.Jv.at' (i:=0) rfl;subst bG;clear ay r1 r2 r3 Z a6 a7 a8 ax aS a9 ba ar hx;go_wp2_with fail;refine bI.mono ?_;rintro e bY ⟨bL,rfl,bb,aT⟩;have aP:=Zh (And.intro bb (And.intro (bJ.trans aT) (bK.Ar aT)));clear bb aT ao;go_wp2;go_roundw
         case rel=>exact⟨k+1,bL,by omega,by go_num,aP⟩
         case measure=>simp [intOf];omega
       . obtain rfl:k=st.length:=by omega
         have hd:=aZ.out;obtain⟨r1,r2,r3⟩:=Z.out;rw [List.take_length,P3 ai.1,List.drop_length,List.reverse_nil,List.nil_append] at r1;have aa:=Zh (λe he=>hd e wr (.inr ⟨er,al,he,bD,r1,r2⟩));clear hd Z r1 r2 r3;go_wp2
         go_ret2
         exact aa.out _ rfl
  . obtain rfl:i=n:=by omega
    have hd:=aZ.out;obtain⟨k1,k2,ag,ah,ae⟩:=am.out;have aa:=Zh (λe he=>hd e wr (.inl ⟨st,ac,R1,bl,b2,v,he,an,k1,k2,ag,ah,ae,aC,g2,aW⟩));clear hd am k1 k2 ag ah ae;go_wp2
    go_ret2
    exact aa.out _ rfl
end
def FB(F:Nat->Prop)(bl:Nat):Nat->Prop:=λb=>F b\/b=bl
theorem Ad.minus{d:Nat->Prop}(h:Ad w F W d)(g:Ad W (FB d bl) W' (FB d bl))(U:w.heap.size<=bl):Ad w F W' d:=
 ⟨g.os.trans h.os,g.tape.trans h.tape,g.output.trans h.output,Nat.le_trans h.size g.size,λk J O=>(g.keep k (Nat.lt_of_lt_of_le J h.size) (λI=>by
  rcases I with I|I
  . rcases h.grow k I with h1|h1
    . exact O h1
    . omega
  . omega)).trans (h.keep k J O),h.grow⟩
theorem Ad.fb{w':World}(h:Ad w F w' F):Ad w (FB F bl) w' (FB F bl):=⟨h.os,h.tape,h.output,h.size,λk I J=>h.keep k I λd=>J (.inl d),λ_ d=> .inl d⟩
theorem Ad.GK(W:World)(F:Nat->Prop)(bl j:Nat)(v:Value):Ad W (FB F bl) (W.setCell ⟨bl,j,none⟩ v) (FB F bl):=
 ⟨rfl,rfl,rfl,by simp [World.setCell],λk I d=>Below.heap_setCell W ⟨bl,j,none⟩ v k (λe=>d (.inr e)),λ_ h=> .inl h⟩
theorem AJ.less{vs:List Value}(h:AJ w F A vs)(d: ∀b,F' b->F b):AJ w F' A vs:=by
 rcases h with h|⟨b,o,h1,I,J,O⟩
 . exact .inl h
 . exact .inr ⟨b,o,h1,I,λU=>J (d b U),O⟩
theorem CX.less(h:CX w F v n)(d: ∀b,F' b->F b):CX w F' v n:=by
 obtain⟨⟨I,J,O,U,V,ci,e,k1,k2,Z⟩,aa⟩:=h;exact⟨⟨I,J,O,U,V,ci,e,k1.less d,k2.less d,Z.less d⟩,aa⟩
structure Tk(N:Nat)(W:World)(s t:Nat)(F:Nat->Prop)(bl b2:Nat)(v:Value)(st:List Nat):Prop where
 bx:An W bl 46 [v]
 Jv:An W b2 96 [.pointer (some ⟨s,0,none⟩), .int .i64 t]
 row:W.ownsRow N 23 1 v st.length (AG st)
 fl: ¬F bl
 f2: ¬F b2
 fr: ∀k,v.ownBlock=some k->k≠bl/\k≠b2/\ ¬F k
 ne:bl≠b2
section
variable {s:Nat}  {R:Zr} {H:List Nat} {P q most last G:Nat}   
theorem Mk.tk(h:Mk N W s t F bl b2 v st)(d:bl≠b2):Tk N W s t F bl b2 v st:=⟨h.bx,h.Jv,h.row,h.fl,h.f2,h.fr,d⟩
theorem Tk.Ar(h:Tk N W s t F bl b2 v st)(I:Ad W F W' F'):Tk N W' s t F' bl b2 v st:=
 ⟨h.bx.Ar I h.fl,h.Jv.Ar I h.f2,Em h.row λk d=>I.keep k (Bs h.row k d) (h.fr k d).2.2,I.not h.bx.lt h.fl,I.not h.Jv.lt h.f2,λk d=>⟨(h.fr k d).1,(h.fr k d).2.1,I.not (Bs h.row k d) (h.fr k d).2.2⟩,h.ne⟩
theorem Tk.below(h:Tk N W s t F bl b2 v st)(d:Below W.heap.size W W'):Tk N W' s t F bl b2 v st:=h.Ar (Ad.below d)
theorem Wm{c:Nat}(h:W.ownsRow N 23 1 (.slice A (st++ [x]).length c) (st++ [x]).length (AG (st++ [x]))):W.ownsRow N 23 1 (.slice A st.length c) st.length (AG st):=by
 refine⟨by rw [Da,Nat.mul_one], ?_⟩;rcases h.2 with ⟨h1,d⟩|⟨g,cap,cur,h1,d,O,U,V,Z,I⟩
 . simp at d
 . cases h1
   refine .inr ⟨g,c,cur,rfl,d,O,by rw [List.length_append] at U;omega,V,Z, ?_⟩;rw [Nat.mul_one] at I ⊢;have J:=congrArg (List.take st.length) I;rw [List.take_take,List.length_append,Nat.min_eq_left (by omega)] at J;rw [J,IF];exact List.take_left' (Da st)
def S8(N:Nat)(w:World)(s t:Nat)(F:Nat->Prop)(bl b2:Nat)(vb:Option Nat)(R:Zr)(H:List Nat)(P q most last G:Nat)(p:(Zr) × List Nat × Nat)(e:Ending)(w' :World):Prop:=
 ∃v' st',v'.ownBlock=vb/\e= .returned (.int .u64 p.2.2)/\st'.reverse=p.2.1/\Am w' s F p.1 H P q most last G/\Ad w (FB F bl) w' (FB F bl)/\Tk N w' s t F bl b2 v' st'
theorem J1(hs:Am w s F R H P q most last G)(am:BN.A1 t)(aa:Tk N w s t F bl b2 v st)(hN:s<N/\1<N)(J5:N<=bl)(aA: ∀x∈st,x<18446744073709551616)(aR:st.length<=100000){an:Value}(aS:CX w (FB F bl) an n)(aT:n.Ok):
 Calls prog 87 #[an, .pointer (some ⟨bl,0,none⟩), .pointer (some ⟨b2,0,none⟩)] w (S8 N w s t F bl b2 v.ownBlock R H P q most last G (DG R t st.reverse n)):=by
 obtain⟨⟨ab,ac,af,ag,ah,ci,aB,k1,k2,ao⟩,aU⟩:=aS;have aq:CX w (FB F bl) an n:=⟨⟨ab,ac,af,ag,ah,ci,aB,k1,k2,ao⟩,aU⟩;subst aB;obtain⟨O,ae⟩:=Zx (w.alloc (Obj.cells #[.slice ab n.keys.length ac, .slice af n.Ab.length ag, .slice ah n.kids.length ci, .int .u64 n.size] 100));have U:=G5;obtain⟨aC,ar⟩:=Zx w.heap.size;have au:An O aC 100 [.slice ab n.keys.length ac, .slice af n.Ab.length ag, .slice ah n.kids.length ci, .int .u64 n.size]:=by rw [ae,ar];exact An.new w _ _
 have d:=aa.below U;obtain⟨A,c,aD⟩:=Bu d.row;have aE:=d.bx.at' (i:=0) rfl;have aV:=d.bx.free 0;have ai:=Zh (And.intro ae ar);rw [ae] at aE aV;rcases List.eq_nil_or_concat st with rfl|⟨I,x,aF⟩
 . subst aD
   have aW:Hid (S8 N w s t F bl b2 (Value.slice A ([]:List Nat).length c).ownBlock R H P q most last G (DG R t ([]:List Nat).reverse n) (.returned (.int .u64 0)) O):=Zh ⟨_,[],rfl,rfl,rfl,hs.below U,(Ad.below U).fb,d⟩;clear hs am aa aq k1 k2 ao U au d ae;go_enter func87,ntmps87;go_wp2;rw [<-ai.1];go_ret;exact aW.out
 . rw [List.concat_eq_append] at aF
   subst aF;subst aD;have hlen:(I++ [x]).length=I.length+1:=(by simp);have aj:=d.row;have hcut:=Wm aj;obtain⟨a9,ba,aX,aG⟩:=A5 (F:=λ_=>False) aj (λ_ h=>h.elim)
   cases aX
   obtain⟨b,o,aY,bb,aH⟩:=aG.num (k:=I.length) (by omega);have aI:=aH _ (Below.refl _ _);rw [List.getElem_concat_length (by rfl)] at aI;have aJ:I.length+1<=c/\c<=maxLen:=by
    rcases aj.2 with ⟨h1,al⟩|⟨g,cap,cur,h1,al,bc,bd,aZ,be⟩
    . omega
    . cases h1;exact⟨by omega,aZ⟩
   unfold maxLen at aJ;have a0:x<18446744073709551616:=aA x (by simp);obtain⟨bf,bg⟩:=aJ;have bh:I.length+1<=100000:=(by omega);have aK:=d.fr;have aw: ∀k,(Value.slice A I.length c).ownBlock=some k->k≠bl/\k≠b2/\ ¬F k:=(λk Z=>aK k (by cases A with|none=>simp [Value.ownBlock] at Z|some a=>exact Z));have aL:=hs.below U;have a1:Hid (∀(V w3:World),V=O.setCell ⟨bl,0,none⟩ (.slice A I.length c)->Am w3 s F (Bq R t x n) H P q most last G->Ad V F w3 F->S8 N w s t F bl b2 (Value.slice A (I++ [x]).length c).ownBlock R H P q most last G (DG R t (I++ [x]).reverse n) (.returned (.int .u64 (x:Nat))) w3):=Zh (λV w3 J h1 al=>by
    have a2:DG R t (I++ [x]).reverse n=(Bq R t x n,I.reverse,x):=(by simp [DG]);rw [a2];have a3:Tk N V s t F bl b2 (.slice A I.length c) I:=by
     rw [J];refine⟨d.bx.set 0 _,d.Jv.other (p:=⟨bl,0,none⟩) (Ne.symm d.ne) _,Em hcut λk Z=>Below.heap_setCell O ⟨bl,0,none⟩ _ k (aw k Z).1,d.fl,d.f2,aw,d.ne⟩
    refine⟨_,I,by cases A<;>rfl,rfl,rfl,h1,((Ad.below U).fb.trans (by rw [J];exact Ad.GK O F bl 0 _)).trans al.fb,a3.Ar al⟩)
   obtain⟨V,J⟩:=Zx (O.setCell ⟨bl,0,none⟩ (.slice A I.length c));have aM:Am V s F R H P q most last G:=by
    rw [J];refine aL.grown (A3 O bl 0 _) (λk Z=> ?_);obtain rfl:bl=k:=Option.some.inj Z;refine⟨by omega,by omega,d.fl,λp aN=> ?_⟩;rw [d.bx.at' (i:=0) rfl] at aN
    cases aN
   have aO:CX V F (.agg #[.slice ab n.keys.length ac, .slice af n.Ab.length ag, .slice ah n.kids.length ci, .int .u64 n.size]) n:=by
    rw [J];exact((aq.Ar (Ad.below U)).Ar (Ad.GK O F bl 0 _)).less λb a4=> .inl a4
   have ax:=F8 aM t am x a0 aO aT;unfold Kk at ax;have ay:=au.other (p:=⟨bl,0,none⟩) (λe=>by have bi:=aa.bx.lt;have bj:aC=bl:=e;omega) (.slice A I.length c);have az:=d.Jv.other (p:=⟨bl,0,none⟩) (Ne.symm d.ne) (.slice A I.length c);rw [<-J] at ay az;obtain⟨a30,a31,a32,a33⟩:=C5 ay;obtain⟨a20,a21⟩:=A2 az;have a5:=Zh ax;have a6:=Zh J;rw [ai.1] at aI;rw [hlen] at aE;rw [ai.1] at J;have a7:=Zh J;subst aY;clear ar ax J aM aO ay az hs am aa aq k1 k2 ao U au d ae aj hcut aG aH aK aw aL hlen aA aR hN;go_enter func87,ntmps87;go_upto_region 5 with (fail);rw [<-a7.out,<-ai.2];go_wp2_with fail;refine a5.mono ?_;rintro e w3 ⟨rfl,aP,aQ⟩;have a8:=Zh (a1 V w3 a6 aP aQ);clear aP aQ;go_wp2;go_ret;exact a8.out
end
def BN.J7(n:BN)(k a b:Nat):BN:=⟨n.keys.set k a,n.Ab.set k b,n.kids,n.size⟩
def Ct(R:Zr)(t:Nat)(key:ByteArray)(ak av:Nat):Nat->Nat->(Zr) × Option (Nat × Nat)
 |0,_=>(R,none)
 |f+1,h=>
  if Bm R t h≠0 then (R,none) else
  swGo (Ag R t h) h (DJ R (Ag R t h).keys key) (Gx R (Ag R t h).keys key) (Ct R t key ak av f)
where
 swGo (n:BN) (h k:Nat) (b:Bool) (rec:Nat->(Zr) × Option (Nat × Nat)):(Zr) × Option (Nat × Nat):=
  cond b (Bq R t h (n.J7 k ak av),some (n.keys.getD k 0,n.Ab.getD k 0)) (if n.kids= [] then (R,none) else rec (n.kids.getD k 0))
namespace Bt
variable {a b l:List It}{it x:It}{k:Nat}
def CD(l:List It)(it:It):List It:=l.map λi=>if i.k=it.k then it else i
theorem Hz(l:List It)(it:It):(CD l it).length=l.length:=by simp [CD]
theorem HZ(a b:List It)(it:It):CD (a++b) it=CD a it++CD b it:=by simp [CD]
theorem HP(h: ∀i∈l,i.k≠it.k):CD l it=l:=by
 unfold CD
 conv=>rhs;rw [<-List.map_id l]
 exact List.map_congr_left λi hi=>if_neg (h i hi)
def Yfo{P}(h:P:=by
 rw [show i.pr.1=x.pr.1 from e,(Cp.2 rfl:Tx.cmp x.pr.1 x.pr.1=0)] at this;omega):=h
theorem UU(d:AY (AI (a++x::b))):(∀i∈a,i.k≠x.k)/\ ∀i∈b,i.k≠x.k:=by
 rw [Br,CQ] at d;obtain⟨h1,I,J⟩:=List.pairwise_append.1 d;refine⟨λi hi e=> ?_,λi hi e=> ?_⟩
 . have:=J i.pr (List.mem_map.2 ⟨i,hi,rfl⟩) x.pr (by simp)
   exact Yfo
 . have:=(List.pairwise_cons.1 I).1 i.pr (List.mem_map.2 ⟨i,hi,rfl⟩)
   exact Yfo
theorem LH(I:AY (AI (a++x::b)))(he:x.k=it.k):CD (a++x::b) it=a++it::b:=by
 obtain⟨h1,d⟩:=UU I;rw [he] at h1 d;rw [HZ,HP h1]
 show a++(if x.k=it.k then it else x)::CD b it=_
 rw [if_pos he,HP d]
theorem PK(d:k<l.length)(I:AY (AI l))(he:l[k].k=it.k):CD l it=l.set k it:=by
 have e:l=l.take k++l[k]::l.drop (k+1):=by rw [<-List.drop_eq_getElem_cons d,List.take_append_drop]
 rw [List.set_eq_take_append_cons_drop,if_pos d]
 conv=>lhs;rw [e]
 rw [e] at I;exact LH I he
theorem WV(d:AY (AI l))(O:Bb l it.k=some x):AI (CD l it)=C4 (AI l) it.pr:=by
 obtain⟨h1,I⟩:=(Df d).2 x O;obtain⟨J,U⟩:=List.getElem?_eq_some_iff.1 h1;rw [PK J d (by rw [U];exact I)];have hp:(AI l)[AH (AI l) it.k]? =some x.pr:=by unfold AI at h1 ⊢;rw [List.getElem?_map,h1];rfl
 unfold C4
 show AI (l.set (AH (AI l) it.k) it)=_
 rw [show it.pr.1=it.k from rfl,hp];generalize AH (AI l) it.k=r at*;rw [List.set_eq_take_append_cons_drop,if_pos J];simp only [Option.map_some,show x.pr.1=x.k from rfl,I];simp [AI,List.map_take,List.map_drop]
section
variable {R:Zr} {t:Nat}
theorem Kb{key:ByteArray}{ak av f x:Nat}{n:BN}{b:Bool}(d:Ag R t x=n)(I:Bm R t x=0)(J:DJ R n.keys key=k)(O:Gx R n.keys key=b):Ct R t key ak av (f+1) x=Ct.swGo R t ak av n x k b (Ct R t key ak av f):=by
 subst d J O
 conv=>lhs;unfold Ct
 rw [if_neg (by rw [I];simp)]
def Ych{P}(h:P:=by
 rcases O.2.2 with h|h
 . exact absurd h (by simp [Aj])
 . exact h.2):=h
def Ydo{P}(h:P:=by
 rw [d,List.map_set];refine List.ext_getElem (by simp) λj q1 I=> ?_
 rw [List.getElem_set]
 split
 . next e=>subst e;simp
 . rfl):=h
theorem SD(aG:BN.A1 t)(it old:It): ∀(a lo f:Nat) (s:Sb),At R t a lo s->R 0=none->s.ns.Nodup->(∀i∈s.Aa,i.At R)->AY (AI s.Aa)->Bb s.Aa it.k=some old->a<f->
 ∃R',Ct R t it.k it.kh it.vh f s.h=(R',some (old.kh,old.vh))/\At R' t a lo ⟨s.h,CD s.Aa it,s.ns⟩/\(∀z,z∉s.ns->R' z=R z):=by
 intro a
 induction a with
 |zero=>
  intro lo f s h aw ax U J ae aR;obtain⟨f,rfl⟩: ∃g,f=g+1:=⟨f-1,by omega⟩;obtain⟨ag,ah⟩:=h.2.2.get aG;obtain⟨g1,g2⟩:=(Df J).2 old ae;obtain⟨I,g3⟩:=List.getElem?_eq_some_iff.1 g1;rw [Kb ag ah (B4 U J) (Ev U J),ae];have al:(Aq s.Aa).J7 (AH (AI s.Aa) it.k) it.kh it.vh=Aq (CD s.Aa it):=by
   rw [PK I J (by rw [g3];exact g2)];simp [BN.J7,Aq,List.map_set]
  have O:(Aq (CD s.Aa it)).Fits t:=Co (by rw [Hz];have:=h.2.2.2.1;simpa [Aq] using this);refine⟨AT R s.h (some ((Aq (CD s.Aa it)).wd t)), ?_,⟨h.1,by show lo<=(CD s.Aa it).length;rw [Hz];exact h.2.1,AR _ _ _,O⟩,λz am=>As λe=>am (by rw [h.1,e];simp)⟩;unfold Ct.swGo;rw [Option.isSome_some,cond_true,al,B9 O h.2.2.1 (BN.B6 _ _)];simp [Aq,I,g3]
 |succ a ih=>
  intro lo f s h aw ax U J ae aR;obtain⟨f,rfl⟩: ∃g,f=g+1:=⟨f-1,by omega⟩;have aS:=h.FD aw;obtain⟨c,l,h1,ac,aH,ai,ay,an⟩:=h;obtain⟨ag,ah⟩:=ai.get aG;obtain⟨ao,a5,a6⟩:=s;dsimp only at h1 ac ai U J ae ax ag ah aS ⊢;subst h1 ac;obtain⟨az,nn⟩:=List.nodup_cons.1 ax;obtain⟨aq,aI⟩:=Yjm;have af:=N0 (key:=it.k) aq;have aA:=B4 (key:=it.k) aI aq;have aJ:=Ev (key:=it.k) aI aq;rw [List.map_map] at aA aJ;have aK:=λi=>(Df (key:=it.k) aq).2 i
  generalize AH (AI (l.map (·.1))) it.k=k at af aA aK;have ab:=af.le;rw [Kb ag ah aA aJ];have O:=ai.2
  cases V:Bb (l.map (·.1)) it.k with
  |some i=>
   obtain⟨g1,g2⟩:=aK i V;rw [List.getElem?_map] at g1;by_cases I:k<l.length
   . rw [List.getElem?_eq_getElem I] at g1
     simp only [Option.map_some,Option.some.injEq] at g1;have aL:l[k].1.k=it.k:=(by rw [g1];exact g2);have aT:l[k].1=old:=by
      have:=af.here J I aL;rw [ae] at this;exact(Option.some.inj this).symm
     obtain⟨l',d⟩:=Zx (l.set k (it,l[k].2));have hlen:l'.length=l.length:=(by rw [d];simp);have aM:l'.map (·.2.h)=l.map (·.2.h):=by
      exact Ydo
     have aj:Ah c l' =CD (Ah c l) it:=by
      have ag:Ah c l=(pre c l k++(Ap c l k).Aa)++l[k].1::(l[k].2.Aa++rest (l.drop (k+1))):=by
       rw [Bw c l k ab,List.drop_eq_getElem_cons I,BU];simp
      have aU: ∀(l l' :List Lk) (c:Sb) (k:Nat),k<=l.length->l'.take k=l.take k->pre c l' k=pre c l k/\Ap c l' k=Ap c l k:=by
       intro l
       induction l with
       |nil=>intro l' c k h1 ac;obtain rfl:k=0:=by simpa using h1
             cases l' <;>exact⟨rfl,rfl⟩
       |cons p l ih=>
        intro l' c k h1 ac
        cases k with
        |zero=>cases l' <;>exact⟨rfl,rfl⟩
        |succ k=>
         cases l' with
         |nil=>simp at ac
         |cons p' l' =>
          simp only [List.take_succ_cons,List.cons.injEq] at ac;obtain⟨rfl,ac⟩:=ac;obtain⟨q1,aB⟩:=ih l' p'.2 k (by simpa using h1) ac;exact⟨by simp only [pre,q1],by simp only [Ap,aB]⟩
      obtain⟨q1,aB⟩:=aU l l' c k ab (by rw [d,List.take_set_of_le (Nat.le_refl _)]);have aV :k<l'.length:=(by rw [hlen];exact I);have ah:Ah c l' =(pre c l k++(Ap c l k).Aa)++it::(l[k].2.Aa++rest (l.drop (k+1))):=by
       rw [Bw c l' k (by omega),q1,aB,List.drop_eq_getElem_cons aV,BU];have aW:l'[k]=(it,l[k].2):=(by simp [d]);have aX:l'.drop (k+1)=l.drop (k+1):=(by rw [d,List.drop_set_of_lt (by omega)]);rw [aW,aX];simp
      rw [ah];rw [ag] at J ⊢;exact(LH J aL).symm
     have al:(Aj c l).J7 k it.kh it.vh=Aj c l' :=by
      have:(Ah c l').length=(Ah c l).length:=(by rw [aj,Hz]);unfold Aj;rw [aM,this];simp [BN.J7,d,List.map_set]
     have aN :(Aj c l').Fits t:=CB (by rw [hlen];have:=O.1;rwa [(DN c l).1] at this) (by
      rw [aM];exact Ych)
     have aO:Ax c l' =Ax c l:=by
      unfold Ax
      congr 1
      rw [<-List.flatMap_map (f:=λp:Lk=>p.2) (g:=λs:Sb=>s.ns),<-List.flatMap_map (f:=λp:Lk=>p.2) (g:=λs:Sb=>s.ns)]
      congr 1
      exact Ydo
     have aY : ∀p∈l',At R t a (t-1) p.2:=λp hp=>by
      rw [d] at hp;rcases List.mem_or_eq_of_mem_set hp with hp|rfl
      . exact an p hp
      . exact an l[k] (List.getElem_mem I)
     have aZ: ∀p∈l',ao∉p.2.ns:=(λp hp hm=>az (by rw [<-aO];exact C2 hp hm));refine⟨AT R ao (some ((Aj c l').wd t)), ?_,⟨c,l',aj.symm,by rw [aO],by rw [hlen];exact aH,⟨AR _ _ _,aN⟩,CN ay (λhm=>az (List.mem_append.2 (.inl hm))),λp hp=>CN (aY p hp) (aZ p hp)⟩,λz am=>As λe=>am (by rw [e];simp)⟩;unfold Ct.swGo;rw [Option.isSome_some,cond_true,al,B9 aN ai.1 (BN.B6 _ _),<-aT];simp [Aj,I]
   . exact Ydz
  |none=>
   have aP: ∀aa :k<l.length,l[k].1.k≠it.k:=λaa e=>by
    exact Ybq
   have a0:=HB k ay an;have a1:=EN c l k ab;rw [af.gone J aP] at ae;obtain⟨R',g1,g2,g3⟩:=ih (t-1) f (Ap c l k) a0 aw (Ig ab nn) (λi hi=>U i (Hj ab hi)) (DH ab J) ae (by omega);have ar:=Gj (a:=a) (lo:=t-1) ab nn ay an (λz _ a2=>g3 z a2) g2;have hlen:=CR c l k ⟨(Ap c l k).h,CD (Ap c l k).Aa it,(Ap c l k).ns⟩ ab;have aC:=EX c l k ⟨(Ap c l k).h,CD (Ap c l k).Aa it,(Ap c l k).ns⟩ ab rfl;have aj:=Ew c l k ⟨(Ap c l k).h,CD (Ap c l k).Aa it,(Ap c l k).ns⟩ ab;have aD:=DY c l k ⟨(Ap c l k).h,CD (Ap c l k).Aa it,(Ap c l k).ns⟩ ab;have aE:Ax (AM c l k ⟨(Ap c l k).h,CD (Ap c l k).Aa it,(Ap c l k).ns⟩).1 (AM c l k ⟨(Ap c l k).h,CD (Ap c l k).Aa it,(Ap c l k).ns⟩).2=Ax c l:=by
    have: ∀(c:Sb) (l:List Lk) (k:Nat) (s:Sb),k<=l.length->s.ns=(Ap c l k).ns->Ax (AM c l k s).1 (AM c l k s).2=Ax c l:=by
     intro c l
     induction l generalizing c with
     |nil=>intro k s aF hs;obtain rfl:k=0:=by simpa using aF
           simpa [AM,Ax,Ap] using hs
     |cons p l ih=>
      intro k s aF hs
      cases k with
      |zero=>simp only [AM,Ax];rw [hs];rfl
      |succ k=>
       have:=ih p.2 k s (by simpa using aF) hs;simp only [AM];rw [BC,BC,this]
    exact this c l k _ ab rfl
   have au:Ah (AM c l k ⟨(Ap c l k).h,CD (Ap c l k).Aa it,(Ap c l k).ns⟩).1 (AM c l k ⟨(Ap c l k).h,CD (Ap c l k).Aa it,(Ap c l k).ns⟩).2=CD (Ah c l) it:=by
    rw [aj,Bw c l k ab,HZ,HZ,HP (FW (af.pre J))]
    congr 2
    symm
    refine HP λi hi e=> ?_
    have hp:=af.post J i.pr (List.mem_map.2 ⟨i,hi,rfl⟩);by_cases I:k<l.length
    . have hh:=af.high k I (Nat.le_refl _)
      have a3:=aP I;rw [List.drop_eq_getElem_cons I,BU] at hi;rcases List.mem_cons.1 hi with rfl|hi
      . exact a3 e
      . have Z:=J
        rw [Bw c l k ab,List.drop_eq_getElem_cons I,BU,<-List.append_assoc,Br,CQ] at Z;have h1:=Ynk;have ac:Tx.cmp l[k].1.k it.k<0:=(by rw [<-e];exact h1);exact hh ac
    . rw [List.drop_eq_nil_of_le (by omega)] at hi
      simp [rest] at hi
   generalize AM c l k ⟨(Ap c l k).h,CD (Ap c l k).Aa it,(Ap c l k).ns⟩=cl at ar hlen aC aj aD aE au;obtain⟨aQ,l'⟩:=cl;dsimp only at ar hlen aC aj aD aE au;have al:Aj aQ l' =Aj c l:=by
    unfold Aj;rw [au,Hz,Fp,Fq,aD,<-Fp,<-Fq,aC]
   have a4:ao∉(Ap c l k).ns:=(λhm=>az (D0 ab hm));refine⟨R', ?_,⟨aQ,l',au.symm,by rw [aE],by rw [hlen];exact aH,by rw [al];exact⟨(g3 ao a4).trans ai.1,ai.2⟩,ar.1,ar.2⟩,λz am=>g3 z λhm=>am (List.mem_cons_of_mem _ (D0 ab hm))⟩;unfold Ct.swGo;rw [Option.isSome_none,cond_false,if_neg (by simp [Aj])]
   show Ct R t it.k it.kh it.vh f ((c.h::l.map (·.2.h)).getD k 0)=_
   rw [List.getD_eq_getElem?_getD,a1];exact g1
end
end Bt
variable {c g:Nat}
section
variable {W:World} {B:Nat} {v1 v2 v3:Value} {l1 l2 l3:List Nat}
theorem NG(l:List Nat)(k x:Nat):(AG l).set k (.int .u64 x)=AG (l.set k x):=by unfold AG;rw [List.map_set]
theorem AQ.X9(h:AQ W B (.slice (some ⟨g,0,none⟩) l1.length c) l1 v2 l2 v3 l3)(k x:Nat):
 AQ (W.setCell ⟨g,k,none⟩ (.int .u64 x)) B (.slice (some ⟨g,0,none⟩) l1.length c) (l1.set k x) v2 l2 v3 l3:=by
 have I: ∀b,b≠g->(W.setCell ⟨g,k,none⟩ (.int .u64 x)).heap[b]? =W.heap[b]? :=λb d=>Below.heap_setCell W ⟨g,k,none⟩ _ b d
 refine⟨?_,CK h.r2 λb d=>I b (λe=>h.a12 g rfl (e▸d)),CK h.r3 λb d=>I b (λe=>h.Oq g rfl (e▸d)),h.a12,h.Oq,h.a23⟩;rw [List.length_set,<-NG];exact(h.r1.stored k (.int .u64 x)).1
theorem AQ.ZH(h:AQ W B v1 l1 (.slice (some ⟨g,0,none⟩) l2.length c) l2 v3 l3)(k x:Nat):
 AQ (W.setCell ⟨g,k,none⟩ (.int .u64 x)) B v1 l1 (.slice (some ⟨g,0,none⟩) l2.length c) (l2.set k x) v3 l3:=(h.Eg.X9 k x).Eg
theorem Bj{v:Value}{l:List Nat}(h:W.ownsRow B 23 1 v l.length (AG l))(I:l≠ []): ∃g c,v= .slice (some ⟨g,0,none⟩) l.length c/\B<=g/\g<W.heap.size:=by
 rcases h.2 with ⟨h1,d⟩|⟨g,cap,cur,h1,d,J,O⟩
 . exact absurd (List.eq_nil_of_length_eq_zero d) I
 . exact⟨g,cap,h1,d,(Array.getElem?_eq_some_iff.1 J).1⟩
end
def X0(w:World)(s:Nat)(F:Nat->Prop)(H:List Nat)(P q most last G:Nat)(p:(Zr) × Option (Nat × Nat))(e:Ending)(w' :World):Prop:=
 e= .returned (SO p.2)/\Am w' s F p.1 H P q most last G/\Ad w F w' F
section
variable {w w':World} {s:Nat} {F:Nat->Prop} {R:Zr} {H:List Nat} {P q most last G:Nat}
def Ybu{P}(h:P:=by
 rw [aH,aS];have:=An.new (w.alloc (Obj.cells #[.pointer (some ⟨s,0,none⟩), .int .i64 t] 96)) 31 [.int .u64 ak, .int .u64 av];rw [show(w.alloc (Obj.cells #[.pointer (some ⟨s,0,none⟩), .int .i64 t] 96)).heap.size=w.heap.size+1 by simp] at this;exact this.alloc _):=h
def Ybw{P}(h:P:=by
 obtain⟨d,r1⟩:=A2 J.out;refine bodyPost_ret (v:= .agg #[.int .u64 0, .int .u64 0]) (by simp [results,f45,go_sem,d,r1]) rfl Z.out):=h
def Yho{P}(h:P:=by
 have l1:n.keys.length<=31:=by omega
 have l3:n.kids.length<=32:=by
  rcases bw with aa|aa
  . rw [aa];simp
  . omega
 have d:CX aY (λ_=>False) (.agg #[.slice a4 n.keys.length q1, .slice a3 n.Ab.length aR, .slice bb n.kids.length aP, .int .u64 n.size]) n:=aA.Mz (F:=λ_=>False) (λ_ h=>h.elim) n.size (by omega) (by omega) (by omega);exact And.intro l1 (And.intro l3 d)):=h
def Yig{P}(h:P:=by
 have ba:Below w2.heap.size w2 aY:=by rw [an];exact(Below.refl _ _).alloc (Nat.le_refl _) _
 exact ba):=h
def ZR{P}(h:P:=by
 have d:Below w.heap.size w O:=by rw [aH];exact(((Below.refl _ w).alloc (Nat.le_refl _) _).alloc (by simp) _).alloc (by simp;omega) _
 exact d):=h
def Yjy{P}(h:P:=by
 have d:=Zh br;have bj:Hid (n.kids= []\/n.kids.length=n.keys.length+1):=Zh (bw.imp id And.left);exact And.intro d bj):=h
theorem Tm(hs:Am w s F R H P q most last G)(cO:Ba R){t:Nat}(bV:BN.A1 t)(x:Nat)(hx:x<18446744073709551616)(key:ByteArray)(ak av:Nat)(bW:ak<18446744073709551616)(bX:av<18446744073709551616):
 Calls prog 45 #[.agg #[.pointer (some ⟨s,0,none⟩), .int .i64 t], .int .u64 x, .string key, .agg #[.int .u64 ak, .int .u64 av]] w (X0 w s F H P q most last G (Ct R t key ak av 40 x)):=by
 obtain⟨dB,h,dC⟩:=hs.rd;have aI:=Zh h;have aG:=Zh bV;have bY:=Zh hs;have bZ:=Zh (And.intro bW bX);obtain⟨O,aH⟩:=Zx (((w.alloc (Obj.cells #[.pointer (some ⟨s,0,none⟩), .int .i64 t] 96)).alloc (Obj.cells #[.int .u64 ak, .int .u64 av] 31)).alloc (Obj.cells #[.int .u64 0, .int .u64 0] 31));have b3:=ZR;obtain⟨b4,V⟩:=Zx w.heap.size;obtain⟨b7,aS⟩:=Zx (w.heap.size+1);obtain⟨aj,bG⟩:=Zx (w.heap.size+1+1);have aM:An O b4 96 [.pointer (some ⟨s,0,none⟩), .int .i64 t]:=by rw [aH,V];exact((An.new w 96 [.pointer (some ⟨s,0,none⟩), .int .i64 t]).alloc _).alloc _
 have x7:An O b7 31 [.int .u64 ak, .int .u64 av]:=by
  exact Ybu
 have b5:An O aj 31 [.int .u64 0, .int .u64 0]:=by
  rw [aH,bG];have:=An.new ((w.alloc (Obj.cells #[.pointer (some ⟨s,0,none⟩), .int .i64 t] 96)).alloc (Obj.cells #[.int .u64 ak, .int .u64 av] 31)) 31 [.int .u64 0, .int .u64 0]
  rwa [show((w.alloc (Obj.cells #[.pointer (some ⟨s,0,none⟩), .int .i64 t] 96)).alloc (Obj.cells #[.int .u64 ak, .int .u64 av] 31)).heap.size=w.heap.size+1+1 by simp] at this
 have g8:w.heap.size<=aj:=by omega
 have bi:=Zh (And.intro aH (And.intro V (And.intro aS bG)));have aT:=Zh b3;have bc:=Zh aM;have bd:=Zh x7;have cP:=Zh b5;have bH:Hid (∀W,Ct R t key ak av 40 x=(R,none)->Below w.heap.size w W->X0 w s F H P q most last G (Ct R t key ak av 40 x) (.returned (.agg #[.int .u64 0, .int .u64 0])) W):=Zh (λW h1 bk=>by
  rw [h1];exact⟨rfl,hs.below bk,Ad.below bk⟩)
 obtain⟨D,b8⟩:=Zx (Ct R t key ak av 40 x);have a7:=Zh b8;clear h bV hs bW bX aH V aS bG aM x7 b5 b3 b8;go_enter func45,ntmps45;go_wp2;rw [<-bi.1,<-bi.2.2.2,<-bi.2.2.1,<-bi.2.1]
 go_loopw [1,14] (λcQ bI wr=> ∃(i bJ :Nat),i<=40/\bJ <18446744073709551616/\cQ= .int .u64 bJ /\bI= .int .i64 i/\Hid (D=Ct R t key ak av (40-i) bJ)/\Hid (Below O.heap.size O wr)) (λ_ bI _=>40-(intOf bI).toNat)
 case atStart=>exact⟨0,x,by omega,hx,rfl,rfl,a7,Zh (Below.refl _ _)⟩
 case round=>
  obtain⟨i,y,hi,aZ,rfl,rfl,hd,ag⟩:=hrel;have aF:=aT.trans (ag.mono aT.size);have ac:=Zh aF;obtain⟨bm,aU⟩:=Yhh;have aW:=Zh (cP.below ag);obtain⟨a8,a9⟩:=A2 bm.out;by_cases dD:i<40
  . have b9:=Ymn
    obtain⟨m,hm⟩: ∃m,40-i=m+1:=⟨39-i,by omega⟩;clear aF;go_wp2_with fail;refine b9.mono ?_;rintro e w2 ⟨v1,v2,v3,rfl,d,bo⟩;obtain⟨a4,q1,rfl⟩:=Ae d.r1;obtain⟨a3,aR,rfl⟩:=Ae d.r2;obtain⟨bb,aP,rfl⟩:=Ae d.r3;obtain⟨n,aw⟩:=Zx (Ag R t y);have cb:D=Ct R t key ak av (m+1) y:=(by rw [<-hm];exact hd.out);rw [<-aw] at d;rw [<-aw];obtain⟨aY,an⟩:=Zx (w2.alloc (Obj.cells #[.slice a4 n.keys.length q1, .slice a3 n.Ab.length aR, .slice bb n.kids.length aP, .int .u64 n.size] 100));obtain⟨a1,aD⟩:=Zx w2.heap.size;have ba:=Yig;have aO:An aY a1 100 [.slice a4 n.keys.length q1, .slice a3 n.Ab.length aR, .slice bb n.kids.length aP, .int .u64 n.size]:=(by rw [an,aD];exact An.new w2 100 [.slice a4 n.keys.length q1, .slice a3 n.Ab.length aR, .slice bb n.kids.length aP, .int .u64 n.size]);have I:Below wr.heap.size wr aY:=bo.trans (ba.mono bo.size);have z4:=Zh (bm.below I);obtain⟨cc,bK⟩:=Xx;have af:=DR;have bp:=Zh ag.size;have al:=ZB;have cR:=Zh (show b4<wr.heap.size/\b7<wr.heap.size/\aj<wr.heap.size/\wr.heap.size<=a1 from⟨bm.lt,aU.lt,aW.lt,by have:=bo.size;omega⟩);have cd:=Zh (show(∀k,(Value.slice a4 n.keys.length q1).ownBlock=some k->k<a1)/\ ∀k,(Value.slice a3 n.Ab.length aR).ownBlock=some k->k<a1 from⟨λk aL=>by rw [aD];exact Bs d.r1 k aL,λk aL=>by rw [aD];exact Bs d.r2 k aL⟩);obtain⟨a2,ce⟩:=OC;obtain⟨ao,aA⟩:=YB;have bL:=Zh cb;have cT:=Zh hm;clear a8 a9 b9 bo d aw an aD ba I aO cb hd ag bm aU aW ac hm;by_cases he:Bm R t y=0
    . rw [decide_eq_true he]
      have hw:=BR aI aG he;rw [<-ce.out] at hw;obtain⟨cU,a5,be,wc,bf⟩:=hw;have t2:=aG.2;obtain⟨g1,g2,bw⟩:=cU;obtain⟨l1,l3,cf⟩:=Yho;have br:=GX (aI.below af) cO cf t a5 key;obtain⟨k,aL⟩:=Zx (DJ R n.keys key);obtain⟨ag,aQ⟩:=Zx (Gx R n.keys key);have dE:=YV;have cg:=Yob;rw [<-aL,<-aQ] at br;have ci:D=Ct.swGo R t ak av n y k ag (Ct R t key ak av m):=by
       rw [bL.out];exact Bt.Kb ce.symm he aL.symm aQ.symm
      have cj:=Zh ci;obtain⟨ck,bj⟩:=Yjy;have cV:=Zh cg;have aX:=Zh g2;have cl:=Zh (And.intro a5 (And.intro be (And.intro wc bf)));have cn:=Zh (And.intro l1 l3);obtain⟨a8,a9⟩:=A2 z4.out;rw [a2.1] at a8 a9;clear cf br aL aQ ci cg g1 g2 bw a5 be wc bf he bL l1 l3;go_wp2_with fail;rw [<-a2.1,<-a2.2];refine ck.mono ?_;rintro e w4 ⟨rfl,V⟩;have co:=Zh (z4.below V);have cp:=Zh (cc.below V);have u8:=Zh (bK.below V);obtain⟨bM,ay⟩:=VQ;have ax:=Jt;have cW:=Ygo;have am:=cj.out;unfold Ct.swGo at am;obtain⟨f0,f1,f2,f3⟩:=C5 bM.out;clear V z4 cc bK ao aA af al ck a2 a8 a9 cj
      cases ag with
      |true=>
       simp only [cond_true] at am;have ae:=cV.out rfl;have bq:=YO;obtain⟨ab,dF,cX,cY,cZ⟩:=Bj ay.r1 (λe=>by rw [e] at ae;simp at ae);obtain⟨ai,dG,c8,c9,da⟩:=Bj ay.r2 (λe=>by rw [e] at bq;simp at bq)
       cases cX
       cases c8
       have dH:=cd.1 ab rfl;have dI:=cd.2 ai rfl;have bs:w4.cell? ⟨ab,k,none⟩=some (.int .u64 (n.keys[k]:Nat)):=(ay.r1.cellAt k (by omega)).trans (EK ae);have bu:w4.cell? ⟨ai,k,none⟩=some (.int .u64 (n.Ab[k]:Nat)):=(ay.r2.cellAt k (by omega)).trans (EK bq);rw [show n.keys.getD k 0=n.keys[k] by simp [ae],show n.Ab.getD k 0=n.Ab[k] by simp [bq]] at am;obtain⟨az,db⟩: ∃y,n.keys[k]=y:=⟨_,rfl⟩;obtain⟨aB,dc⟩: ∃y,n.Ab[k]=y:=⟨_,rfl⟩;rw [db] at bs am;rw [dc] at bu am;have bN:=(λX:Au (λ_=>False) w4=>X.cell f0 (λh=>h));have bO:=(λX:Au (λ_=>False) w4=>X.cell f1 (λh=>h));have bP:=(λX:Au (λ_=>False) w4=>X.cell bs (λh=>h));have aM:=(λX:Au (λ_=>False) w4=>X.cell bu (λh=>h));go_wp2;refine Aw (λw' => ∃X:Au (λ_=>False) w4,w' =X.W) [.r 0, .r 1, .r 2, .r 3, .r 4, .r 5, .r 6, .r 7, .r 8, .r 9, .r 10, .a 11, .a 12] (Ay _ _) ?_
       iterate 11 (refine AE ?_;go_simp)
       clear bN bO bP aM;refine AK _ rfl (λaC au=> ?_);go_wp2;refine au _ _ (Af (((Ac w4)).alloc (Nat.le_refl _) _)) ?_;clear au aC;refine AK _ rfl (λaC au=> ?_);go_wp2;have U:Below w4.heap.size w4 (w4.alloc (Obj.cells #[.int .u64 az, .int .u64 aB] 31)).drew:=(((Below.refl _ w4)).alloc (Nat.le_refl _) _).drew;refine au _ _ (Af U) (AO ?_);clear au aC;obtain⟨b13,bv⟩:=Zx w4.heap.size;have EH:An (w4.alloc (Obj.cells #[.int .u64 az, .int .u64 aB] 31)).drew b13 31 [.int .u64 az, .int .u64 aB]:=(by rw [bv];exact BG (An.new w4 31 [.int .u64 az, .int .u64 aB]));rw [<-bv];have bQ:=Zh bv;obtain⟨ar,cr⟩:=Zx ((w4.alloc (Obj.cells #[.int .u64 az, .int .u64 aB] 31)).drew);rw [<-cr] at U EH ⊢;have dd:=Zh (co.below U);have cu:=Zh (cp.below U);have de:=Zh (u8.below U);have bR:=Zh (bM.below U);have bz:=Zh (ay.below U);have df:=Zh EH;have dg:=QK;have dJ :=U.cell (p:=⟨ab,k,none⟩) cZ▸bs;have dK :=U.cell (p:=⟨ai,k,none⟩) da▸bu;have dL :=bz.r1.frozenAt k;have dM :=bz.r2.frozenAt k;have dN:ab≠ai:=(λe=>bz.a12 ab rfl (by rw [e];rfl));have dO:=cR.out;have dh:w.heap.size<=ab:=Nat.le_trans (Nat.le_trans aT.size bp.out) cY;have di:w.heap.size<=ai:=Nat.le_trans (Nat.le_trans aT.size bp.out) c9;have n7: ¬(b7=ab\/b7=ai):=(by omega);have n9: ¬(a1=ab\/a1=ai):=(by omega);clear bs bu f0 f1 f2 f3 EH cr U bv co cp u8 bM ay ax;obtain⟨f0,f1⟩:=A2 bR.out;have bN:=(λX:Au (λb=>b=ab\/b=ai) ar=>X.cell f0 n9);have bO:=(λX:Au (λb=>b=ab\/b=ai) ar=>X.cell f1 n9);have bP:=(λX:Au (λb=>b=ab\/b=ai) ar=>X.cell (cu.at' (i:=0) rfl) n7);have aM:=(λX:Au (λb=>b=ab\/b=ai) ar=>X.cell (cu.at' (i:=1) rfl) n7);go_wp2;refine Aw (λw' => ∃X:Au (λb=>b=ab\/b=ai) ar,w' =X.W) [.r 0, .r 1, .r 2, .r 3, .r 4, .r 5, .r 6, .r 7, .r 8, .r 9, .r 10, .a 11, .r 12, .a 13] (Ay _ _) ?_
       iterate 11 (refine AE ?_;go_simp)
       clear bN bO bP aM;refine AK _ rfl (λaC au=> ?_);go_wp2;refine au _ _ (Cl (Bi (B:=λb=>b=ab\/b=ai) (p:=⟨ab,k,none⟩) (Af (Below.refl _ _)) (.inl rfl) _) (Ac _)) ?_;clear au aC;refine AE ?_;go_simp;refine AK _ rfl (λaC au=> ?_);go_wp2;have cv:AQ ((ar.setCell ⟨ab,k,none⟩ (.int .u64 ak)).setCell ⟨ai,k,none⟩ (.int .u64 av)).drew wr.heap.size _ (n.keys.set k ak) _ (n.Ab.set k av) _ n.kids:=((bz.X9 k ak).ZH k av).below (Ac _);have bS:Below w.heap.size w ((ar.setCell ⟨ab,k,none⟩ (.int .u64 ak)).setCell ⟨ai,k,none⟩ (.int .u64 av)).drew:=((dg.setCell (p:=⟨ab,k,none⟩) dh _).setCell (p:=⟨ai,k,none⟩) di _).drew;have two: ∀{b:Nat} {T:TypeId} {vs:List Value},An ar b T vs->b≠ab->b≠ai->An ((ar.setCell ⟨ab,k,none⟩ (.int .u64 ak)).setCell ⟨ai,k,none⟩ (.int .u64 av)).drew b T vs:=(λh h1 bk=>BG ((h.other (p:=⟨ab,k,none⟩) h1 _).other (p:=⟨ai,k,none⟩) bk _));have cw:=two dd (by omega) (by omega);have cx:=two de (by omega) (by omega);have cy:=two bR (by omega) (by omega);have cz:=two df (by have:=bQ.out;omega) (by have:=bQ.out;omega);have cB: ∃X:Au (λb=>b=ab\/b=ai) ar,((ar.setCell ⟨ab,k,none⟩ (.int .u64 ak)).setCell ⟨ai,k,none⟩ (.int .u64 av)).drew=X.W:=Cl (Bi (B:=λb=>b=ab\/b=ai) (p:=⟨ai,k,none⟩) (Bi (B:=λb=>b=ab\/b=ai) (p:=⟨ab,k,none⟩) (Af (Below.refl _ _)) (.inl rfl) _) (.inr rfl) _) (Ac _);clear two;generalize dj:((ar.setCell ⟨ab,k,none⟩ (.int .u64 ak)).setCell ⟨ai,k,none⟩ (.int .u64 av)).drew=W6 at*;refine au _ _ cB (AO ?_);clear au aC cB dj;have dk:=Zh (bY.below bS);have dl:=Zh (Ad.below (F:=F) bS);obtain⟨a5,be,wc,bf⟩:=cl.out;have cC:(n.J7 k ak av).Ok:=⟨λz aE=>by
        rcases List.mem_or_eq_of_mem_set aE with aa|aa
        . obtain⟨j,bg,rfl⟩:=List.getElem_of_mem aa;exact a5 j bg
        . rw [aa];exact bZ.1,λz aE=>by
        rcases List.mem_or_eq_of_mem_set aE with aa|aa
        . obtain⟨j,bg,rfl⟩:=List.getElem_of_mem aa;exact be j bg
        . rw [aa];exact bZ.2,λz aE=>by obtain⟨j,bg,rfl⟩:=List.getElem_of_mem aE;exact wc j bg,bf⟩
       have dm:=cn.1;have dn:=cn.2;have dp:=aX.out;have bA: ∀b,F b->b<w.heap.size:=(λb ag=>bY.lt ag);have bT:=cv.Mz (F:=F) (λb ag=>Nat.lt_of_lt_of_le (bA b ag) (Nat.le_trans aT.size bp.out)) n.size (by simp;omega) (by simp;omega) (by omega);rw [show(BN.mk (n.keys.set k ak) (n.Ab.set k av) n.kids n.size)=n.J7 k ak av from rfl] at bT;have dq:=Zh (F8 dk.out t aG y aZ bT cC);obtain⟨f0,f1,f2,f3⟩:=C5 cy;obtain⟨a8,a9⟩:=A2 cw;have cD: ¬F aj:=(λaa=>by have:=bA _ aa;omega);have dr: ¬F b13:=(λaa=>by have:=bA _ aa;have:=bQ.out;have:=aT.size;have:=bp.out;omega);have ds:=Zh cx;have dt:=Zh cz;clear cC dm dp dn bT a5 be wc bf cv bS cx cz cw cy bA;go_wp2_with fail;refine dq.mono ?_;unfold Kk;rintro e cF ⟨rfl,cG,bB⟩;have bh:=Zh (ds.Ar bB cD);have cH:=dt.Ar bB dr;obtain⟨i0,i1⟩:=A2 cH;have bC:=bh.free 0;have k1:=bh.free 1;obtain⟨bD,bE⟩:=A2 bh.out;have du:=Zh cG;have dv:=Zh bB;have J:=Zh ((bh.set 0 (.int .u64 az)).set 1 (.int .u64 aB));clear cG bB cH;go_wp2;obtain⟨dw,r1⟩:=A2 J.out;refine bodyPost_ret (v:= .agg #[.int .u64 az, .int .u64 aB]) (by simp [results,f45,go_sem,dw,r1]) rfl ?_;rw [<-a7.out,am];have cI:s<aj/\1<aj:=by
        obtain⟨_,_,_,_,_,_,_,_,_,_,_,_,_,_,_,_,_,m2,m3,m4⟩:=aI.out;omega
       refine⟨rfl,du.grown (Bh (A3 cF aj 0 _) (A3 _ aj 1 _)) (λz aE=> ?_), ?_⟩
       . obtain rfl:aj=z:=Option.some.inj aE
         refine⟨cI.1,cI.2,cD,λbR cJ=> ?_⟩;rw [bh.at' (i:=0) rfl] at cJ
         cases cJ
       . exact(dl.trans dv).minus ((Ad.GK cF F aj 0 _).trans (Ad.GK _ F aj 1 _)) g8
      |false=>
       simp only [cond_false] at am;by_cases ah:n.kids= []
       . have dx:n.kids.length=0:=by rw [ah];rfl
         rw [if_pos ah] at am;have a6:=a7.symm.trans am;clear am;have aq:=u8.out;have bC:=aq.free 0;have k1:=aq.free 1;obtain⟨bD,bE⟩:=A2 aq;have Z:=Zh (bH _ a6 ((ax.setCell (p:=⟨aj,0,none⟩) g8 (.int .u64 0)).setCell (p:=⟨aj,1,none⟩) g8 (.int .u64 0)));have J:=PU;clear aq;go_wp2;exact Ybw
       . have dx:=V9
         rw [if_neg ah] at am;have bU:k<n.kids.length:=by
          exact VD
         obtain⟨B3,dP,dy,cK⟩:=A5 (F:=λ_=>False) ay.r3 (λ_ h=>h.elim)
         cases dy
         obtain⟨dQ,dR,rfl,dS,cL⟩:=cK.num bU;have dz:=cL w4 (Below.refl _ _);have cM:=cl.2.2.1 k bU;rw [show n.kids.getD k 0=n.kids[k] by simp [bU]] at am;obtain⟨bF,cN⟩: ∃bF,n.kids[k]=bF:=⟨_,rfl⟩;rw [cN] at dz cM am;have hrel:Hid (D=Ct R t key ak av (40-(i+1)) bF):=Zh (by rw [show 40-(i+1)=m by have:=cT.out;omega];exact am);clear cN cL am ah cK;go_wp2;go_roundw
         case rel=>exact⟨i+1,bF,by omega,cM,rfl,by go_num,hrel,cW⟩
         case measure=>simp [intOf];omega
    . rw [decide_eq_false he]
      have dA:=Zh he;clear he;have a6:Ct R t key ak av 40 x=(R,none):=(by rw [<-a7.out,bL.out];unfold Ct;exact if_pos dA.out);have aq:=bK.out;have bC:=aq.free 0;have k1:=aq.free 1;obtain⟨bD,bE⟩:=A2 aq;have Z:=Zh (bH _ a6 ((af.setCell (p:=⟨aj,0,none⟩) g8 (.int .u64 0)).setCell (p:=⟨aj,1,none⟩) g8 (.int .u64 0)));have J:=PU;clear aq a6;rw [a2.1] at bC k1 bD bE;go_wp2;rw [<-a2.1];exact Ybw
  . obtain rfl:i=40:=by omega
    have a6:Ct R t key ak av 40 x=(R,none):=(by rw [<-a7.out,hd.out];rfl);have aq:=aW.out;have bC:=aq.free 0;have k1:=aq.free 1;obtain⟨bD,bE⟩:=A2 aq;have Z:=Zh (bH _ a6 ((aF.setCell (p:=⟨aj,0,none⟩) g8 (.int .u64 0)).setCell (p:=⟨aj,1,none⟩) g8 (.int .u64 0)));have J:=PU;clear aq;go_wp2;exact Ybw
end
