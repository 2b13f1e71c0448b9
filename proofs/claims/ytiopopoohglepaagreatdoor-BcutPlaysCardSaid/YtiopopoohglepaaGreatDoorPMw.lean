/- A part. -/
import Derived.Test.YtiopopoohglepaaGreatDoorPMv
import Derived.Shelf.Spec.SlicesInsert
import Derived.Lib.AppendZerosOnto
import Derived.Laws.NewBlocks
set_option linter.all false
set_option maxRecDepth 100000
set_option maxHeartbeats 16000000
namespace Go.Proofs.YtiopopoohglepaaGreatDoor
open Go.Proofs.Tryz
open Go.RowKit Go.Shelf Go.Lib
variable {A:Option Addr}{B N b2 bl cap g j o t vb x:Nat}{F F':Nat->Prop}{T e:TypeId}{W W' w w3:World}{cur:Array Value}{l st:List Nat}{n:BN}{v v':Value}
def Hs(cur:Array Value):Nat->List Value->Array Value
 |_,[]=>cur
 |o,v::vs=>Hs (cur.setIfInBounds o v) (o+1) vs
theorem Dq: ∀(vs:List Value) (o:Nat) (cur:Array Value),(Hs cur o vs).size=cur.size
 | [],_,_=>rfl
 |v::vs,o,cur=>by unfold Hs;rw [Dq vs,Array.size_setIfInBounds]
theorem Gv: ∀(vs:List Value) (o:Nat) (cur:Array Value),o+vs.length<=cur.size->(Hs cur o vs).toList=cur.toList.take o++(vs++cur.toList.drop (o+vs.length))
 | [],o,cur,_=>by simp [Hs]
 |v::vs,o,cur,h=>by
  simp only [List.length_cons] at h;unfold Hs;rw [Gv vs (o+1) _ (by rw [Array.size_setIfInBounds];omega),Array.toList_setIfInBounds];have I:o<cur.toList.length:=by rw [Array.length_toList];omega
  rw [List.take_set,List.drop_set_of_lt (by omega),List.take_succ_eq_append_getElem I,List.set_append_right _ _ (by rw [List.length_take];omega)];rw [List.length_take,Nat.min_eq_left (by omega),Nat.sub_self];simp only [List.set_cons_zero,List.append_assoc,List.cons_append,List.nil_append,List.length_cons];rw [show o+(vs.length+1)=o+1+vs.length by omega]
theorem OF{fr:Nat × Nat}(h:w.heap[g]? =some (.cells cur e fr))(v:Value):(w.setCell ⟨g,o,none⟩ v).heap[g]? =some (.cells (cur.setIfInBounds o v) e fr):=by
 simp [World.setCell,Array.getElem?_modify,h]
theorem DM: ∀(vs:List Value) (o:Nat) (w:World) {g:Nat} {cur:Array Value} {e:TypeId} {fr:Nat × Nat},w.heap[g]? =some (.cells cur e fr)->(w.setCells g o vs).heap[g]? =some (.cells (Hs cur o vs) e fr)
 | [],_,_,_,_,_,_,h=>h
 |v::vs,o,w,g,cur,e,fr,h=>DM vs (o+1) _ (OF h v)
theorem Dx: ∀(vs:List Value) (o:Nat) (w:World) (g k:Nat),k≠g->(w.setCells g o vs).heap[k]? =w.heap[k]?
 | [],_,_,_,_,_=>rfl
 |v::vs,o,w,g,k,h=>(Dx vs (o+1) _ g k h).trans (Below.heap_setCell w ⟨g,o,none⟩ v k h)
theorem DK: ∀(vs:List Value) (o:Nat) (w:World) (g:Nat),(w.setCells g o vs).heap.size=w.heap.size/\(w.setCells g o vs).os=w.os/\(w.setCells g o vs).tape=w.tape/\(w.setCells g o vs).output=w.output
 | [],_,_,_=>⟨rfl,rfl,rfl,rfl⟩
 |v::vs,o,w,g=>by
  obtain⟨h1,I,J,O⟩:=DK vs (o+1) (w.setCell ⟨g,o,none⟩ v) g;exact⟨by rw [World.setCells,h1];simp [World.setCell],I,J,O⟩
theorem I0{fr:Nat × Nat}(h:w.heap[g]? =some (.cells cur e fr)):w.cell? ⟨g,j,none⟩=cur[j]? :=by simp [World.cell?,h]
theorem J3(h:w.heap[g]? =some (.cells cur e (0,0))):w.frozen? ⟨g,j,none⟩=false:=by simp [World.frozen?,h]
theorem F5{u:Value}{fr:Nat × Nat}(h:w.heap[g]? =some (.cells #[u] e fr)): ∀j I,[u][j]? =some I ->w.cell? ((⟨g,0,none⟩:Addr).add j)=some I :=by
 intro j I J
 cases j with
 |zero=>rw [Addr.add_lit,I0 h];simpa using J
 |succ j=>simp at J
def JD(B:Nat)(w:World)(r:Option Nat)(l:List Nat)(e:Ending)(w' :World):Prop:=
 ∃v',e= .returned v' /\w'.ownsRow B 23 1 v' l.length (AF l)/\Rw w w' r v'.ownBlock
theorem IA(a b:List Nat):AF (a++b)=AF a++AF b:=by unfold AF;simp
theorem Kn: ∀v∈AF l,v.oneCell' =true:=by
 intro v I;unfold AF at I;obtain⟨x,_,rfl⟩:=List.mem_map.1 I;rfl
theorem Tryz.OW:(Tryz.prog.info? 23).map (·.size)=some 1:=by kernel_rfl
theorem P7(ab:B<=w.heap.size)(I:w.ownsRow B 23 1 v l.length (AF l))(ao:l.length<=100000)(ac:w.heap[vb]? =some (.cells #[.int .u64 x] 23 (0,0))):
 Calls prog 88 #[v, .int .i64 l.length, .slice (some ⟨vb,0,none⟩) 1 1] w (JD B w v.ownBlock (l++ [x])):=by
 obtain⟨i0,hi,ae,af,ag⟩:=info_parts Tryz.CZ;have ah:Hid (∀v' w',w'.ownsRow B 23 1 v' (l.length+1) (AF l++ [.int .u64 x])->w.grownBy w' v.ownBlock->(v'.ownBlock=v.ownBlock\/v'.ownBlock=some w.heap.size)->JD B w v.ownBlock (l++ [x]) (.returned v') w'):=Zh (λv' w' h1 J V=>by
  refine⟨v',rfl,by rw [List.length_append,IA];exact h1,J, ?_⟩;rcases V with V|V
  . exact .inl V
  . exact Yfc)
 have ai:=Zh ac;clear ac;rcases I.2 with ⟨rfl,J⟩|⟨g,cap,cur,rfl,J,V,aq,aj,al⟩
 . obtain rfl:l= []:=List.eq_nil_of_length_eq_zero J
   have O:=Zh I;clear I J;go_enter func88,ntmps88;go_wp2_with (at_builtin;refine wpList_append_own_at _ rfl _ _ 46 rfl B 23 i0 (.int .u64 0) 1 8 Tryz.BH hi ae af ag rfl (by decide) _ _ _ rfl O ⟨vb,0,none⟩ 1 1 [.int .u64 x] rfl rfl (F5 ai) (by simp [Value.oneCell']) (by unfold maxLen;omega) (by omega) ab ?_;intro v' w4 U Z _ aa)
   all_goals
    go_ret;exact ah.out _ _ U Z aa
 . have am:=aj
   unfold maxLen at am;have O:=Zh I;clear I V aj al;have an:Hid (∀c v' w',w'.ownsRow B 23 1 v' (l.length+1) (AF l++ [.int .u64 x])->w.grownBy w' (some g)->(v'.ownBlock=some g\/v'.ownBlock=some w.heap.size)->JD B w (Value.slice (some ⟨g,0,none⟩) l.length c).ownBlock (l++ [x]) (.returned v') w'):=Zh (λ_=>ah);go_enter func88,ntmps88;go_wp2_with (at_builtin;refine wpList_append_own_at _ rfl _ _ 46 rfl B 23 i0 (.int .u64 0) 1 8 Tryz.BH hi ae af ag rfl (by decide) _ _ _ rfl O ⟨vb,0,none⟩ 1 1 [.int .u64 x] rfl rfl (F5 ai) (by simp [Value.oneCell']) (by unfold maxLen;omega) (by omega) ab ?_;intro v' w4 U Z _ aa)
   all_goals
    go_ret;exact an.out _ _ _ U Z aa
theorem La{cs:List Value}(I:W.heap[g]? =some (.cells cur T (0,0)))(aa:o+cs.length<=cur.size)(h1: ∀v∈cs,v.oneCell' =true){a:Addr}{sLen dLen:Nat}(U:cs.length=Nat.min sLen dLen)(V: ∀j v,cs[j]? =some v->W.cell? (a.add j)=some v)(ty:TypeId)(J O:Nat):
 (Builtin.copy_ #[46,46] ty #[.slice (some ⟨g,o,none⟩) dLen J, .slice (some a) sLen O]).run prog W= .ok (goInt cs.length) (W.setCells g o cs):=
 run_copy_cells W _ _ ty 23 g o dLen J a sLen O cs Tryz.BH Tryz.OW U V (λj Z=>by rw [I0 I,Array.getElem?_eq_getElem (by omega)];rfl) (λj Z=>J3 I) h1
theorem PO{fr:Nat × Nat}(h:w.heap[g]? =some (.cells cur e fr)):w.shape? g=some (e,cur.size):=by simp [World.shape?,h]
def Yev{P}(h:P:=by
 rw [<-J,List.getElem?_take] at I
 split at I
 . rw [<-Array.getElem?_toList];exact I
 . cases I):=h
def Ynh{P}(h:P:=by
 have I:AF (x::l.drop k)=(Value.int .u64 x)::(AF l).drop k:=by unfold AF;simp
 have J:AF (l.take k)=(AF l).take k:=by unfold AF;simp
 exact And.intro I J):=h
def Yoa{P}(h:P:=by
 have hlen:(AF l).length=l.length:=Dg l;have I:((AF l).drop k).length=l.length-k:=by rw [List.length_drop,hlen]
 exact And.intro hlen I):=h
def Yrn{P}(h:P:=by
 have O: ∀j v,(AF l)[j]? =some v->cur[j]? =some v:=λj v I=>by
  exact Yev
 exact O):=h
theorem OX(aC:T=23)(hg:w.heap[g]? =some (.cells cur T (0,0)))(aD:B<=g)(af:cur.size=cap)(ag:cap<=maxLen)(J:cur.toList.take l.length=AF l)(k:Nat)(aV:k<l.length)(aE:l.length+1<=cap)(U:w.heap[vb]? =some (.cells #[.int .u64 x] 23 (0,0)))(an:vb≠g):
 Calls prog 88 #[.slice (some ⟨g,0,none⟩) l.length cap, .int .i64 k, .slice (some ⟨vb,0,none⟩) 1 1] w (JD B w (some g) (l.take k++x::l.drop k)):=by
 subst aC;obtain⟨hlen,V⟩:=Yoa;have ao:=Yrn;obtain⟨aa,O⟩:=Zx (w.drew.setCells g (k+1) ((AF l).drop k));have ac:w.drew.heap[g]? =some (.cells cur 23 (0,0)):=hg;have ah:aa.heap[g]? =some (.cells (Hs cur (k+1) ((AF l).drop k)) 23 (0,0)):=by rw [O];exact DM _ _ _ ac
 have aq:aa.heap[vb]? =some (.cells #[.int .u64 x] 23 (0,0)):=by rw [O,Dx _ _ _ _ _ an];exact U
 obtain⟨ar,ab⟩:=Zx (aa.setCells g k [.int .u64 x]);have au:ar.heap[g]? =some (.cells (Hs (Hs cur (k+1) ((AF l).drop k)) k [.int .u64 x]) 23 (0,0)):=by rw [ab];exact DM _ _ _ ah
 have ai:=λty aj aF=>La (W:=w.drew) (g:=g) (o:=k+1) (cs:=(AF l).drop k) (a:=⟨g,k,none⟩) (sLen:=l.length+1-k) (dLen:=l.length-k) ac (by rw [V];omega) (λv aG=>Kn v (List.mem_of_mem_drop aG)) (by rw [V];simp only [Nat.min_def];split<;>omega) (λj v I=>by rw [Addr.add_lit,I0 ac];exact ao _ v (by rwa [List.getElem?_drop] at I)) ty aj aF
 rw [<-O] at ai;have ae:=λty aj=>La (W:=aa) (g:=g) (o:=k) (cs:= [.int .u64 x]) (a:=⟨vb,0,none⟩) (sLen:=1) (dLen:=l.length+1-k) ah (by rw [Dq];simp;omega) (by simp [Value.oneCell']) (by simp only [List.length_singleton,Nat.min_def];split<;>omega) (F5 aq) ty aj 1
 rw [<-ab] at ae;have aH:Hid (JD B w (some g) (l.take k++x::l.drop k) (.returned (.slice (some ⟨g,0,none⟩) (l.length+1) cap)) ar):=Zh (by
  have al:(l.take k++x::l.drop k).length=l.length+1:=by simp;omega
  obtain⟨s1,s2,aw,ax⟩:=DK ((AF l).drop k) (k+1) w.drew g;obtain⟨r1,r2,r3,ay⟩:=DK [.int .u64 x] k aa g;rw [<-O] at s1 s2 aw ax;rw [<-ab] at r1 r2 r3 ay;refine⟨_,rfl,⟨by rw [Dg,Nat.mul_one], .inr ⟨g,cap,_,by rw [al],aD,au,by rw [al];exact aE,ag,by rw [Dq,Dq,Nat.mul_one];exact af, ?_⟩⟩,⟨⟨by rw [r2,s2];rfl,by rw [r3,aw];rfl,by rw [ay,ax];rfl,by rw [r1,s1];exact Nat.le_refl _,λj I aI=> ?_⟩, .inl rfl⟩⟩
  . rw [al,Nat.mul_one,Gv _ _ _ (by rw [Dq];simp;omega),Gv _ _ _ (by rw [V];omega),V,IA]
    have aJ:(cur.toList.take (k+1)).length=k+1:=(by rw [List.length_take,Array.length_toList];omega);have aK: ∀Z:List Value,(cur.toList.take (k+1)++Z).take k=(AF l).take k:=λZ=>by
     rw [List.take_append_of_le_length (by omega),<-J,List.take_take,List.take_take];congr 1;omega
    obtain⟨aL,aM⟩:=Ynh;have aN: ∀Z:List Value,(cur.toList.take (k+1)++Z).drop (k+1)=Z:=(λZ=>List.drop_left' aJ);rw [aK,aL,aM,List.length_singleton,aN];generalize cur.toList.drop (k+1+(l.length-k))=Tl;have aO:((AF l).take k++([Value.int .u64 x]++(AF l).drop k)).length=l.length+1:=(by simp [hlen];omega);have aP:(AF l).take k++([Value.int .u64 x]++((AF l).drop k++Tl))=((AF l).take k++([Value.int .u64 x]++(AF l).drop k))++Tl:=(by simp);rw [aP,List.take_left' aO];rfl
  . have az:j≠g:=λe=>aI (by rw [e])
    rw [ab,Dx _ _ _ _ _ az,O,Dx _ _ _ _ _ az];rfl)
 have aA: ∀lb am,(callFunc 137 #[.slice (some ⟨vb,0,none⟩) 1 1, .slice (some ⟨g,k+1,none⟩) lb am]).run prog w= .ok (.value (.bool false)) w:=λlb am=>by
  rw [run_callFunc_extern func137 (by kernel_rfl) (by kernel_rfl) (by kernel_rfl) (e:=Extern.SlicesOverlaps.overlaps #[46,46] #[4]) (by kernel_rfl),
   Lib.run_overlaps_apart w 46 4 23 Tryz.BH 1 (by intro w;exact Tryz.sizeOf23 w) ⟨vb,0,none⟩ ⟨g,k+1,none⟩ 1 1 lb am an _ _ _ _ (PO U) (PO hg) (by rw [af];omega) (J3 U) (J3 U)]
  rfl
 have aW:IntKind.i64.wrap ((k:Int)+1)=(k:Int)+1:=by unfold maxLen at ag;rw [IntKind.wrap_i64];omega
 have aQ:=ag;unfold maxLen at aQ;have aX:((k:Int)==(l.length:Int))=false:=by simp;omega
 have aY: ¬(cap=k+1):=by omega
 have aZ: ¬(cap=k):=by omega
 have a0:(0:Int)<=(k:Int)+1:=by omega
 have a1:((k:Int)+1).toNat=k+1:=by omega
 have a2:(k:Int)<=(l.length:Int)+1:=by omega
 have a3:(k:Int)+1<=(l.length:Int)+1:=by omega
 have a4:decide ((l.length:Int)+1>(cap:Int))=false:=decide_eq_false (by omega);have aR:=Zh ai;have aS:=Zh ae;have aT:=aA;clear ai ae aA ah au aq ac O ab ao V hlen J af hg U;go_enter func88,ntmps88;go_wp2_with (simp only [aT]);refine As (λ_=>True) [.r 0, .r 1, .r 2, .r 3, .r 4, .r 5, .r 6, .r 7, .a 8] trivial ?_
 iterate 8 (refine CM _ _ rfl rfl (by rintro W _;go_simp;exact rfl) ?_;go_simp)
 refine AI _ rfl (λaU aB=> ?_);refine wpList_copy_runI _ rfl _ _ 46 46 rfl _ _ rfl rfl (aR _ _ _) ?_;go_wp2;refine aB _ _ trivial ?_;clear aB aU;refine AP ?_;have ae:=aS.out;go_wp2;go_ret;exact aH.out
theorem OQ(a3:B<=w.heap.size)(aK:T=23)(hg:w.heap[g]? =some (.cells cur T (0,0)))(aL:cur.size=cap)(J:cur.toList.take l.length=AF l)(a4:l.length<=100000)(k:Nat)(a5:k<l.length)(aM:cap<l.length+1)(a6:l.length<=cap)(am:w.heap[vb]? =some (.cells #[.int .u64 x] 23 (0,0))):
 Calls prog 88 #[.slice (some ⟨g,0,none⟩) l.length cap, .int .i64 k, .slice (some ⟨vb,0,none⟩) 1 1] w (JD B w (some g) (l.take k++x::l.drop k)):=by
 obtain⟨i0,hi,az,aA,an⟩:=info_parts Tryz.CZ;subst aK;obtain⟨hlen,ah⟩:=Yoa;have ai:((AF l).take k).length=k:=by rw [List.length_take,hlen];omega
 have ao:=Yrn;have aN:g<w.heap.size:=(Array.getElem?_eq_some_iff.1 hg).1;have aO:vb<w.heap.size:=(Array.getElem?_eq_some_iff.1 am).1;obtain⟨O,J7⟩:=Zx w.heap.size;obtain⟨G,ae⟩:=Zx (grownCap w (l.length+1) cap 23);have aP:l.length+1<=G:=by rw [ae];exact grownCap_ge w _ _ _
 have aB:G<=maxLen:=by rw [ae];exact grownCap_le_maxLen w _ _ _ (by unfold maxLen;omega)
 have hold:(Builtin.firstCells i0.size k (.slice (some ⟨g,0,none⟩) k cap)).run prog w.drew= .ok ((AF l).take k).toArray w.drew:=by
  rw [aA];exact run_firstCells_some w.drew 1 k ⟨g,0,none⟩ k cap ((AF l).take k) (by rw [ai];omega) (λj v I=>by
   rw [Addr.add_lit,Nat.zero_add,I0 (w:=w.drew) hg];rw [List.getElem?_take] at I
   split at I
   . exact ao j v I
   . cases I)
 obtain⟨U,aj⟩: ∃U:Array Value,U=((AF l).take k).toArray++Builtin.zeroCells (Value.int .u64 0).cells (l.length+1-k)++Builtin.zeroCells (Value.int .u64 0).cells (G-(l.length+1)):=⟨_,rfl⟩;have ab:U.size=G:=by rw [aj];simp [Builtin.zeroCells,Value.cells,hlen];omega
 have aC:U.toList.take k=(AF l).take k:=by rw [aj];simp only [Array.toList_append,List.append_assoc];exact List.take_left' ai
 obtain⟨ac,aa⟩:=Zx (w.drew.alloc (.cells U 23));have aQ: ∀ty,(Builtin.append_ #[46,3] ty #[.slice (some ⟨g,0,none⟩) k cap, .int .i64 ((l.length:Int)+1-(k:Int))]).run prog w= .ok (.slice (some ⟨O,0,none⟩) (l.length+1) G) ac:=λty=>by
  have aD:k+(l.length+1-k)=l.length+1:=by omega
  have aR:(l.length:Int)+1-(k:Int)=((l.length+1-k:Nat):Int):=by omega
  have h:=Lib.run_append_grow_zeros w 46 3 ty 23 i0 (.int .u64 0) .i64 .i64 Tryz.BH Tryz.underlying3 hi az (some ⟨g,0,none⟩) k cap ((AF l).take k) hold (l.length+1-k) (by omega) (by omega) (by omega) (by omega) (by rw [an];omega) (by rw [an,aD];exact growslice_fits aM (by omega));rw [aD] at h;rw [aR,h,J7,ae,aa,aj,ae]
 have aq:ac.heap[O]? =some (.cells U 23 (0,0)):=by rw [aa,J7];exact Array.getElem?_push_size
 have ar: ∀j,j<w.heap.size->ac.heap[j]? =w.heap[j]? :=λj I=>by rw [aa];exact Below.heap_alloc w.drew _ j I
 obtain⟨V,af⟩:=Zx (ac.setCells O k [.int .u64 x]);have au:V.drew.heap[O]? =some (.cells (Hs U k [.int .u64 x]) 23 (0,0)):=by rw [af];exact DM _ _ _ aq
 have aw: ∀j,j<w.heap.size->V.drew.heap[j]? =w.heap[j]? :=λj I=>by
  rw [<-ar j I,af];exact Dx _ _ _ _ _ (by omega)
 obtain⟨aE,ag⟩:=Zx (V.drew.setCells O (k+1) ((AF l).drop k));have aF:aE.heap[O]? =some (.cells (Hs (Hs U k [.int .u64 x]) (k+1) ((AF l).drop k)) 23 (0,0)):=by rw [ag];exact DM _ _ _ au
 have aS:=λty ax=>La (W:=ac) (g:=O) (o:=k) (cs:= [.int .u64 x]) (a:=⟨vb,0,none⟩) (sLen:=1) (dLen:=l.length+1-k) aq (by rw [ab];simp;omega) (by simp [Value.oneCell']) (by simp only [List.length_singleton,Nat.min_def];split<;>omega) (F5 ((ar vb aO).trans am)) ty ax 1
 rw [<-af] at aS;have al:=λty ax aT=>La (W:=V.drew) (g:=O) (o:=k+1) (cs:=(AF l).drop k) (a:=⟨g,k,none⟩) (sLen:=l.length-k) (dLen:=l.length-k) au (by rw [Dq,ah,ab];omega) (λv aU=>Kn v (List.mem_of_mem_drop aU)) (by rw [ah];simp) (λj v I=>by rw [Addr.add_lit,I0 ((aw g aN).trans hg)];exact ao _ v (by rwa [List.getElem?_drop] at I)) ty ax aT
 rw [<-ag] at al;have aV:Hid (JD B w (some g) (l.take k++x::l.drop k) (.returned (.slice (some ⟨O,0,none⟩) (l.length+1) G)) aE):=Zh (by
  have ay:(l.take k++x::l.drop k).length=l.length+1:=by simp;omega
  obtain⟨s1,s2,aG,aH⟩:=DK ((AF l).drop k) (k+1) V.drew O;obtain⟨r1,r2,r3,aI⟩:=DK [.int .u64 x] k ac O;rw [<-ag] at s1 s2 aG aH;rw [<-af] at r1 r2 r3 aI;refine⟨_,rfl,⟨by rw [Dg,Nat.mul_one], .inr ⟨O,G,_,by rw [ay],by omega,aF,by rw [ay];exact aP,aB,by rw [Dq,Dq,Nat.mul_one];exact ab, ?_⟩⟩,⟨⟨?_, ?_, ?_, ?_,λj I a7=> ?_⟩, .inr λj I=> ?_⟩⟩
  . rw [ay,Nat.mul_one,Gv _ _ _ (by rw [Dq,ah,ab];omega),Gv _ _ _ (by rw [ab];simp;omega),IA,aC]
    obtain⟨aW,aX⟩:=Ynh;generalize U.toList.drop (k+ [Value.int .u64 x].length)=Z;have aY:((AF l).take k++([Value.int .u64 x]++Z)).take (k+1)=(AF l).take k++ [Value.int .u64 x]:=by
     rw [<-List.append_assoc];exact List.take_left' (by simp [ai])
    rw [aY,aW,aX];generalize ((AF l).take k++([Value.int .u64 x]++Z)).drop (k+1+((AF l).drop k).length)=Y;have aZ:(AF l).take k++ [Value.int .u64 x]++((AF l).drop k++Y)=((AF l).take k++([Value.int .u64 x]++(AF l).drop k))++Y:=(by simp);rw [aZ,List.take_left' (by simp [hlen];omega)];rfl
  . rw [s2];show V.os=_;rw [r2,aa];rfl
  . rw [aG];show V.tape=_;rw [r3,aa];rfl
  . rw [aH];show V.output=_;rw [aI,aa];rfl
  . rw [s1];show _<=V.heap.size;rw [r1,aa];simp [World.alloc]
  . rw [ag,Dx _ _ _ _ _ (by omega)];exact aw j I
  . have:O=j:=by simpa [Value.ownBlock] using I
    omega)
 have a8:((k:Int)==(l.length:Int))=false:=by simp;omega
 have a0:=aB;unfold maxLen at a0;have a9:IntKind.i64.wrap ((k:Int)+1)=(k:Int)+1:=by rw [IntKind.wrap_i64];omega
 have ba:(0:Int)<=(k:Int)+1:=by omega
 have bb:((k:Int)+1).toNat=k+1:=by omega
 have bc:(k:Int)<=(l.length:Int):=by omega
 have bd: ¬(G=k):=by omega
 have be: ¬(G=k+1):=by omega
 have bf: ¬(cap=k):=by omega
 have bg:decide ((l.length:Int)+1>(cap:Int))=true:=decide_eq_true (by omega);have a1:=Zh al;clear al hold aq au aF ar aw aa af ag ao ah ai hlen J aL hg am J7 ae aj ab aC hi az aA an;go_enter func88,ntmps88;go_wp2_with (at_builtin;refine Lib.wpList_append_run _ rfl _ _ _ _ rfl _ _ rfl rfl _ _ (aQ _) ?_);refine As (λ_=>True) [.r 0, .r 1, .r 2, .r 3, .r 4, .r 5, .r 6, .r 7, .a 8] trivial ?_
 iterate 8 (refine CM _ _ rfl rfl (by rintro W _;go_simp;exact rfl) ?_;go_simp)
 refine AI _ rfl (λa2 aJ=> ?_);have al:=a1.out;go_wp2;refine aJ _ _ trivial ?_;clear aJ a2;refine AP ?_;go_wp2;go_ret;exact aV.out
theorem Pb(U:B<=w.heap.size)(V:w.ownsRow B 23 1 v l.length (AF l))(k:Nat)(aj:k<=l.length)(Z:l.length<=100000)(I:w.heap[vb]? =some (.cells #[.int .u64 x] 23 (0,0)))(ae:v.ownBlock≠some vb):
 Calls prog 88 #[v, .int .i64 k, .slice (some ⟨vb,0,none⟩) 1 1] w (JD B w v.ownBlock (l.take k++x::l.drop k)):=by
 by_cases he:k=l.length
 . subst he
   rw [List.take_length,List.drop_length];exact P7 U V Z I
 . have aa:k<l.length:=by omega
   rcases V.2 with ⟨h1,ab⟩|⟨g,cap,cur,rfl,ab,ac,af,ag,J,O⟩
   . omega
   . rw [Nat.mul_one] at J O
     have ah:vb≠g:=(λe=>ae (by rw [e];rfl));by_cases ai:l.length+1<=cap
     . exact OX rfl ac ab J ag O k aa ai I ah
     . exact OQ U rfl ac J O Z k aa (by omega) af I
section
variable {s:Nat}  {R R':Zr} {H H':List Nat} {P q most last G:Nat}
theorem Ah.grown{A B:World}{row:Option Nat}(h:Ah A s F R H P q most last G)(hg:A.grownBy B row)(J: ∀k,row=some k->s<k/\1<k/\ ¬F k/\ ∀p,A.cell? ⟨k,0,none⟩≠some (.pointer p)):Ah B s F R H P q most last G:=
 h.kb (Cs:=λk=>row=some k) ⟨hg.size,λk o I _ O=>(hg.block k (Array.getElem?_eq_some_iff.1 I).1 (λe=>O e.symm)).trans I⟩ (λk I=>(J k I).2.2.1) (λI=>Nat.lt_irrefl _ (J s I).1) (λk I=>(J k I).2.2.2) (λI=>Nat.lt_irrefl _ (J _ I).2.1)
theorem A3(W:World)(b j:Nat)(v:Value):W.grownBy (W.setCell ⟨b,j,none⟩ v) (some b):=
 ⟨rfl,rfl,rfl,by simp [World.setCell],λk _ I=>Below.heap_setCell W ⟨b,j,none⟩ v k (λe=>I (by rw [e]))⟩
theorem Gq{A B:World}(I:Below A.heap.size A B)(row:Option Nat):A.grownBy B row:=⟨I.os,I.tape,I.output,I.size,λk J _=>I.block k J⟩
theorem Bi{A B C:World}{row:Option Nat}(h:A.grownBy B row)(g:B.grownBy C row):A.grownBy C row:=⟨g.os.trans h.os,g.tape.trans h.tape,g.output.trans h.output,Nat.le_trans h.size g.size,λk I J=>(g.block k (Nat.lt_of_lt_of_le I h.size) J).trans (h.block k I J)⟩
theorem US(h:W.ownsRow B 23 1 v l.length (AF l))(J:l≠ []): ∀k,v.ownBlock=some k-> ∀p,W.cell? ⟨k,0,none⟩≠some (.pointer p):=by
 intro k O p I
 cases l with
 |nil=>exact J rfl
 |cons x l=>
  have h1:=h.cells O 0 (.int .u64 x) rfl;rw [Addr.add_lit] at h1;have U:W.cell? ⟨k,0,none⟩=some (.int .u64 x):=h1;rw [U] at I
  cases I
structure Mk(N:Nat)(W:World)(s t:Nat)(F:Nat->Prop)(bl b2:Nat)(v:Value)(st:List Nat):Prop where
 bx:An W bl 46 [v]
 Ju:An W b2 96 [.pointer (some ⟨s,0,none⟩), .int .i64 t]
 row:W.ownsRow N 23 1 v st.length (AF st)
 nil:st= []->v= .slice none 0 0
 fl: ¬F bl
 f2: ¬F b2
 fr: ∀k,v.ownBlock=some k->k≠bl/\k≠b2/\ ¬F k
theorem Mk.Aq(h:Mk N W s t F bl b2 v st)(J:Ad W F W' F'):Mk N W' s t F' bl b2 v st:=
 ⟨h.bx.Aq J h.fl,h.Ju.Aq J h.f2,Eo h.row λk I=>J.keep k (Br h.row k I) (h.fr k I).2.2,h.nil,J.not h.bx.lt h.fl,J.not h.Ju.lt h.f2,λk I=>⟨(h.fr k I).1,(h.fr k I).2.1,J.not (Br h.row k I) (h.fr k I).2.2⟩⟩
def Ymx{P}(h:P:=by
 have k1:An w3 bl 46 [v]:=h.bx.block ((hg.block bl (by have:=h.bx.lt;simp;omega) I).trans (Below.heap_alloc W tmp bl h.bx.lt));exact k1):=h
theorem Mk.more{tmp:Obj}(h:Mk N W s t F bl b2 v st)(V:bl≠b2)(Z: ∀b,F b->b<W.heap.size)(aa:w3.ownsRow N 23 1 v' (st++ [x]).length (AF (st++ [x])))(hg:(W.alloc tmp).grownBy w3 v.ownBlock)(J:v'.ownBlock=v.ownBlock\/v'.ownBlock=some (W.alloc tmp).heap.size):
 Mk N (w3.setCell ⟨bl,0,none⟩ v') s t F bl b2 v' (st++ [x]):=by
 have I:some bl≠v.ownBlock:=λe=>(h.fr bl e.symm).1 rfl
 have ab:some b2≠v.ownBlock:=λe=>(h.fr b2 e.symm).2.1 rfl
 have k1:=Ymx;have k2:An w3 b2 96 _:=h.Ju.block ((hg.block b2 (by have:=h.Ju.lt;simp;omega) ab).trans (Below.heap_alloc W tmp b2 h.Ju.lt));have U: ∀k,v'.ownBlock=some k->k≠bl/\k≠b2/\ ¬F k:=λk O=>by
  rcases J with J|J
  . exact h.fr k (by rw [<-J];exact O)
  . rw [J] at O
    have:W.heap.size+1=k:=(by simpa using O);refine⟨λe=> ?_,λe=> ?_,λac=> ?_⟩
    . have:=h.bx.lt;omega
    . have:=h.Ju.lt;omega
    . have:=Z k ac;omega
 refine⟨k1.set 0 v',k2.other (p:=⟨bl,0,none⟩) (Ne.symm V) v',Eo aa λk O=>Below.heap_setCell w3 ⟨bl,0,none⟩ v' k (U k O).1,λe=>by simp at e,h.fl,h.f2,U⟩
theorem Mk.store{tmp:Obj}{x:Nat}(h:Mk N W s t F bl b2 v st)(hs:Ah W s F R H P q most last G)(hN:s<N/\1<N)(J7:N<=bl)(hg:(W.alloc tmp).grownBy w3 v.ownBlock):Ah (w3.setCell ⟨bl,0,none⟩ v') s F R H P q most last G:=by
 have U:Below W.heap.size W (W.alloc tmp):=(Below.refl _ W).alloc (Nat.le_refl _) _;have h1:Ah w3 s F R H P q most last G:=(hs.below U).grown hg (λk J=>by
  have aa:=(BM h.row J).1;refine⟨by omega,by omega,(h.fr k J).2.2,λp O=> ?_⟩;have V:st≠ []:=λe=>by rw [h.nil e] at J;simp [Value.ownBlock] at J
  rw [World.cell?_of_block (Below.heap_alloc W tmp k (Br h.row k J))] at O;exact US h.row V k J p O)
 have I:some bl≠v.ownBlock:=λe=>(h.fr bl e.symm).1 rfl
 have k1:=Ymx;refine h1.grown (A3 w3 bl 0 v') (λk J=> ?_);obtain rfl:bl=k:=Option.some.inj J;refine⟨by omega,by omega,h.fl,λp O=> ?_⟩;rw [k1.at' (i:=0) rfl] at O;obtain⟨A,c,Z⟩:=Bs h.row;rw [Z] at O
 cases O
theorem Bt.DB.snoc(h:Bt.DB R R' t st)(hx:R' x=none)(h0:x≠0):Bt.DB R (AQ R' x (some (n.wd t))) t (st++ [x]):=by
 have O:x∉st:=λhm=>by obtain⟨_,_,ws,h1,_⟩:=h.new x hm;rw [hx] at h1;cases h1
 refine⟨λy I=> ?_, ?_,λz J=> ?_⟩
 . rcases List.mem_append.1 I with I|I
   . exact⟨(h.new y I).1,(h.new y I).2.1,Bt.EG (h.new y I).2.2⟩
   . rw [List.mem_singleton] at I
     subst I;exact⟨by rw [<-h.old y O];exact hx,h0,⟨_,AT _ _ _,BN.B0 _ _⟩⟩
 . rw [List.nodup_append]
   exact⟨h.nodup,by simp,λa ha b U e=>by rw [List.mem_singleton] at U;exact O (by rw [<-U,<-e];exact ha)⟩
 . rw [List.mem_append,List.mem_singleton,not_or] at J
   rw [Aw J.2];exact h.old z J.1
theorem Bt.DB.start:Bt.DB R R t []:=⟨λx hx=>absurd hx (by simp),List.nodup_nil,λ_ _=>rfl⟩
def MkR(w:World)(s:Nat)(F:Nat->Prop)(R:Zr)(H:List Nat)(P q most last G t n:Nat)(e:Ending)(w' :World):Prop:=
 (∃st F' R' bl b2 v,e= .returned (.tuple #[.func (.func 87) #[] #[.pointer (some ⟨bl,0,none⟩), .pointer (some ⟨b2,0,none⟩)], .int .i64 0])/\st.length=n/\Bt.DB R R' t st/\(∀x∈st,R' x=some (BN.zero.wd t)/\x<18446744073709551616)/\
  Ah w' s F' R' (st.reverse++H) (P+n*CD (6*t+2)) q most last (G+n)/\Ad w F w' F' /\Mk w.heap.size w' s t F' bl b2 v st/\w.heap.size<=bl/\w.heap.size<=b2/\bl≠b2)\/
 (∃er F',e= .returned (.tuple #[.nilFunc, .int .i64 (er:Nat)])/\((er=3/\q<(P+n*CD (6*t+2))*64)\/(er=10/\(most<H.length+n\/last<G+n)))/\Ah w' s F' R H (P+n*CD (6*t+2)) q most last (G+n)/\Ad w F w' F')
def Gp(R:Zr)(st:List Nat):Zr:=λy=>if y∈st then none else R y
theorem Tq:Gp R []=R:=by funext y;simp [Gp]
theorem R7(l:List Nat)(x:Nat):AQ (Gp R l) x none=Gp R (l++ [x]):=by
 funext y
 unfold AQ Gp;by_cases h:y=x
 . subst h;simp
 . simp [h]
theorem Qb(h:Bt.DB R R' t st):Gp R' st=R:=by
 funext y
 unfold Gp;by_cases I:y∈st
 . rw [if_pos I];exact(h.new y I).1.symm
 . rw [if_neg I];exact h.old y I
theorem Tp{H:List Nat}(hx:x∉st):((x::st).reverse++H).erase x=st.reverse++H:=by
 rw [List.reverse_cons,List.append_assoc,List.erase_append_right _ (by simpa using hx)];simp
end
theorem VX(w:World)(F:Nat->Prop):C3 w F (.agg #[.slice none 0 0, .slice none 0 0, .slice none 0 0, .int .u64 0]) BN.zero:=
 ⟨⟨none,0,none,0,none,0,rfl, .inl rfl, .inl rfl, .inl rfl⟩,by simp [BN.zero]⟩
theorem SV:BN.zero.Ok:=⟨λx h=>by simp [BN.zero] at h,λx h=>by simp [BN.zero] at h,λx h=>by simp [BN.zero] at h,by simp [BN.zero]⟩
theorem OS(t:Nat):BN.zero.Fits t:=⟨by simp [BN.zero],rfl, .inl rfl⟩
section
variable {s:Nat}  {R:Zr} {H:List Nat} {P q most last G:Nat}
theorem RW(h:Ah w s F R H P q most last G)(t:Nat)(bc:BN.A0 t)(n:Nat)(bL:n<=1000):
 Calls prog 46 #[.agg #[.pointer (some ⟨s,0,none⟩), .int .i64 t], .int .i64 n] w (MkR w s F R H P q most last G t n):=by
 have bd:=h.FP;have be:1<w.heap.size:=by
  obtain⟨nn,bf,_⟩:=h.rd;obtain⟨_,_,_,_,_,_,_,_,_,_,_,_,_,_,_,_,_,_,_,bg⟩:=bf;exact bg.2
 obtain⟨i0,hi,bh,bi,bj⟩:=info_parts Tryz.CZ;obtain⟨O,J⟩:=Zx ((w.alloc (Obj.cells #[.pointer (some ⟨s,0,none⟩), .int .i64 t] 96)).alloc (Obj.cells #[.slice none 0 0] 46));have az:=Yc;obtain⟨b2,aA⟩:=Zx w.heap.size;obtain⟨bl,aB⟩:=Zx (w.heap.size+1);have aU:An O b2 96 [.pointer (some ⟨s,0,none⟩), .int .i64 t]:=by rw [J,aA];exact(An.new w 96 [.pointer (some ⟨s,0,none⟩), .int .i64 t]).alloc _
 have aV:An O bl 46 [.slice none 0 0]:=by
  rw [J,aB];have:=An.new (w.alloc (Obj.cells #[.pointer (some ⟨s,0,none⟩), .int .i64 t] 96)) 46 [.slice none 0 0];exact Ycd
 have g2:w.heap.size<=b2:=by omega
 have aC:w.heap.size<=bl:=by omega
 have aW:bl≠b2:=by omega
 have aD: ∀b,F b->b<w.heap.size:=λb aE=>h.lt aE
 have aX:Mk w.heap.size O s t F bl b2 (.slice none 0 0) []:=⟨aV,aU,World.ownsRow_nil _ _ _ _,λ_=>rfl,λaa=>by have:=aD _ aa;omega,λaa=>by have:=aD _ aa;omega,λk aY=>by simp [Value.ownBlock] at aY⟩;obtain⟨I,aF⟩:=Zx (CD (6*t+2));have bk:Hid (Bt.DB R R t []/\(∀x∈([]:List Nat),R x=some (BN.zero.wd t)/\x<18446744073709551616)/\Ah O s F R H (P+0*I) q most last (G+0)/\Ad w F O F/\Mk w.heap.size O s t F bl b2 (.slice none 0 0) []):=Zh ⟨Bt.DB.start,λx hx=>absurd hx (by simp),by rw [Nat.zero_mul];exact h.below az,Ad.below az,aX⟩
 have aZ:Hid (∀e W,((∃st F' R' bl b2 v,e= .returned (.tuple #[.func (.func 87) #[] #[.pointer (some ⟨bl,0,none⟩), .pointer (some ⟨b2,0,none⟩)], .int .i64 0])/\st.length=n/\Bt.DB R R' t st/\(∀x∈st,R' x=some (BN.zero.wd t)/\x<18446744073709551616)/\Ah W s F' R' (st.reverse++H) (P+n*I) q most last (G+n)/\Ad w F W F' /\Mk w.heap.size W s t F' bl b2 v st/\w.heap.size<=bl/\w.heap.size<=b2/\bl≠b2)\/
  (∃er F',e= .returned (.tuple #[.nilFunc, .int .i64 (er:Nat)])/\((er=3/\q<(P+n*I)*64)\/(er=10/\(most<H.length+n\/last<G+n)))/\Ah W s F' R H (P+n*I) q most last (G+n)/\Ad w F W F'))->MkR w s F R H P q most last G t n e W):=Zh (λe W h=>by unfold MkR;rw [<-aF];exact h)
 have aG:=Zh (And.intro J (And.intro aA aB));have bm:=Zh aF;clear h J az aA aB aU aV aX aF aD;go_enter func46,ntmps46;go_wp2;rw [<-aG.1,<-aG.2.2,<-aG.2.1]
 go_loopw [12] (λaH wr=> ∃(i:Nat) (st:List Nat) (v:Value) (ac:Nat->Prop) (R1:Zr),i<=n/\aH= .int .i64 i/\st.length=i/\Hid (Bt.DB R R1 t st/\(∀x∈st,R1 x=some (BN.zero.wd t)/\x<18446744073709551616)/\Ah wr s ac R1 (st.reverse++H) (P+i*I) q most last (G+i)/\Ad w F wr ac/\Mk w.heap.size wr s t ac bl b2 v st)) (λaH _=>n-(intOf aH).toNat)
 case atStart=>exact⟨0,[], .slice none 0 0,F,R,Nat.zero_le _,rfl,rfl,bk⟩
 case round=>
  obtain⟨i,st,v,ac,R1,bM,rfl,a0,am⟩:=hrel;have an:=Zh a0;clear a0;by_cases bo:i<n
  . obtain⟨k1,k2,ag,ah,ae⟩:=am.out
    obtain⟨ao,a1⟩:=AX ae.Ju;have aq:=TB ag t bc (VX wr ac) SV (OS t);unfold MW at aq;rw [BN.B0,<-bm.out] at aq;have bp:=Zh aq;have ai:=Zh (And.intro k1 k2);have aI:=Zh ah;have a2:=Zh ae;clear aq k1 k2 ag ah ae am;go_wp2_with fail;refine bp.mono ?_;rintro e w1 (⟨x,F2,ar,bq,br,rfl,af,V⟩|⟨er,F2,rfl,aJ,af,V⟩)
    . have m1:=a2.Aq V
      obtain⟨A,c,aK⟩:=Bs m1.row;have a3:=ai.1.snoc (n:=BN.zero) ar bq
      have bs:Hid (∀v' w4,w4.ownsRow w.heap.size 23 1 v' (st++ [x]).length (AF (st++ [x]))-> ∀tmp,(w1.alloc tmp).grownBy w4 v.ownBlock->(v'.ownBlock=v.ownBlock\/v'.ownBlock=some (w1.alloc tmp).heap.size)->
       (Bt.DB R (AQ R1 x (some (BN.zero.wd t))) t (st++ [x])/\(∀y∈st++ [x],(AQ R1 x (some (BN.zero.wd t))) y=some (BN.zero.wd t)/\y<18446744073709551616)/\Ah (w4.setCell ⟨bl,0,none⟩ v') s F2 (AQ R1 x (some (BN.zero.wd t))) ((st++ [x]).reverse++H) (P+(i+1)*I) q most last (G+(i+1))/\Ad w F (w4.setCell ⟨bl,0,none⟩ v') F2/\Mk w.heap.size (w4.setCell ⟨bl,0,none⟩ v') s t F2 bl b2 v' (st++ [x]))):=Zh (λv' w4 h1 tmp U bu=>by
       have bv:Below w1.heap.size w1 (w1.alloc tmp):=(Below.refl _ w1).alloc (Nat.le_refl _) _;refine⟨a3,λy aj=> ?_, ?_, ?_,m1.more aW (λb aE=>af.lt aE) h1 U bu⟩
       . by_cases e:y=x
         . subst e;exact⟨AT _ _ _,br⟩
         . rw [Aw e]
           rcases List.mem_append.1 aj with aj|aj
           . exact ai.2 y aj
           . exact absurd (List.mem_singleton.1 aj) e
       . have:=m1.store (v' :=v') (x:=x) af ⟨bd,be⟩ aC U
         rw [List.reverse_append,Nat.succ_mul,<-Nat.add_assoc];exact this
       . have bw:=(aI.trans V).trans (Ad.below (F:=F2) bv)
         have au:=bw.own (Nat.le_refl _) U (λr Z=>(BM m1.row Z).1);exact au.own (Nat.le_refl _) (A3 w4 bl 0 v') (λr Z=>by obtain rfl:bl=r:=Option.some.inj Z;exact aC))
      have bz:Hid (∀tmp w4,(w1.alloc tmp).grownBy w4 v.ownBlock->w4.cell? ⟨bl,0,none⟩=some v/\w4.frozen? ⟨bl,0,none⟩=false):=Zh (λtmp w4 hg=>by
       have bA:some bl≠v.ownBlock:=(λe=>(m1.fr bl e.symm).1 rfl);have k1:An w4 bl 46 [v]:=m1.bx.block ((hg.block bl (by have:=m1.bx.lt;simp;omega) bA).trans (Below.heap_alloc w1 tmp bl m1.bx.lt));exact⟨k1.at' (i:=0) rfl,k1.free 0⟩)
      have aL:=m1.row;have bB:=m1.bx.at' (i:=0) rfl;have bN:w.heap.size<=w1.heap.size:=Nat.le_trans aI.size V.size;have hlen:=an.out;subst aK;have bC:=Zh aL;rw [hlen] at aL;have aM:=Zh hlen;clear a3 m1 af V aL hlen ao a1;go_wp2_with (at_builtin;refine wpList_append_own_at _ rfl _ _ 46 rfl w.heap.size 23 i0 (.int .u64 0) 1 8 Tryz.BH hi bh bi bj rfl (by decide) _ _ _ rfl (bC.alloc _) ⟨w1.heap.size,0,none⟩ 1 1 [.int .u64 (x:Int)] rfl rfl (cell_one_new _ _ _) (by simp [Value.oneCell']) (by rw [aM.out];unfold maxLen;omega) (by rw [aM.out];omega) (by simp;omega) ?_;intro v' w4 aN aO _ a4;obtain⟨bO,bP,rfl⟩:=Bs aN;obtain⟨bQ,bR⟩:=bz.out _ _ aO;have aP:=Zh (bs _ _ (by rw [Hw,List.length_append];exact aN) _ aO a4);clear aN aO a4);go_roundw
      case rel=>exact⟨i+1,st++ [x],_,F2,_,by omega,by go_num,by rw [List.length_append,aM.out];rfl,aP⟩
      case measure=>simp [intOf];omega
    . have m1:=a2.Aq V
      have bS:((er:Int) !=0)=true:=by rcases aJ with ⟨rfl,_⟩|⟨rfl,_⟩<;>rfl
      have hmul:i*I+I<=n*I:=(by rw [<-Nat.succ_mul];exact Nat.mul_le_mul_right I bo);have a5:=af.more (P' :=P+n*I) (G' :=G+n) (by omega) (by omega);have bD:Hid ((er=3/\q<(P+n*I)*64)\/(er=10/\(most<H.length+n\/last<G+n))):=Zh (by
       rcases aJ with ⟨h1,U⟩|⟨h1,U⟩
       . exact .inl ⟨h1,Nat.lt_of_lt_of_le U (Nat.mul_le_mul_right 64 (by omega))⟩
       . refine .inr ⟨h1, ?_⟩
         have au:=an.out;rw [List.length_append,List.length_reverse] at U;rcases U with U|U
         . exact .inl (by omega)
         . exact .inr (by omega))
      obtain⟨A,c,aK⟩:=Bs m1.row;have bB:=m1.bx.at' (i:=0) rfl;have bT:st.length<=1000:=(by have:=an.out;omega);have bE:Hid (Ah w1 s F2 (Gp R1 (st.take 0)) ((st.drop 0).reverse++H) (P+n*I) q most last (G+n)/\Ad w F w1 F2/\Mk w.heap.size w1 s t F2 bl b2 v st):=Zh ⟨by rw [List.take_zero,Tq];exact a5,aI.trans V,m1⟩;subst aK;clear m1 aJ hmul af a5 V ao a1;go_wp2
      go_loopw [27] (λaQ aR=> ∃(k:Nat) (al:Nat->Prop),k<=st.length/\aQ= .int .i64 (k:Nat)/\Hid (Ah aR s al (Gp R1 (st.take k)) ((st.drop k).reverse++H) (P+n*I) q most last (G+n)/\Ad w F aR al/\Mk w.heap.size aR s t al bl b2 (.slice A st.length c) st)) (λaQ _=>st.length-(intOf aQ).toNat)
      case atStart=>exact⟨0,F2,Nat.zero_le _,rfl,bE⟩
      case round=>
       obtain⟨k,al,aY,rfl,Z⟩:=hrel;by_cases aw:k<st.length
       . obtain⟨r1,r2,r3⟩:=Z.out
         obtain⟨bU,bV,bF,a6⟩:=A5 (F:=λ_=>False) r3.row (λ_ h=>h.elim)
         cases bF
         obtain⟨b,o,hA,bW,a7⟩:=a6.num aw;have bG:=a7 _ (Below.refl _ _);have a8:st[k]∈st:=List.getElem_mem aw;have ax:st.drop k=st[k]::st.drop (k+1):=List.drop_eq_getElem_cons aw;have aS:=ai.1.nodup;have a9:st[k]∉st.drop (k+1):=by
          have:=List.Nodup.sublist (List.drop_sublist k st) aS;rw [ax] at this;exact(List.nodup_cons.1 this).1
         have ba:st[k]∉st.take k:=by
          have au:(st.take k++st.drop k).Nodup:=(by rw [List.take_append_drop];exact aS);intro hm;exact(List.nodup_append.1 au).2.2 _ hm _ (by rw [ax];exact List.mem_cons_self) rfl
         have ar:Gp R1 (st.take k) st[k]=some (BN.zero.wd t):=by
          unfold Gp;rw [if_neg ba];exact(ai.2 _ a8).1
         have ay:=Jr r1 ar;rw [ax,Tp a9,R7,show st.take k++ [st[k]]=st.take (k+1) from(List.take_succ_eq_append_getElem aw).symm] at ay;obtain⟨x,hx⟩: ∃x,st[k]=x:=⟨_,rfl⟩;rw [hx] at ay bG;have bH:=Zh ay;have bI:=Zh r2;have bJ:=Zh r3;have ao:=r3.Ju.at' (i:=0) rfl;subst hA;clear ay r1 r2 r3 Z a6 a7 a8 ax aS a9 ba ar hx;go_wp2_with fail;refine bH.mono ?_;rintro e bX ⟨bK,rfl,bb,aT⟩;have aP:=Zh (And.intro bb (And.intro (bI.trans aT) (bJ.Aq aT)));clear bb aT ao;go_wp2;go_roundw
         case rel=>exact⟨k+1,bK,by omega,by go_num,aP⟩
         case measure=>simp [intOf];omega
       . obtain rfl:k=st.length:=by omega
         have hd:=aZ.out;obtain⟨r1,r2,r3⟩:=Z.out;rw [List.take_length,Qb ai.1,List.drop_length,List.reverse_nil,List.nil_append] at r1;have aa:=Zh (λe he=>hd e wr (.inr ⟨er,al,he,bD,r1,r2⟩));clear hd Z r1 r2 r3;go_wp2
         go_ret2
         exact aa.out _ rfl
  . obtain rfl:i=n:=by omega
    have hd:=aZ.out;obtain⟨k1,k2,ag,ah,ae⟩:=am.out;have aa:=Zh (λe he=>hd e wr (.inl ⟨st,ac,R1,bl,b2,v,he,an,k1,k2,ag,ah,ae,aC,g2,aW⟩));clear hd am k1 k2 ag ah ae;go_wp2
    go_ret2
    exact aa.out _ rfl
end
def FB(F:Nat->Prop)(bl:Nat):Nat->Prop:=λb=>F b\/b=bl
theorem Ad.minus{I:Nat->Prop}(h:Ad w F W I)(g:Ad W (FB I bl) W' (FB I bl))(V:w.heap.size<=bl):Ad w F W' I:=
 ⟨g.os.trans h.os,g.tape.trans h.tape,g.output.trans h.output,Nat.le_trans h.size g.size,λk O U=>(g.keep k (Nat.lt_of_lt_of_le O h.size) (λJ=>by
  rcases J with J|J
  . rcases h.grow k J with h1|h1
    . exact U h1
    . omega
  . omega)).trans (h.keep k O U),h.grow⟩
theorem Ad.fb{w':World}(h:Ad w F w' F):Ad w (FB F bl) w' (FB F bl):=⟨h.os,h.tape,h.output,h.size,λk J O=>h.keep k J λI=>O (.inl I),λ_ I=> .inl I⟩
theorem Ad.GI(W:World)(F:Nat->Prop)(bl j:Nat)(v:Value):Ad W (FB F bl) (W.setCell ⟨bl,j,none⟩ v) (FB F bl):=
 ⟨rfl,rfl,rfl,by simp [World.setCell],λk J I=>Below.heap_setCell W ⟨bl,j,none⟩ v k (λe=>I (.inr e)),λ_ h=> .inl h⟩
theorem AK.less{vs:List Value}(h:AK w F A vs)(I: ∀b,F' b->F b):AK w F' A vs:=by
 rcases h with h|⟨b,o,h1,J,O,U⟩
 . exact .inl h
 . exact .inr ⟨b,o,h1,J,λV=>O (I b V),U⟩
theorem C3.less(h:C3 w F v n)(I: ∀b,F' b->F b):C3 w F' v n:=by
 obtain⟨⟨J,O,U,V,Z,ci,e,k1,k2,aa⟩,ab⟩:=h;exact⟨⟨J,O,U,V,Z,ci,e,k1.less I,k2.less I,aa.less I⟩,ab⟩
structure Tk(N:Nat)(W:World)(s t:Nat)(F:Nat->Prop)(bl b2:Nat)(v:Value)(st:List Nat):Prop where
 bx:An W bl 46 [v]
 Ju:An W b2 96 [.pointer (some ⟨s,0,none⟩), .int .i64 t]
 row:W.ownsRow N 23 1 v st.length (AF st)
 fl: ¬F bl
 f2: ¬F b2
 fr: ∀k,v.ownBlock=some k->k≠bl/\k≠b2/\ ¬F k
 ne:bl≠b2
section
variable {s:Nat}  {R:Zr} {H:List Nat} {P q most last G:Nat}   
theorem Mk.tk(h:Mk N W s t F bl b2 v st)(I:bl≠b2):Tk N W s t F bl b2 v st:=⟨h.bx,h.Ju,h.row,h.fl,h.f2,h.fr,I⟩
theorem Tk.Aq(h:Tk N W s t F bl b2 v st)(J:Ad W F W' F'):Tk N W' s t F' bl b2 v st:=
 ⟨h.bx.Aq J h.fl,h.Ju.Aq J h.f2,Eo h.row λk I=>J.keep k (Br h.row k I) (h.fr k I).2.2,J.not h.bx.lt h.fl,J.not h.Ju.lt h.f2,λk I=>⟨(h.fr k I).1,(h.fr k I).2.1,J.not (Br h.row k I) (h.fr k I).2.2⟩,h.ne⟩
theorem Tk.below(h:Tk N W s t F bl b2 v st)(I:Below W.heap.size W W'):Tk N W' s t F bl b2 v st:=h.Aq (Ad.below I)
theorem WH{c:Nat}(h:W.ownsRow N 23 1 (.slice A (st++ [x]).length c) (st++ [x]).length (AF (st++ [x]))):W.ownsRow N 23 1 (.slice A st.length c) st.length (AF st):=by
 refine⟨by rw [Dg,Nat.mul_one], ?_⟩;rcases h.2 with ⟨h1,I⟩|⟨g,cap,cur,h1,I,U,V,Z,aa,J⟩
 . simp at I
 . cases h1
   refine .inr ⟨g,c,cur,rfl,I,U,by rw [List.length_append] at V;omega,Z,aa, ?_⟩;rw [Nat.mul_one] at J ⊢;have O:=congrArg (List.take st.length) J;rw [List.take_take,List.length_append,Nat.min_eq_left (by omega)] at O;rw [O,IA];exact List.take_left' (Dg st)
def Ts(N:Nat)(w:World)(s t:Nat)(F:Nat->Prop)(bl b2:Nat)(vb:Option Nat)(R:Zr)(H:List Nat)(P q most last G:Nat)(p:(Zr) × List Nat × Nat)(e:Ending)(w' :World):Prop:=
 ∃v' st',v'.ownBlock=vb/\e= .returned (.int .u64 p.2.2)/\st'.reverse=p.2.1/\Ah w' s F p.1 H P q most last G/\Ad w (FB F bl) w' (FB F bl)/\Tk N w' s t F bl b2 v' st'
theorem J2(hs:Ah w s F R H P q most last G)(an:BN.A0 t)(ac:Tk N w s t F bl b2 v st)(hN:s<N/\1<N)(J7:N<=bl)(aB: ∀x∈st,x<18446744073709551616)(aS:st.length<=100000){ao:Value}(aT:C3 w (FB F bl) ao n)(aU:n.Ok):
 Calls prog 87 #[ao, .pointer (some ⟨bl,0,none⟩), .pointer (some ⟨b2,0,none⟩)] w (Ts N w s t F bl b2 v.ownBlock R H P q most last G (DI R t st.reverse n)):=by
 obtain⟨⟨ae,af,ag,ah,ai,ci,aC,k1,k2,aq⟩,aV⟩:=aT;have ar:C3 w (FB F bl) ao n:=⟨⟨ae,af,ag,ah,ai,ci,aC,k1,k2,aq⟩,aV⟩;subst aC;obtain⟨O,U⟩:=Zx (w.alloc (Obj.cells #[.slice ae n.keys.length af, .slice ag n.Ab.length ah, .slice ai n.kids.length ci, .int .u64 n.size] 100));have Z:=EI;obtain⟨aD,au⟩:=Zx w.heap.size;have aw:An O aD 100 [.slice ae n.keys.length af, .slice ag n.Ab.length ah, .slice ai n.kids.length ci, .int .u64 n.size]:=by rw [U,au];exact An.new w _ _
 have I:=ac.below Z;obtain⟨A,c,aE⟩:=Bs I.row;have aF:=I.bx.at' (i:=0) rfl;have aW:=I.bx.free 0;have aj:=Zh (And.intro U au);rw [U] at aF aW;rcases List.eq_nil_or_concat st with rfl|⟨J,x,aG⟩
 . subst aE
   have aX:Hid (Ts N w s t F bl b2 (Value.slice A ([]:List Nat).length c).ownBlock R H P q most last G (DI R t ([]:List Nat).reverse n) (.returned (.int .u64 0)) O):=Zh ⟨_,[],rfl,rfl,rfl,hs.below Z,(Ad.below Z).fb,I⟩;clear hs an ac ar k1 k2 aq Z aw I U;go_enter func87,ntmps87;go_wp2;rw [<-aj.1];go_ret;exact aX.out
 . rw [List.concat_eq_append] at aG
   subst aG;subst aE;have hlen:(J++ [x]).length=J.length+1:=(by simp);have al:=I.row;have hcut:=WH al;obtain⟨a9,ba,aY,aH⟩:=A5 (F:=λ_=>False) al (λ_ h=>h.elim)
   cases aY
   obtain⟨b,o,hA,bb,aI⟩:=aH.num (k:=J.length) (by omega);have aJ:=aI _ (Below.refl _ _);rw [List.getElem_concat_length (by rfl)] at aJ;have aK:J.length+1<=c/\c<=maxLen:=by
    rcases al.2 with ⟨h1,am⟩|⟨g,cap,cur,h1,am,bc,bd,aZ,be⟩
    . omega
    . cases h1;exact⟨by omega,aZ⟩
   unfold maxLen at aK;have a0:x<18446744073709551616:=aB x (by simp);obtain⟨bf,bg⟩:=aK;have bh:J.length+1<=100000:=(by omega);have aL:=I.fr;have ax: ∀k,(Value.slice A J.length c).ownBlock=some k->k≠bl/\k≠b2/\ ¬F k:=(λk ab=>aL k (by cases A with|none=>simp [Value.ownBlock] at ab|some a=>exact ab));have aM:=hs.below Z;have a1:Hid (∀(aa w3:World),aa=O.setCell ⟨bl,0,none⟩ (.slice A J.length c)->Ah w3 s F (Bp R t x n) H P q most last G->Ad aa F w3 F->Ts N w s t F bl b2 (Value.slice A (J++ [x]).length c).ownBlock R H P q most last G (DI R t (J++ [x]).reverse n) (.returned (.int .u64 (x:Nat))) w3):=Zh (λaa w3 V h1 am=>by
    have a2:DI R t (J++ [x]).reverse n=(Bp R t x n,J.reverse,x):=(by simp [DI]);rw [a2];have a3:Tk N aa s t F bl b2 (.slice A J.length c) J:=by
     rw [V];refine⟨I.bx.set 0 _,I.Ju.other (p:=⟨bl,0,none⟩) (Ne.symm I.ne) _,Eo hcut λk ab=>Below.heap_setCell O ⟨bl,0,none⟩ _ k (ax k ab).1,I.fl,I.f2,ax,I.ne⟩
    refine⟨_,J,by cases A<;>rfl,rfl,rfl,h1,((Ad.below Z).fb.trans (by rw [V];exact Ad.GI O F bl 0 _)).trans am.fb,a3.Aq am⟩)
   obtain⟨aa,V⟩:=Zx (O.setCell ⟨bl,0,none⟩ (.slice A J.length c));have aN:Ah aa s F R H P q most last G:=by
    rw [V];refine aM.grown (A3 O bl 0 _) (λk ab=> ?_);obtain rfl:bl=k:=Option.some.inj ab;refine⟨by omega,by omega,I.fl,λp aO=> ?_⟩;rw [I.bx.at' (i:=0) rfl] at aO
    cases aO
   have aP:C3 aa F (.agg #[.slice ae n.keys.length af, .slice ag n.Ab.length ah, .slice ai n.kids.length ci, .int .u64 n.size]) n:=by
    rw [V];exact((ar.Aq (Ad.below Z)).Aq (Ad.GI O F bl 0 _)).less λb a4=> .inl a4
   have ay:=Gb aN t an x a0 aP aU;unfold Kl at ay;have az:=aw.other (p:=⟨bl,0,none⟩) (λe=>by have bi:=ac.bx.lt;have bj:aD=bl:=e;omega) (.slice A J.length c);have aA:=I.Ju.other (p:=⟨bl,0,none⟩) (Ne.symm I.ne) (.slice A J.length c);rw [<-V] at az aA;obtain⟨a30,a31,a32,a33⟩:=C5 az;obtain⟨a20,a21⟩:=AX aA;have a5:=Zh ay;have a6:=Zh V;rw [aj.1] at aJ;rw [hlen] at aF;rw [aj.1] at V;have a7:=Zh V;subst hA;clear au ay V aN aP az aA hs an ac ar k1 k2 aq Z aw I U al hcut aH aI aL ax aM hlen aB aS hN;go_enter func87,ntmps87;go_upto_region 5 with (fail);rw [<-a7.out,<-aj.2];go_wp2_with fail;refine a5.mono ?_;rintro e w3 ⟨rfl,aQ,aR⟩;have a8:=Zh (a1 aa w3 a6 aQ aR);clear aQ aR;go_wp2;go_ret;exact a8.out
end
def BN.J9(n:BN)(k a b:Nat):BN:=⟨n.keys.set k a,n.Ab.set k b,n.kids,n.size⟩
def Cu(R:Zr)(t:Nat)(key:ByteArray)(ak av:Nat):Nat->Nat->(Zr) × Option (Nat × Nat)
 |0,_=>(R,none)
 |f+1,h=>
  if Bk R t h≠0 then (R,none) else
  swGo (Af R t h) h (DL R (Af R t h).keys key) (Gw R (Af R t h).keys key) (Cu R t key ak av f)
where
 swGo (n:BN) (h k:Nat) (b:Bool) (rec:Nat->(Zr) × Option (Nat × Nat)):(Zr) × Option (Nat × Nat):=
  cond b (Bp R t h (n.J9 k ak av),some (n.keys.getD k 0,n.Ab.getD k 0)) (if n.kids= [] then (R,none) else rec (n.kids.getD k 0))
namespace Bt
variable {a b l:List It}{it x:It}{k:Nat}
def CE(l:List It)(it:It):List It:=l.map λi=>if i.k=it.k then it else i
theorem Gf(l:List It)(it:It):(CE l it).length=l.length:=by simp [CE]
theorem HX(a b:List It)(it:It):CE (a++b) it=CE a it++CE b it:=by simp [CE]
theorem HN(h: ∀i∈l,i.k≠it.k):CE l it=l:=by
 unfold CE
 conv=>rhs;rw [<-List.map_id l]
 exact List.map_congr_left λi hi=>if_neg (h i hi)
def Yft{P}(h:P:=by
 rw [show i.pr.1=x.pr.1 from e,(Cp.2 rfl:Tx.cmp x.pr.1 x.pr.1=0)] at this;omega):=h
theorem Vi(I:AZ (AJ (a++x::b))):(∀i∈a,i.k≠x.k)/\ ∀i∈b,i.k≠x.k:=by
 rw [Bq,CT] at I;obtain⟨h1,J,O⟩:=List.pairwise_append.1 I;refine⟨λi hi e=> ?_,λi hi e=> ?_⟩
 . have:=O i.pr (List.mem_map.2 ⟨i,hi,rfl⟩) x.pr (by simp)
   exact Yft
 . have:=(List.pairwise_cons.1 J).1 i.pr (List.mem_map.2 ⟨i,hi,rfl⟩)
   exact Yft
theorem LN(J:AZ (AJ (a++x::b)))(he:x.k=it.k):CE (a++x::b) it=a++it::b:=by
 obtain⟨h1,I⟩:=Vi J;rw [he] at h1 I;rw [HX,HN h1]
 show a++(if x.k=it.k then it else x)::CE b it=_
 rw [if_pos he,HN I]
theorem PS(I:k<l.length)(J:AZ (AJ l))(he:l[k].k=it.k):CE l it=l.set k it:=by
 have e:l=l.take k++l[k]::l.drop (k+1):=by rw [<-List.drop_eq_getElem_cons I,List.take_append_drop]
 rw [List.set_eq_take_append_cons_drop,if_pos I]
 conv=>lhs;rw [e]
 rw [e] at J;exact LN J he
theorem PV(I:AZ (AJ l))(U:Bb l it.k=some x):AJ (CE l it)=Dc (AJ l) it.pr:=by
 obtain⟨h1,J⟩:=(CO I).2 x U;obtain⟨O,V⟩:=List.getElem?_eq_some_iff.1 h1;rw [PS O I (by rw [V];exact J)];have hp:(AJ l)[AE (AJ l) it.k]? =some x.pr:=by unfold AJ at h1 ⊢;rw [List.getElem?_map,h1];rfl
 unfold Dc
 show AJ (l.set (AE (AJ l) it.k) it)=_
 rw [show it.pr.1=it.k from rfl,hp];generalize AE (AJ l) it.k=r at*;rw [List.set_eq_take_append_cons_drop,if_pos O];simp only [Option.map_some,show x.pr.1=x.k from rfl,J];simp [AJ,List.map_take,List.map_drop]
section
variable {R:Zr} {t:Nat}
theorem Kc{key:ByteArray}{ak av f x:Nat}{n:BN}{b:Bool}(I:Af R t x=n)(J:Bk R t x=0)(O:DL R n.keys key=k)(U:Gw R n.keys key=b):Cu R t key ak av (f+1) x=Cu.swGo R t ak av n x k b (Cu R t key ak av f):=by
 subst I O U
 conv=>lhs;unfold Cu
 rw [if_neg (by rw [J];simp)]
def Ych{P}(h:P:=by
 rcases O.2.2 with h|h
 . exact absurd h (by simp [Al])
 . exact h.2):=h
def Ydt{P}(h:P:=by
 rw [V,List.map_set];refine List.ext_getElem (by simp) λj q1 I=> ?_
 rw [List.getElem_set]
 split
 . next e=>subst e;simp
 . rfl):=h
theorem SX(aG:BN.A0 t)(it old:It): ∀(a lo f:Nat) (s:Sb),At R t a lo s->R 0=none->s.ns.Nodup->(∀i∈s.Aa,i.At R)->AZ (AJ s.Aa)->Bb s.Aa it.k=some old->a<f->
 ∃R',Cu R t it.k it.kh it.vh f s.h=(R',some (old.kh,old.vh))/\At R' t a lo ⟨s.h,CE s.Aa it,s.ns⟩/\(∀z,z∉s.ns->R' z=R z):=by
 intro a
 induction a with
 |zero=>
  intro lo f s h aw ax hA I ae aR;obtain⟨f,rfl⟩: ∃g,f=g+1:=⟨f-1,by omega⟩;obtain⟨ag,ah⟩:=h.2.2.get aG;obtain⟨g1,g2⟩:=(CO I).2 old ae;obtain⟨J,g3⟩:=List.getElem?_eq_some_iff.1 g1;rw [Kc ag ah (BZ hA I) (Ew hA I),ae];have al:(Ar s.Aa).J9 (AE (AJ s.Aa) it.k) it.kh it.vh=Ar (CE s.Aa it):=by
   rw [PS J I (by rw [g3];exact g2)];simp [BN.J9,Ar,List.map_set]
  have O:(Ar (CE s.Aa it)).Fits t:=Co (by rw [Gf];have:=h.2.2.2.1;simpa [Ar] using this);refine⟨AQ R s.h (some ((Ar (CE s.Aa it)).wd t)), ?_,⟨h.1,by show lo<=(CE s.Aa it).length;rw [Gf];exact h.2.1,AT _ _ _,O⟩,λz am=>Aw λe=>am (by rw [h.1,e];simp)⟩;unfold Cu.swGo;rw [Option.isSome_some,cond_true,al,B8 O h.2.2.1 (BN.B0 _ _)];simp [Ar,J,g3]
 |succ a ih=>
  intro lo f s h aw ax hA I ae aR;obtain⟨f,rfl⟩: ∃g,f=g+1:=⟨f-1,by omega⟩;have aS:=h.FH aw;obtain⟨c,l,h1,ac,aH,ai,ay,an⟩:=h;obtain⟨ag,ah⟩:=ai.get aG;obtain⟨ao,a5,a6⟩:=s;dsimp only at h1 ac ai hA I ae ax ag ah aS ⊢;subst h1 ac;obtain⟨az,nn⟩:=List.nodup_cons.1 ax;obtain⟨aq,aI⟩:=Yjo;have af:=N3 (key:=it.k) aq;have aA:=BZ (key:=it.k) aI aq;have aJ:=Ew (key:=it.k) aI aq;rw [List.map_map] at aA aJ;have aK:=λi=>(CO (key:=it.k) aq).2 i
  generalize AE (AJ (l.map (·.1))) it.k=k at af aA aK;have ab:=af.le;rw [Kc ag ah aA aJ];have O:=ai.2
  cases U:Bb (l.map (·.1)) it.k with
  |some i=>
   obtain⟨g1,g2⟩:=aK i U;rw [List.getElem?_map] at g1;by_cases J:k<l.length
   . rw [List.getElem?_eq_getElem J] at g1
     simp only [Option.map_some,Option.some.injEq] at g1;have aL:l[k].1.k=it.k:=(by rw [g1];exact g2);have aT:l[k].1=old:=by
      have:=af.here I J aL;rw [ae] at this;exact(Option.some.inj this).symm
     obtain⟨l',V⟩:=Zx (l.set k (it,l[k].2));have hlen:l'.length=l.length:=(by rw [V];simp);have aM:l'.map (·.2.h)=l.map (·.2.h):=by
      exact Ydt
     have aj:Aj c l' =CE (Aj c l) it:=by
      have ag:Aj c l=(pre c l k++(Ap c l k).Aa)++l[k].1::(l[k].2.Aa++rest (l.drop (k+1))):=by
       rw [Bu c l k ab,List.drop_eq_getElem_cons J,BU];simp
      have aU: ∀(l l' :List Lk) (c:Sb) (k:Nat),k<=l.length->l'.take k=l.take k->pre c l' k=pre c l k/\Ap c l' k=Ap c l k:=by
       intro l
       induction l with
       |nil=>intro l' c k h1 ac;obtain rfl:k=0:=by simpa using h1
             cases l' <;>exact⟨rfl,rfl⟩
       |cons p l ih=>
        intro l' c k h1 ac
        cases k with
        |zero=>cases l' <;>exact⟨rfl,rfl⟩
        |succ k=>
         cases l' with
         |nil=>simp at ac
         |cons p' l' =>
          simp only [List.take_succ_cons,List.cons.injEq] at ac;obtain⟨rfl,ac⟩:=ac;obtain⟨q1,aB⟩:=ih l' p'.2 k (by simpa using h1) ac;exact⟨by simp only [pre,q1],by simp only [Ap,aB]⟩
      obtain⟨q1,aB⟩:=aU l l' c k ab (by rw [V,List.take_set_of_le (Nat.le_refl _)]);have aV :k<l'.length:=(by rw [hlen];exact J);have ah:Aj c l' =(pre c l k++(Ap c l k).Aa)++it::(l[k].2.Aa++rest (l.drop (k+1))):=by
       rw [Bu c l' k (by omega),q1,aB,List.drop_eq_getElem_cons aV,BU];have aW:l'[k]=(it,l[k].2):=(by simp [V]);have aX:l'.drop (k+1)=l.drop (k+1):=(by rw [V,List.drop_set_of_lt (by omega)]);rw [aW,aX];simp
      rw [ah];rw [ag] at I ⊢;exact(LN I aL).symm
     have al:(Al c l).J9 k it.kh it.vh=Al c l' :=by
      have:(Aj c l').length=(Aj c l).length:=(by rw [aj,Gf]);unfold Al;rw [aM,this];simp [BN.J9,V,List.map_set]
     have aN :(Al c l').Fits t:=CC (by rw [hlen];have:=O.1;rwa [(DP c l).1] at this) (by
      rw [aM];exact Ych)
     have aO:Ax c l' =Ax c l:=by
      unfold Ax
      congr 1
      rw [<-List.flatMap_map (f:=λp:Lk=>p.2) (g:=λs:Sb=>s.ns),<-List.flatMap_map (f:=λp:Lk=>p.2) (g:=λs:Sb=>s.ns)]
      congr 1
      exact Ydt
     have aY : ∀p∈l',At R t a (t-1) p.2:=λp hp=>by
      rw [V] at hp;rcases List.mem_or_eq_of_mem_set hp with hp|rfl
      . exact an p hp
      . exact an l[k] (List.getElem_mem J)
     have aZ: ∀p∈l',ao∉p.2.ns:=(λp hp hm=>az (by rw [<-aO];exact C7 hp hm));refine⟨AQ R ao (some ((Al c l').wd t)), ?_,⟨c,l',aj.symm,by rw [aO],by rw [hlen];exact aH,⟨AT _ _ _,aN⟩,CP ay (λhm=>az (List.mem_append.2 (.inl hm))),λp hp=>CP (aY p hp) (aZ p hp)⟩,λz am=>Aw λe=>am (by rw [e];simp)⟩;unfold Cu.swGo;rw [Option.isSome_some,cond_true,al,B8 aN ai.1 (BN.B0 _ _),<-aT];simp [Al,J]
   . exact Yee
  |none=>
   have aP: ∀aa :k<l.length,l[k].1.k≠it.k:=λaa e=>by
    exact Ybp
   have a0:=Hy k ay an;have a1:=ER c l k ab;rw [af.gone I aP] at ae;obtain⟨R',g1,g2,g3⟩:=ih (t-1) f (Ap c l k) a0 aw (Ib ab nn) (λi hi=>hA i (Hg ab hi)) (DJ ab I) ae (by omega);have ar:=Gl (a:=a) (lo:=t-1) ab nn ay an (λz _ a2=>g3 z a2) g2;have hlen:=CU c l k ⟨(Ap c l k).h,CE (Ap c l k).Aa it,(Ap c l k).ns⟩ ab;have aC:=EZ c l k ⟨(Ap c l k).h,CE (Ap c l k).Aa it,(Ap c l k).ns⟩ ab rfl;have aj:=Ex c l k ⟨(Ap c l k).h,CE (Ap c l k).Aa it,(Ap c l k).ns⟩ ab;have aD:=DZ c l k ⟨(Ap c l k).h,CE (Ap c l k).Aa it,(Ap c l k).ns⟩ ab;have aE:Ax (AM c l k ⟨(Ap c l k).h,CE (Ap c l k).Aa it,(Ap c l k).ns⟩).1 (AM c l k ⟨(Ap c l k).h,CE (Ap c l k).Aa it,(Ap c l k).ns⟩).2=Ax c l:=by
    have: ∀(c:Sb) (l:List Lk) (k:Nat) (s:Sb),k<=l.length->s.ns=(Ap c l k).ns->Ax (AM c l k s).1 (AM c l k s).2=Ax c l:=by
     intro c l
     induction l generalizing c with
     |nil=>intro k s aF hs;obtain rfl:k=0:=by simpa using aF
           simpa [AM,Ax,Ap] using hs
     |cons p l ih=>
      intro k s aF hs
      cases k with
      |zero=>simp only [AM,Ax];rw [hs];rfl
      |succ k=>
       have:=ih p.2 k s (by simpa using aF) hs;simp only [AM];rw [BB,BB,this]
    exact this c l k _ ab rfl
   have au:Aj (AM c l k ⟨(Ap c l k).h,CE (Ap c l k).Aa it,(Ap c l k).ns⟩).1 (AM c l k ⟨(Ap c l k).h,CE (Ap c l k).Aa it,(Ap c l k).ns⟩).2=CE (Aj c l) it:=by
    rw [aj,Bu c l k ab,HX,HX,HN (FY (af.pre I))]
    congr 2
    symm
    refine HN λi hi e=> ?_
    have hp:=af.post I i.pr (List.mem_map.2 ⟨i,hi,rfl⟩);by_cases J:k<l.length
    . have hh:=af.high k J (Nat.le_refl _)
      have a3:=aP J;rw [List.drop_eq_getElem_cons J,BU] at hi;rcases List.mem_cons.1 hi with rfl|hi
      . exact a3 e
      . have Z:=I
        rw [Bu c l k ab,List.drop_eq_getElem_cons J,BU,<-List.append_assoc,Bq,CT] at Z;have h1:=Yny;have ac:Tx.cmp l[k].1.k it.k<0:=(by rw [<-e];exact h1);exact hh ac
    . rw [List.drop_eq_nil_of_le (by omega)] at hi
      simp [rest] at hi
   generalize AM c l k ⟨(Ap c l k).h,CE (Ap c l k).Aa it,(Ap c l k).ns⟩=cl at ar hlen aC aj aD aE au;obtain⟨aQ,l'⟩:=cl;dsimp only at ar hlen aC aj aD aE au;have al:Al aQ l' =Al c l:=by
    unfold Al;rw [au,Gf,Fs,Ft,aD,<-Fs,<-Ft,aC]
   have a4:ao∉(Ap c l k).ns:=(λhm=>az (D4 ab hm));refine⟨R', ?_,⟨aQ,l',au.symm,by rw [aE],by rw [hlen];exact aH,by rw [al];exact⟨(g3 ao a4).trans ai.1,ai.2⟩,ar.1,ar.2⟩,λz am=>g3 z λhm=>am (List.mem_cons_of_mem _ (D4 ab hm))⟩;unfold Cu.swGo;rw [Option.isSome_none,cond_false,if_neg (by simp [Al])]
   show Cu R t it.k it.kh it.vh f ((c.h::l.map (·.2.h)).getD k 0)=_
   rw [List.getD_eq_getElem?_getD,a1];exact g1
end
end Bt
variable {c g:Nat}
section
variable {W:World} {B:Nat} {v1 v2 v3:Value} {l1 l2 l3:List Nat}
theorem NJ(l:List Nat)(k x:Nat):(AF l).set k (.int .u64 x)=AF (l.set k x):=by unfold AF;rw [List.map_set]
theorem AS.Yy(h:AS W B (.slice (some ⟨g,0,none⟩) l1.length c) l1 v2 l2 v3 l3)(k x:Nat):
 AS (W.setCell ⟨g,k,none⟩ (.int .u64 x)) B (.slice (some ⟨g,0,none⟩) l1.length c) (l1.set k x) v2 l2 v3 l3:=by
 have J: ∀b,b≠g->(W.setCell ⟨g,k,none⟩ (.int .u64 x)).heap[b]? =W.heap[b]? :=λb I=>Below.heap_setCell W ⟨g,k,none⟩ _ b I
 refine⟨?_,CL h.r2 λb I=>J b (λe=>h.a12 g rfl (e▸I)),CL h.r3 λb I=>J b (λe=>h.Ow g rfl (e▸I)),h.a12,h.Ow,h.a23⟩;rw [List.length_set,<-NJ];exact(h.r1.stored k (.int .u64 x)).1
theorem AS.Aad(h:AS W B v1 l1 (.slice (some ⟨g,0,none⟩) l2.length c) l2 v3 l3)(k x:Nat):
 AS (W.setCell ⟨g,k,none⟩ (.int .u64 x)) B v1 l1 (.slice (some ⟨g,0,none⟩) l2.length c) (l2.set k x) v3 l3:=(h.Ei.Yy k x).Ei
theorem Bg{v:Value}{l:List Nat}(h:W.ownsRow B 23 1 v l.length (AF l))(J:l≠ []): ∃g c,v= .slice (some ⟨g,0,none⟩) l.length c/\B<=g/\g<W.heap.size:=by
 rcases h.2 with ⟨h1,I⟩|⟨g,cap,cur,h1,I,O,U⟩
 . exact absurd (List.eq_nil_of_length_eq_zero I) J
 . exact⟨g,cap,h1,I,(Array.getElem?_eq_some_iff.1 O).1⟩
end
def Yr(w:World)(s:Nat)(F:Nat->Prop)(H:List Nat)(P q most last G:Nat)(p:(Zr) × Option (Nat × Nat))(e:Ending)(w' :World):Prop:=
 e= .returned (S7 p.2)/\Ah w' s F p.1 H P q most last G/\Ad w F w' F
section
variable {w w':World} {s:Nat} {F:Nat->Prop} {R:Zr} {H:List Nat} {P q most last G:Nat}
def Ybs{P}(h:P:=by
 rw [aG,aT];have:=An.new (w.alloc (Obj.cells #[.pointer (some ⟨s,0,none⟩), .int .i64 t] 96)) 31 [.int .u64 ak, .int .u64 av];rw [show(w.alloc (Obj.cells #[.pointer (some ⟨s,0,none⟩), .int .i64 t] 96)).heap.size=w.heap.size+1 by simp] at this;exact this.alloc _):=h
def Ybu{P}(h:P:=by
 obtain⟨I,r1⟩:=AX J.out;refine bodyPost_ret (v:= .agg #[.int .u64 0, .int .u64 0]) (by simp [results,f45,go_sem,I,r1]) rfl V.out):=h
def Yhq{P}(h:P:=by
 have l1:n.keys.length<=31:=by omega
 have l3:n.kids.length<=32:=by
  rcases bu with ac|ac
  . rw [ac];simp
  . omega
 have I:C3 aY (λ_=>False) (.agg #[.slice a3 n.keys.length q1, .slice a4 n.Ab.length aA, .slice ba n.kids.length aM, .int .u64 n.size]) n:=aE.MD (F:=λ_=>False) (λ_ h=>h.elim) n.size (by omega) (by omega) (by omega);exact And.intro l1 (And.intro l3 I)):=h
def Ykb{P}(h:P:=by
 have I:Below w.heap.size w U:=by rw [aG];exact(((Below.refl _ w).alloc (Nat.le_refl _) _).alloc (by simp) _).alloc (by simp;omega) _
 exact I):=h
def Ykd{P}(h:P:=by
 have I:=Zh bq;have bh:Hid (n.kids= []\/n.kids.length=n.keys.length+1):=Zh (bu.imp id And.left);exact And.intro I bh):=h
theorem TH(hs:Ah w s F R H P q most last G)(cO:A6 R){t:Nat}(bW:BN.A0 t)(x:Nat)(hx:x<18446744073709551616)(key:ByteArray)(ak av:Nat)(bX:ak<18446744073709551616)(bY:av<18446744073709551616):
 Calls prog 45 #[.agg #[.pointer (some ⟨s,0,none⟩), .int .i64 t], .int .u64 x, .string key, .agg #[.int .u64 ak, .int .u64 av]] w (Yr w s F H P q most last G (Cu R t key ak av 40 x)):=by
 obtain⟨dB,h,dC⟩:=hs.rd;have aK:=Zh h;have aH:=Zh bW;have bZ:=Zh hs;have b3:=Zh (And.intro bX bY);obtain⟨U,aG⟩:=Zx (((w.alloc (Obj.cells #[.pointer (some ⟨s,0,none⟩), .int .i64 t] 96)).alloc (Obj.cells #[.int .u64 ak, .int .u64 av] 31)).alloc (Obj.cells #[.int .u64 0, .int .u64 0] 31));have b4:=Ykb;obtain⟨b5,aa⟩:=Zx w.heap.size;obtain⟨b7,aT⟩:=Zx (w.heap.size+1);obtain⟨aq,bH⟩:=Zx (w.heap.size+1+1);have aS:An U b5 96 [.pointer (some ⟨s,0,none⟩), .int .i64 t]:=by rw [aG,aa];exact((An.new w 96 [.pointer (some ⟨s,0,none⟩), .int .i64 t]).alloc _).alloc _
 have x7:An U b7 31 [.int .u64 ak, .int .u64 av]:=by
  exact Ybs
 have b8:An U aq 31 [.int .u64 0, .int .u64 0]:=by
  rw [aG,bH];have:=An.new ((w.alloc (Obj.cells #[.pointer (some ⟨s,0,none⟩), .int .i64 t] 96)).alloc (Obj.cells #[.int .u64 ak, .int .u64 av] 31)) 31 [.int .u64 0, .int .u64 0]
  rwa [show((w.alloc (Obj.cells #[.pointer (some ⟨s,0,none⟩), .int .i64 t] 96)).alloc (Obj.cells #[.int .u64 ak, .int .u64 av] 31)).heap.size=w.heap.size+1+1 by simp] at this
 have g8:w.heap.size<=aq:=by omega
 have bk:=Zh (And.intro aG (And.intro aa (And.intro aT bH)));have a0:=Zh b4;have bc:=Zh aS;have bd:=Zh x7;have cP:=Zh b8;have bI:Hid (∀W,Cu R t key ak av 40 x=(R,none)->Below w.heap.size w W->Yr w s F H P q most last G (Cu R t key ak av 40 x) (.returned (.agg #[.int .u64 0, .int .u64 0])) W):=Zh (λW h1 bm=>by
  rw [h1];exact⟨rfl,hs.below bm,Ad.below bm⟩)
 obtain⟨D,b9⟩:=Zx (Cu R t key ak av 40 x);have a8:=Zh b9;clear h bW hs bX bY aG aa aT bH aS x7 b8 b4 b9;go_enter func45,ntmps45;go_wp2;rw [<-bk.1,<-bk.2.2.2,<-bk.2.2.1,<-bk.2.1]
 go_loopw [1,14] (λcQ bJ wr=> ∃(i bK :Nat),i<=40/\bK <18446744073709551616/\cQ= .int .u64 bK /\bJ= .int .i64 i/\Hid (D=Cu R t key ak av (40-i) bK)/\Hid (Below U.heap.size U wr)) (λ_ bJ _=>40-(intOf bJ).toNat)
 case atStart=>exact⟨0,x,by omega,hx,rfl,rfl,a8,Zh (Below.refl _ _)⟩
 case round=>
  obtain⟨i,y,hi,aX,rfl,rfl,hd,ah⟩:=hrel;have aI:=a0.trans (ah.mono a0.size);have ae:=Zh aI;obtain⟨bo,aU⟩:=Yhj;have aW:=Zh (cP.below ah);obtain⟨bb,be⟩:=AX bo.out;by_cases dD:i<40
  . have cb:=Yna
    obtain⟨m,hm⟩: ∃m,40-i=m+1:=⟨39-i,by omega⟩;clear aI;go_wp2_with fail;refine cb.mono ?_;rintro e w2 ⟨v1,v2,v3,rfl,am,bp⟩;obtain⟨a3,q1,rfl⟩:=Ae am.r1;obtain⟨a4,aA,rfl⟩:=Ae am.r2;obtain⟨ba,aM,rfl⟩:=Ae am.r3;obtain⟨n,aj⟩:=Zx (Af R t y);have cc:D=Cu R t key ak av (m+1) y:=(by rw [<-hm];exact hd.out);rw [<-aj] at am;rw [<-aj];obtain⟨aY,an⟩:=Zx (w2.alloc (Obj.cells #[.slice a3 n.keys.length q1, .slice a4 n.Ab.length aA, .slice ba n.kids.length aM, .int .u64 n.size] 100));obtain⟨a1,ar⟩:=Zx w2.heap.size;have aJ:Below w2.heap.size w2 aY:=(by rw [an];exact(Below.refl _ _).alloc (Nat.le_refl _) _);have aQ:An aY a1 100 [.slice a3 n.keys.length q1, .slice a4 n.Ab.length aA, .slice ba n.kids.length aM, .int .u64 n.size]:=(by rw [an,ar];exact An.new w2 100 [.slice a3 n.keys.length q1, .slice a4 n.Ab.length aA, .slice ba n.kids.length aM, .int .u64 n.size]);have I:Below wr.heap.size wr aY:=bp.trans (aJ.mono bp.size);have z4:=Zh (bo.below I);obtain⟨cd,bL⟩:=XX;have af:=Dt;have br:=Zh ah.size;have a9:=ZX;have cR:=Zh (show b5<wr.heap.size/\b7<wr.heap.size/\aq<wr.heap.size/\wr.heap.size<=a1 from⟨bo.lt,aU.lt,aW.lt,by have:=bp.size;omega⟩);have ce:=Zh (show(∀k,(Value.slice a3 n.keys.length q1).ownBlock=some k->k<a1)/\ ∀k,(Value.slice a4 n.Ab.length aA).ownBlock=some k->k<a1 from⟨λk az=>by rw [ar];exact Br am.r1 k az,λk az=>by rw [ar];exact Br am.r2 k az⟩);obtain⟨a2,cf⟩:=Oo;obtain⟨ao,aE⟩:=Zm;have bM:=Zh cc;have cT:=Zh hm;clear bb be cb bp am aj an ar aJ I aQ cc hd ah bo aU aW ae hm;by_cases he:Bk R t y=0
    . rw [decide_eq_true he]
      have hw:=BR aK aH he;rw [<-cf.out] at hw;obtain⟨cU,a5,bf,wc,bg⟩:=hw;have t2:=aH.2;obtain⟨g1,g2,bu⟩:=cU;obtain⟨l1,l3,cg⟩:=Yhq;have bq:=GU (aK.below af) cO cg t a5 key;obtain⟨k,az⟩:=Zx (DL R n.keys key);obtain⟨ah,aR⟩:=Zx (Gw R n.keys key);have dE:=YV;have ci:=Yoq;rw [<-az,<-aR] at bq;have cj:D=Cu.swGo R t ak av n y k ah (Cu R t key ak av m):=by
       rw [bM.out];exact Bt.Kc cf.symm he az.symm aR.symm
      have ck:=Zh cj;obtain⟨cl,bh⟩:=Ykd;have cV:=Zh ci;have aZ:=Zh g2;have cn:=Zh (And.intro a5 (And.intro bf (And.intro wc bg)));have co:=Zh (And.intro l1 l3);obtain⟨bb,be⟩:=AX z4.out;rw [a2.1] at bb be;clear cg bq az aR cj ci g1 g2 bu a5 bf wc bg he bM l1 l3;go_wp2_with fail;rw [<-a2.1,<-a2.2];refine cl.mono ?_;rintro e w4 ⟨rfl,aa⟩;have cp:=Zh (z4.below aa);have cr:=Zh (cd.below aa);have u8:=Zh (bL.below aa);obtain⟨bN,aB⟩:=VY;have al:=K8;have cW:=Ygq;have au:=ck.out;unfold Cu.swGo at au;obtain⟨f0,f1,f2,f3⟩:=C5 bN.out;clear aa z4 cd bL ao aE af a9 cl a2 bb be ck
      cases ah with
      |true=>
       simp only [cond_true] at au;have O:=cV.out rfl;have bs:=Z5;obtain⟨ab,dF,cX,cY,cZ⟩:=Bg aB.r1 (λe=>by rw [e] at O;simp at O);obtain⟨ai,dG,c8,c9,da⟩:=Bg aB.r2 (λe=>by rw [e] at bs;simp at bs)
       cases cX
       cases c8
       have dH:=ce.1 ab rfl;have dI:=ce.2 ai rfl;have bv:w4.cell? ⟨ab,k,none⟩=some (.int .u64 (n.keys[k]:Nat)):=(aB.r1.cellAt k (by omega)).trans (EM O);have bw:w4.cell? ⟨ai,k,none⟩=some (.int .u64 (n.Ab[k]:Nat)):=(aB.r2.cellAt k (by omega)).trans (EM bs);rw [show n.keys.getD k 0=n.keys[k] by simp [O],show n.Ab.getD k 0=n.Ab[k] by simp [bs]] at au;obtain⟨aC,db⟩: ∃y,n.keys[k]=y:=⟨_,rfl⟩;obtain⟨aD,dc⟩: ∃y,n.Ab[k]=y:=⟨_,rfl⟩;rw [db] at bv au;rw [dc] at bw au;have bO:=(λX:Au (λ_=>False) w4=>X.cell f0 (λh=>h));have bP:=(λX:Au (λ_=>False) w4=>X.cell f1 (λh=>h));have bQ:=(λX:Au (λ_=>False) w4=>X.cell bv (λh=>h));have aS:=(λX:Au (λ_=>False) w4=>X.cell bw (λh=>h));go_wp2;refine As (λw' => ∃X:Au (λ_=>False) w4,w' =X.W) [.r 0, .r 1, .r 2, .r 3, .r 4, .r 5, .r 6, .r 7, .r 8, .r 9, .r 10, .a 11, .a 12] (Ay _ _) ?_
       iterate 11 (refine AH ?_;go_simp)
       clear bO bP bQ aS;refine AI _ rfl (λaF ax=> ?_);go_wp2;refine ax _ _ (Ag (((Ac w4)).alloc (Nat.le_refl _) _)) ?_;clear ax aF;refine AI _ rfl (λaF ax=> ?_);go_wp2;have Z:Below w4.heap.size w4 (w4.alloc (Obj.cells #[.int .u64 aC, .int .u64 aD] 31)).drew:=(((Below.refl _ w4)).alloc (Nat.le_refl _) _).drew;refine ax _ _ (Ag Z) (AP ?_);clear ax aF;obtain⟨b13,bz⟩:=Zx w4.heap.size;have EJ:An (w4.alloc (Obj.cells #[.int .u64 aC, .int .u64 aD] 31)).drew b13 31 [.int .u64 aC, .int .u64 aD]:=(by rw [bz];exact BE (An.new w4 31 [.int .u64 aC, .int .u64 aD]));rw [<-bz];have bR:=Zh bz;obtain⟨aw,cs⟩:=Zx ((w4.alloc (Obj.cells #[.int .u64 aC, .int .u64 aD] 31)).drew);rw [<-cs] at Z EJ ⊢;have dd:=Zh (cp.below Z);have cu:=Zh (cr.below Z);have de:=Zh (u8.below Z);have bS:=Zh (bN.below Z);have bA:=Zh (aB.below Z);have df:=Zh EJ;have dg:=OZ;have dJ :=Z.cell (p:=⟨ab,k,none⟩) cZ▸bv;have dK :=Z.cell (p:=⟨ai,k,none⟩) da▸bw;have dL :=bA.r1.frozenAt k;have dM :=bA.r2.frozenAt k;have dN:ab≠ai:=(λe=>bA.a12 ab rfl (by rw [e];rfl));have dO:=cR.out;have dh:w.heap.size<=ab:=Nat.le_trans (Nat.le_trans a0.size br.out) cY;have di:w.heap.size<=ai:=Nat.le_trans (Nat.le_trans a0.size br.out) c9;have n7: ¬(b7=ab\/b7=ai):=(by omega);have n9: ¬(a1=ab\/a1=ai):=(by omega);clear bv bw f0 f1 f2 f3 EJ cs Z bz cp cr u8 bN aB al;obtain⟨f0,f1⟩:=AX bS.out;have bO:=(λX:Au (λb=>b=ab\/b=ai) aw=>X.cell f0 n9);have bP:=(λX:Au (λb=>b=ab\/b=ai) aw=>X.cell f1 n9);have bQ:=(λX:Au (λb=>b=ab\/b=ai) aw=>X.cell (cu.at' (i:=0) rfl) n7);have aS:=(λX:Au (λb=>b=ab\/b=ai) aw=>X.cell (cu.at' (i:=1) rfl) n7);go_wp2;refine As (λw' => ∃X:Au (λb=>b=ab\/b=ai) aw,w' =X.W) [.r 0, .r 1, .r 2, .r 3, .r 4, .r 5, .r 6, .r 7, .r 8, .r 9, .r 10, .a 11, .r 12, .a 13] (Ay _ _) ?_
       iterate 11 (refine AH ?_;go_simp)
       clear bO bP bQ aS;refine AI _ rfl (λaF ax=> ?_);go_wp2;refine ax _ _ (Ck (Bj (B:=λb=>b=ab\/b=ai) (p:=⟨ab,k,none⟩) (Ag (Below.refl _ _)) (.inl rfl) _) (Ac _)) ?_;clear ax aF;refine AH ?_;go_simp;refine AI _ rfl (λaF ax=> ?_);go_wp2;have cv:AS ((aw.setCell ⟨ab,k,none⟩ (.int .u64 ak)).setCell ⟨ai,k,none⟩ (.int .u64 av)).drew wr.heap.size _ (n.keys.set k ak) _ (n.Ab.set k av) _ n.kids:=((bA.Yy k ak).Aad k av).below (Ac _);have bT:Below w.heap.size w ((aw.setCell ⟨ab,k,none⟩ (.int .u64 ak)).setCell ⟨ai,k,none⟩ (.int .u64 av)).drew:=((dg.setCell (p:=⟨ab,k,none⟩) dh _).setCell (p:=⟨ai,k,none⟩) di _).drew;have two: ∀{b:Nat} {T:TypeId} {vs:List Value},An aw b T vs->b≠ab->b≠ai->An ((aw.setCell ⟨ab,k,none⟩ (.int .u64 ak)).setCell ⟨ai,k,none⟩ (.int .u64 av)).drew b T vs:=(λh h1 bm=>BE ((h.other (p:=⟨ab,k,none⟩) h1 _).other (p:=⟨ai,k,none⟩) bm _));have cw:=two dd (by omega) (by omega);have cx:=two de (by omega) (by omega);have cy:=two bS (by omega) (by omega);have cz:=two df (by have:=bR.out;omega) (by have:=bR.out;omega);have cB: ∃X:Au (λb=>b=ab\/b=ai) aw,((aw.setCell ⟨ab,k,none⟩ (.int .u64 ak)).setCell ⟨ai,k,none⟩ (.int .u64 av)).drew=X.W:=Ck (Bj (B:=λb=>b=ab\/b=ai) (p:=⟨ai,k,none⟩) (Bj (B:=λb=>b=ab\/b=ai) (p:=⟨ab,k,none⟩) (Ag (Below.refl _ _)) (.inl rfl) _) (.inr rfl) _) (Ac _);clear two;generalize dj:((aw.setCell ⟨ab,k,none⟩ (.int .u64 ak)).setCell ⟨ai,k,none⟩ (.int .u64 av)).drew=W6 at*;refine ax _ _ cB (AP ?_);clear ax aF cB dj;have dk:=Zh (bZ.below bT);have dl:=Zh (Ad.below (F:=F) bT);obtain⟨a5,bf,wc,bg⟩:=cn.out;have cC:(n.J9 k ak av).Ok:=⟨λz aN=>by
        rcases List.mem_or_eq_of_mem_set aN with ac|ac
        . obtain⟨j,bi,rfl⟩:=List.getElem_of_mem ac;exact a5 j bi
        . rw [ac];exact b3.1,λz aN=>by
        rcases List.mem_or_eq_of_mem_set aN with ac|ac
        . obtain⟨j,bi,rfl⟩:=List.getElem_of_mem ac;exact bf j bi
        . rw [ac];exact b3.2,λz aN=>by obtain⟨j,bi,rfl⟩:=List.getElem_of_mem aN;exact wc j bi,bg⟩
       have dm:=co.1;have dn:=co.2;have dp:=aZ.out;have bB: ∀b,F b->b<w.heap.size:=(λb ah=>bZ.lt ah);have bU:=cv.MD (F:=F) (λb ah=>Nat.lt_of_lt_of_le (bB b ah) (Nat.le_trans a0.size br.out)) n.size (by simp;omega) (by simp;omega) (by omega);rw [show(BN.mk (n.keys.set k ak) (n.Ab.set k av) n.kids n.size)=n.J9 k ak av from rfl] at bU;have dq:=Zh (Gb dk.out t aH y aX bU cC);obtain⟨f0,f1,f2,f3⟩:=C5 cy;obtain⟨bb,be⟩:=AX cw;have cD: ¬F aq:=(λac=>by have:=bB _ ac;omega);have dr: ¬F b13:=(λac=>by have:=bB _ ac;have:=bR.out;have:=a0.size;have:=br.out;omega);have ds:=Zh cx;have dt:=Zh cz;clear cC dm dp dn bU a5 bf wc bg cv bT cx cz cw cy bB;go_wp2_with fail;refine dq.mono ?_;unfold Kl;rintro e cF ⟨rfl,cG,bC⟩;have bj:=Zh (ds.Aq bC cD);have cH:=dt.Aq bC dr;obtain⟨i0,i1⟩:=AX cH;have bD:=bj.free 0;have k1:=bj.free 1;obtain⟨bE,bF⟩:=AX bj.out;have du:=Zh cG;have dv:=Zh bC;have J:=Zh ((bj.set 0 (.int .u64 aC)).set 1 (.int .u64 aD));clear cG bC cH;go_wp2;obtain⟨dw,r1⟩:=AX J.out;refine bodyPost_ret (v:= .agg #[.int .u64 aC, .int .u64 aD]) (by simp [results,f45,go_sem,dw,r1]) rfl ?_;rw [<-a8.out,au];have cI:s<aq/\1<aq:=by
        obtain⟨_,_,_,_,_,_,_,_,_,_,_,_,_,_,_,_,_,m2,m3,m4⟩:=aK.out;omega
       refine⟨rfl,du.grown (Bi (A3 cF aq 0 _) (A3 _ aq 1 _)) (λz aN=> ?_), ?_⟩
       . obtain rfl:aq=z:=Option.some.inj aN
         refine⟨cI.1,cI.2,cD,λbS cJ=> ?_⟩;rw [bj.at' (i:=0) rfl] at cJ
         cases cJ
       . exact(dl.trans dv).minus ((Ad.GI cF F aq 0 _).trans (Ad.GI _ F aq 1 _)) g8
      |false=>
       simp only [cond_false] at au;by_cases ag:n.kids= []
       . have dx:n.kids.length=0:=by rw [ag];rfl
         rw [if_pos ag] at au;have a7:=a8.symm.trans au;clear au;have ay:=u8.out;have bD:=ay.free 0;have k1:=ay.free 1;obtain⟨bE,bF⟩:=AX ay;have V:=Zh (bI _ a7 ((al.setCell (p:=⟨aq,0,none⟩) g8 (.int .u64 0)).setCell (p:=⟨aq,1,none⟩) g8 (.int .u64 0)));have J:=Se;clear ay;go_wp2;exact Ybu
       . have dx:=VT
         rw [if_neg ag] at au;have bV:k<n.kids.length:=by
          exact Xh
         obtain⟨B3,dP,dy,cK⟩:=A5 (F:=λ_=>False) aB.r3 (λ_ h=>h.elim)
         cases dy
         obtain⟨dQ,dR,rfl,dS,cL⟩:=cK.num bV;have dz:=cL w4 (Below.refl _ _);have cM:=cn.2.2.1 k bV;rw [show n.kids.getD k 0=n.kids[k] by simp [bV]] at au;obtain⟨bG,cN⟩: ∃bG,n.kids[k]=bG:=⟨_,rfl⟩;rw [cN] at dz cM au;have hrel:Hid (D=Cu R t key ak av (40-(i+1)) bG):=Zh (by rw [show 40-(i+1)=m by have:=cT.out;omega];exact au);clear cN cL au ag cK;go_wp2;go_roundw
         case rel=>exact⟨i+1,bG,by omega,cM,rfl,by go_num,hrel,cW⟩
         case measure=>simp [intOf];omega
    . rw [decide_eq_false he]
      have dA:=Zh he;clear he;have a7:Cu R t key ak av 40 x=(R,none):=(by rw [<-a8.out,bM.out];unfold Cu;exact if_pos dA.out);have ay:=bL.out;have bD:=ay.free 0;have k1:=ay.free 1;obtain⟨bE,bF⟩:=AX ay;have V:=Zh (bI _ a7 ((af.setCell (p:=⟨aq,0,none⟩) g8 (.int .u64 0)).setCell (p:=⟨aq,1,none⟩) g8 (.int .u64 0)));have J:=Se;clear ay a7;rw [a2.1] at bD k1 bE bF;go_wp2;rw [<-a2.1];exact Ybu
  . obtain rfl:i=40:=by omega
    have a7:Cu R t key ak av 40 x=(R,none):=(by rw [<-a8.out,hd.out];rfl);have ay:=aW.out;have bD:=ay.free 0;have k1:=ay.free 1;obtain⟨bE,bF⟩:=AX ay;have V:=Zh (bI _ a7 ((aI.setCell (p:=⟨aq,0,none⟩) g8 (.int .u64 0)).setCell (p:=⟨aq,1,none⟩) g8 (.int .u64 0)));have J:=Se;clear ay;go_wp2;exact Ybu
end
