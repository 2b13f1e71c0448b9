/- A part. -/
import Derived.Test.YtiopopoohglepaaGreatDoorVMxi
import Derived.Shelf.SlicesE.Delete
set_option linter.all false
set_option maxRecDepth 100000
set_option maxHeartbeats 8000000
namespace Go.Proofs.YtiopopoohglepaaGreatDoor
open Go.Proofs.Tryz
open Go.RowKit Go.Shelf Go.Sort
variable {B M bn c t:Nat}{F F':Nat->Prop}{W W' X X' w:World}{l:List Nat}{n:BN}{v:Value}
def Tryz.Qu:Go.Shelf.Ren:=⟨fun|45=>125|n=>n,fun|22=>46|23=>23|3=>3|4=>4|0=>0|n=>n,fun|n=>n⟩
theorem Tryz.Yg:Go.Proofs.SlLaysE.n45 Tryz.prog Tryz.Qu:={
 mixed:=by kernel_rfl
 f45:=⟨Tryz.f125.name,by decide,Tryz.func125.trans (congrArg some (by kernel_rfl))⟩
 t0:=Tryz.underlying0
 a0:=Tryz.isAgg0
 z0:=Tryz.sizeOf0
 v0:=Tryz.zeroValue0
 t3:=Tryz.underlying3
 a3:=Tryz.isAgg3
 z3:=Tryz.sizeOf3
 v3:=Tryz.zeroValue3
 t4:=Tryz.underlying4
 a4:=Tryz.isAgg4
 z4:=Tryz.sizeOf4
 v4:=Tryz.zeroValue4
 t22:=Tryz.underlying46
 a22:=Tryz.isAgg46
 z22:=Tryz.sizeOf46
 v22:=Tryz.zeroValue46
 a23:=Tryz.isAgg23
 z23:=Tryz.sizeOf23 }
theorem PW(w:World):(zeroValue 23).run prog w= .ok (.int .u64 0) w:=by kernel_rfl
theorem Rs(l:List Nat):AG l=(l.map (λz:Nat=>(z:Int))).map (Value.int .u64):=by
 unfold AG;rw [List.map_map];rfl
theorem Hi(J:w.ownsRow B 23 1 v l.length (AG l))(k:Nat)(O:k<l.length):
 Calls prog 125 #[v, .int .i64 k, .int .i64 ((k:Int)+1)] w (JF B w v.ownBlock (l.eraseIdx k)):=by
 obtain⟨i0,hi,aj,U,al⟩:=info_parts Tryz.CV;have V:v≠ .slice none 0 0:=by
  rintro rfl;rcases J.2 with ⟨_,am⟩|⟨g,cap,cur,h1,_⟩
  . omega
  . cases h1
 have d:=J;rw [Rs] at d;obtain⟨g,cap,rfl,hg,an,Z,hm,ao,aa⟩:=Lib.holds_of_ownsRow d V;have I:(l.map (λz:Nat=>(z:Int))).toArray.size=l.length:=by simp
 have h:=AnyE.slices_Delete Tryz.Yg (Value.int .u64) (λ_=>rfl) 0 PW i0 hi U g 0 cap k (k+1) _ w aa (by rw [I];exact Z) hm (by omega) (by rw [I];omega);rw [I,show k+1-k=1 by omega] at h;rw [show((k:Int)+1)=((k+1:Nat):Int) by omega];refine h.mono ?_;rintro e w' ⟨rfl,q,rfl⟩;have ab:(l.eraseIdx k).length=l.length-1:=by rw [List.length_eraseIdx,if_pos O]
 refine⟨_,rfl, ?_,⟨rfl,rfl,rfl,by simp [putRow,mapBlock,Sort.ahead],λj aq ac=> ?_⟩, .inl rfl⟩
 . have ae:((l.map (λz:Nat=>(z:Int))).take k++(l.map (λz:Nat=>(z:Int))).drop (k+1)++List.replicate 1 (0:Int)).length=l.length:=by simp;omega
   have af:=Lib.ownsRow_putRow (q:=q) (k:=l.length-1) d ae (by omega);rw [ab];have ag:((l.map (λz:Nat=>(z:Int))).take k++(l.map (λz:Nat=>(z:Int))).drop (k+1)).length=l.length-1:=(by simp;omega);have ah:AG (l.eraseIdx k)=(((l.map (λz:Nat=>(z:Int))).take k++(l.map (λz:Nat=>(z:Int))).drop (k+1)++List.replicate 1 (0:Int)).take (l.length-1)).map (Value.int .u64):=by
    rw [List.take_left' ag,Rs,List.eraseIdx_eq_take_drop_succ,List.map_append,List.map_take,List.map_drop]
   rw [ah];exact af
 . have ai:g≠j:=λe=>ac (by rw [e];rfl)
   simp [putRow,mapBlock,Sort.ahead,Array.getElem?_modify,ai]
def Ydy{P}(h:P:=by
 rw [I] at he;simp only at he ⊢;by_cases d:BN.Kg t ws
 . rw [if_pos d] at he;exact absurd rfl he
 . rw [if_neg d]):=h
theorem MO{s N nn:Nat}{R:Zr}(h:Rd N w s R nn)(O:BN.A1 t)(x:Nat):(Ag R t x).Ok/\(Ag R t x).keys.length<=40/\(Ag R t x).Ab.length<=40/\(Ag R t x).kids.length<=40:=by
 by_cases he:Bm R t x=0
 . obtain⟨⟨f1,f2,f3⟩,w1,w2,w3,w4⟩:=BR h O he
   have t2:=O.2;refine⟨⟨λz J=> ?_,λz J=> ?_,λz J=> ?_,w4⟩,by omega,by omega, ?_⟩
   . obtain⟨i,hi,rfl⟩:=List.getElem_of_mem J;exact w1 i hi
   . obtain⟨i,hi,rfl⟩:=List.getElem_of_mem J;exact w2 i hi
   . obtain⟨i,hi,rfl⟩:=List.getElem_of_mem J;exact w3 i hi
   . rcases f3 with d|⟨d,_⟩
     . rw [d];simp
     . omega
 . have J:Ag R t x=BN.zero:=by
    unfold Bm at he;unfold Ag
    cases I:R x with
    |none=>rfl
    |some ws=>
     exact Ydy
   rw [J];exact⟨⟨by simp [BN.zero],by simp [BN.zero],by simp [BN.zero],by simp [BN.zero]⟩,by simp [BN.zero],by simp [BN.zero],by simp [BN.zero]⟩
def DD(bn:Nat)(v:V3)(k:Nat):Prop:=k=bn\/BA v k
structure Dv(W:World)(F:Nat->Prop)(M bn:Nat)(n:BN)(v:V3):Prop where
 ge: ∀k,DD bn v k->M<=k
 box:An W bn 100 [v.1,v.2.1,v.2.2, .int .u64 n.size]
 own:AQ W 0 v.1 n.keys v.2.1 n.Ab v.2.2 n.kids
 ob: ¬BA v bn
 nF: ¬F bn
 off: ∀k,BA v k-> ¬F k
 ok:n.Ok
theorem Dv.below{v:V3}(h:Dv W F M bn n v)(d:Below W.heap.size W W'):Dv W' F M bn n v:={ h with box:=h.box.below d,own:=h.own.below d }
theorem Dv.Ar{v:V3}(h:Dv W F M bn n v)(I:Ad W F W' F'):Dv W' F' M bn n v:=
 { h with
   box:=h.box.Ar I h.nF
   own:=h.own.blocks λk d=>I.keep k (h.own.IC d).2 (h.off k d)
   nF:=I.not h.box.lt h.nF
   off:=λk d=>I.not (h.own.IC d).2 (h.off k d) }
theorem BZ{g:Nat}(h:W.ownsRow B 23 1 (.slice (some ⟨g,0,none⟩) l.length c) l.length (AG l)){j:Nat}(d:j<l.length):W.cell? ⟨g,j,none⟩=some (.int .u64 (l[j]:Nat)):=by
 have I:=h.cells (g:=g) rfl j _ (EK d)
 rwa [Addr.add_lit,Nat.zero_add] at I
theorem I9{A:Option Addr}(h:W.ownsRow B 23 1 (.slice A l.length c) l.length (AG l)):(A=none/\l= []/\c=0)\/ ∃b,A=some ⟨b,0,none⟩/\ ∀j u,(AG l)[j]? =some u->W.cell? ⟨b,j,none⟩=some u:=by
 rcases h.2 with ⟨h1,d⟩|⟨g,cap,cur,h1,_⟩
 . simp only [Value.slice.injEq] at h1
   exact .inl ⟨h1.1,List.eq_nil_of_length_eq_zero d,h1.2.2⟩
 . refine .inr ⟨g, ?_,λj u I=> ?_⟩
   . simp only [Value.slice.injEq] at h1
     exact h1.1
   . have J:=h.cells (g:=g) (by rw [h1];rfl) j u I
     rwa [Addr.add_lit,Nat.zero_add] at J
theorem Cf{i:Nat}(h:i<l.length):l.getD i 0=l[i]:=by simp [h]
section
variable {w':World} {s:Nat}  {R:Zr} {H:List Nat} {P q most last G:Nat}
def NO(w:World)(s:Nat)(F:Nat->Prop)(P q most last G M bn:Nat)(v:V3)(p:(Zr) × BN)(e:Ending)(w' :World):Prop:=
 ∃(F' :Nat->Prop) (H' :List Nat) (v' :V3),e= .returned (.tuple #[])/\Am w' s F' p.1 H' P q most last G/\Dv w' F' M bn p.2 v' /\Ad w (λk=>F k\/DD bn v k) w' (λk=>F' k\/DD bn v' k)
theorem AQ.Kv{v1 v2 v3:Value}{l1 l2 l3:List Nat}(h:AQ W B v1 l1 v2 l2 v3 l3)(I: ∀k,BA (v1,v2,v3) k-> ¬F k)(sz:Nat)(h1:l1.length<=1000)(af:l2.length<=1000)(ag:l3.length<=1000):CX W F (.agg #[v1,v2,v3, .int .u64 sz]) ⟨l1,l2,l3,sz⟩:=by
 have J: ∀(v:Value) (l:List Nat),W.ownsRow B 23 1 v l.length (AG l)->(∀k,v.ownBlock=some k-> ¬F k)-> ∃A c,v= .slice A l.length c/\AJ W F A (AG l):=λv l O U=>by
  obtain⟨A,c,rfl⟩:=Ae O;refine⟨A,c,rfl, ?_⟩;rcases I9 O with ⟨rfl,rfl,_⟩|⟨b,rfl,V⟩
  . exact .inl rfl
  . exact .inr ⟨b,0,rfl,(BM O rfl).2,U b rfl,λj u Z=>by rw [Nat.zero_add];exact V j u Z⟩
 obtain⟨aa,c1,rfl,k1⟩:=J v1 l1 h.r1 (λk d=>I k (.inl d));obtain⟨ab,c2,rfl,k2⟩:=J v2 l2 h.r2 (λk d=>I k (.inr (.inl d)));obtain⟨ac,c3,rfl,ae⟩:=J v3 l3 h.r3 (λk d=>I k (.inr (.inr d)));exact⟨⟨aa,c1,ab,c2,ac,c3,rfl,k1,k2,ae⟩,by show l1.length<=_;omega,by show l2.length<=_;omega,by show l3.length<=_;omega⟩
structure IB(w X:World)(n:BN)(v0 v:V3):Prop where
 T:Ad w (BA v0) X (BA v)
 own:AQ X 0 v.1 n.keys v.2.1 n.Ab v.2.2 n.kids
theorem IB.start{v:V3}(h:AQ w 0 v.1 n.keys v.2.1 n.Ab v.2.2 n.kids):IB w w n v v:=⟨Ad.refl _ _,h⟩
theorem IB.below{v0 v:V3}(h:IB w X n v0 v)(d:Below X.heap.size X X'):IB w X' n v0 v:=⟨h.T.trans (Ad.below d),h.own.below d⟩
theorem IB.Gh{v0 v:V3}(h:IB w X n v0 v): ∃Y:Au (BA v0) w,X=Y.W:=⟨⟨X,h.T.size,λk d I=>h.T.keep k d I⟩,rfl⟩
theorem Rw.Ar{v v' :V3}{r O :Option Nat}(hw:Rw X X' r O)(U: ∀k,r=some k->BA v k)(V: ∀k,BA v' k->BA v k\/O =some k):Ad X (BA v) X' (BA v'):=
 ⟨hw.1.os,hw.1.tape,hw.1.output,hw.1.size,λk I Z=>hw.1.block k I λe=>Z (U k e.symm),λk I=>by
  rcases V k I with d|d
  . exact .inl d
  . rcases hw.2 with J|J
    . exact .inl (U k (J.symm.trans d))
    . exact .inr (J k d)⟩
section
variable   {v0:V3} {v1 v2 v3 v':Value} 
theorem IB.ZL(h:IB w X n v0 (v1,v2,v3))(I:X'.ownsRow 0 23 1 v' l.length (AG l))(hw:Rw X X' v1.ownBlock v'.ownBlock):IB w X' ⟨l,n.Ab,n.kids,n.size⟩ v0 (v',v2,v3):=
 ⟨h.T.trans (hw.Ar (λk d=> .inl d) (λk d=>by
  rcases d with d|d|d
  . exact .inr d
  . exact .inl (.inr (.inl d))
  . exact .inl (.inr (.inr d)))),h.own.KZ I hw⟩
theorem IB.ZE(h:IB w X n v0 (v1,v2,v3))(I:X'.ownsRow 0 23 1 v' l.length (AG l))(hw:Rw X X' v2.ownBlock v'.ownBlock):IB w X' ⟨n.keys,l,n.kids,n.size⟩ v0 (v1,v',v3):=
 ⟨h.T.trans (hw.Ar (λk d=> .inr (.inl d)) (λk d=>by
  rcases d with d|d|d
  . exact .inl (.inl d)
  . exact .inr d
  . exact .inl (.inr (.inr d)))),h.own.ZK I hw⟩
theorem IB.AbC(h:IB w X n v0 (v1,v2,v3))(I:X'.ownsRow 0 23 1 v' l.length (AG l))(hw:Rw X X' v3.ownBlock v'.ownBlock):IB w X' ⟨n.keys,n.Ab,l,n.size⟩ v0 (v1,v2,v'):=
 ⟨h.T.trans (hw.Ar (λk d=> .inr (.inr d)) (λk d=>by
  rcases d with d|d|d
  . exact .inl (.inl d)
  . exact .inl (.inr (.inl d))
  . exact .inr d)),h.own.ZO I hw⟩
end
theorem JK{k:Nat}(h:W.ownsRow 0 23 1 v l.length (AG l))(d:l≠ [])(I:v.ownBlock=some k)(p:Option Addr):W.cell? ⟨k,0,none⟩≠some (.pointer p):=by
 obtain⟨g,c,rfl,_,_⟩:=Bj h d;obtain rfl:g=k:=by simpa [Value.ownBlock] using I
 rw [BZ h (List.length_pos_iff.2 d)];intro e
 cases e
theorem Dv.change{n':BN}{v v' :V3}(Z:Am X s F R H P q most last G)(J:Dv X F M bn n v)(ar:s<M)(au:1<M)(h1:n.keys≠ [])(ac:n.Ab≠ [])(U:n.kids≠ []\/(v'.2.2=v.2.2/\ ∀k,v.2.2.ownBlock=some k->X'.heap[k]? =X.heap[k]?))
 (O:Ad X (DD bn v) X' (DD bn v')) (ae:An X' bn 100 [v'.1,v'.2.1,v'.2.2, .int .u64 n'.size]) (af:AQ X' 0 v'.1 n'.keys v'.2.1 n'.Ab v'.2.2 n'.kids) (ag: ¬BA v' bn) (ah:n'.Ok):
 Am X' s F R H P q most last G/\Dv X' F M bn n' v' /\Ad X (λk=>F k\/DD bn v k) X' (λk=>F k\/DD bn v' k):=by
 have aw:M<=bn:=J.ge bn (.inl rfl);have ax:=J.box.lt;have hold: ∀k,DD bn v' k->DD bn v k\/X.heap.size<=k:=O.grow;have aa: ∀k,DD bn v k-> ¬F k:=λk d=>by
  rcases d with d|d
  . rw [d];exact J.nF
  . exact J.off k d
 have ai:KB (λk=>DD bn v k/\ ¬(n.kids= []/\v.2.2.ownBlock=some k)) X X' :=⟨O.size,λk o d _ aj=>by
  have al:=(Array.getElem?_eq_some_iff.1 d).1;by_cases I:DD bn v k
  . have V:n.kids= []/\v.2.2.ownBlock=some k:=by
     by_cases ab:n.kids= []/\v.2.2.ownBlock=some k
     . exact ab
     . exact absurd ⟨I,ab⟩ aj
    rcases U with U|⟨_,U⟩
    . exact absurd V.1 U
    . exact(U k V.2).trans d
  . exact(O.keep k al I).trans d⟩
 refine⟨Z.kb ai (λk d=>aa k d.1) (λd=>by have:=J.ge _ d.1;omega) (λk d p=> ?_) (λd=>by have:=J.ge _ d.1;omega),⟨λk d=> ?_,ae,af,ag,J.nF,λk d=> ?_,ah⟩,⟨O.os,O.tape,O.output,O.size,λk d am=>O.keep k d λI=>am (.inr I),λk d=> ?_⟩⟩
 . obtain⟨d,an⟩:=d
   rcases d with d|d|d|d
   . rw [d]
     obtain⟨ay,c1,ao⟩:=Ae J.own.r1;have:=J.box.at' (i:=0) rfl;rw [this,ao];intro e;cases e
   . exact JK J.own.r1 h1 d p
   . exact JK J.own.r2 ac d p
   . by_cases V:n.kids= []
     . exact absurd ⟨V,d⟩ an
     . exact JK J.own.r3 V d p
 . rcases hold k d with I|I
   . exact J.ge k I
   . omega
 . rcases hold k (.inr d) with I|I
   . exact aa k I
   . exact λaq=>by have:=Z.lt aq;omega
 . rcases d with d|d
   . exact .inl (.inl d)
   . rcases hold k d with I|I
     . exact .inl (.inr I)
     . exact .inr I
theorem Ad.or{w':World}(h:Ad w F w' F')(N:Nat->Prop):Ad w (λk=>F k\/N k) w' (λk=>F' k\/N k):=
 ⟨h.os,h.tape,h.output,h.size,λk d J=>h.keep k d λO=>J (.inl O),λk d=>by
  rcases d with d|d
  . rcases h.grow k d with I|I
    . exact .inl (.inl I)
    . exact .inr I
  . exact .inl (.inr d)⟩
theorem Ad.Adh{v0 v:V3}(h:Ad w (BA v0) X (BA v))(hs:X.heap.size=X'.heap.size)(J:X'.os=X.os/\X'.tape=X.tape/\X'.output=X.output)(d: ∀k,k≠bn->X'.heap[k]? =X.heap[k]?):Ad w (DD bn v0) X' (DD bn v):=
 ⟨J.1.trans h.os,J.2.1.trans h.tape,J.2.2.trans h.output,by rw [<-hs];exact h.size,λk U O=>(d k λe=>O (.inl e)).trans (h.keep k U λI=>O (.inr I)),λk d=>by
  rcases d with d|d
  . exact .inl (.inl d)
  . rcases h.grow k d with I|I
    . exact .inl (.inr I)
    . exact .inr I⟩
theorem IT(X:World)(b:Nat)(d I J:Value):X.heap.size=(((X.setCell ⟨b,0,none⟩ d).setCell ⟨b,1,none⟩ I).setCell ⟨b,2,none⟩ J).heap.size/\ ∀k,k≠b->(((X.setCell ⟨b,0,none⟩ d).setCell ⟨b,1,none⟩ I).setCell ⟨b,2,none⟩ J).heap[k]? =X.heap[k]? :=
 ⟨by simp [World.setCell],λk O=>((Below.heap_setCell _ ⟨b,2,none⟩ J k O).trans (Below.heap_setCell _ ⟨b,1,none⟩ I k O)).trans (Below.heap_setCell X ⟨b,0,none⟩ d k O)⟩
theorem HJ(h: ∀x∈l,x<18446744073709551616)(k:Nat): ∀x∈l.eraseIdx k,x<18446744073709551616:=λx hx=>h x (List.mem_of_mem_eraseIdx hx)
theorem M6(X:World)(x:Nat)(T:TypeId): ∀j u,(AG [x])[j]? =some u->(X.alloc (.cells #[.int .u64 x] T)).cell? ⟨X.heap.size,j,none⟩=some u:=λj u h=>(An.new X T [.int .u64 x]).at' h
end
section
variable {w':World} {s:Nat}  {R:Zr} {H:List Nat} {P q most last G:Nat}
def Yab{P}(h:P:=by
 iterate 17 (refine AB ?_;go_simp)
 clear ba bb a9 a8 x6;obtain⟨ay,ao⟩:=Zx aa.drew;rw [<-ao];have I:=Zh ((Way.start aa (Ag R t ah) (Ag R t al) z4 z4).below (by rw [ao];exact Ac aa):Way aa ay _ _ none none none none z4 z4);clear ao;refine G6 _ _ _ rfl rfl rfl (λK J=> ?_) (λK J=> ?_) (λK J=> ?_);go_wp2_with fail;refine(bj _ _ _ _ _ _ I).mono ?_;rintro e V ⟨ag,ai,aj,am,an,aq,rfl,d⟩;go_wp2;refine J _ _ (Af d.low) ?_;replace I:=Zh d;clear J K d;refine G6 _ _ _ rfl rfl rfl (λK J=> ?_) (λK J=> ?_) (λK J=> ?_);go_wp2_with fail;refine(a0 _ _ _ _ _ _ I).mono ?_;rintro e V ⟨B1,ab,B2,ac,B3,ae,rfl,d⟩;go_wp2;refine J _ _ (Af d.low) ?_;replace I:=Zh d;clear J K d;refine Be _ _ rfl rfl (λK J=> ?_) (λK J=> ?_);go_wp2;obtain⟨V,Z,O,U,d⟩:=I.Ko;rw [O,U];clear O U;refine J _ _ (Af d.low) ?_;replace I:=Zh d;clear J K d;refine Ao _ rfl (λK J=> ?_);go_wp2;obtain⟨V,af,O,U,d⟩:=I.K7;rw [O,U];clear O U;refine J _ _ (Af d.low) ?_;replace I:=Zh d;clear J K d
 rotate_left
 go_wp2;obtain⟨V,af,O,U,d⟩:=I.K7;rw [O,U];clear O U;refine J _ _ (Af d.low) ?_;replace I:=Zh d;clear J K d;refine Ao _ rfl (λK J=> ?_);go_wp2;obtain⟨V,Z,O,U,d⟩:=I.Ko;rw [O,U];clear O U;refine J _ _ (Af d.low) ?_;replace I:=Zh d;clear J K d
 rotate_left
 go_wp2;obtain⟨V,Z,O,U,d⟩:=I.Ko;rw [O,U];clear O U;refine J _ _ (Af d.low) ?_;replace I:=Zh d;clear J K d;refine Be _ _ rfl rfl (λK J=> ?_) (λK J=> ?_);go_wp2_with fail;refine(a0 _ _ _ _ _ _ I).mono ?_;rintro e V ⟨B1,ab,B2,ac,B3,ae,rfl,d⟩;go_wp2;refine J _ _ (Af d.low) ?_;replace I:=Zh d;clear J K d;refine Ao _ rfl (λK J=> ?_);go_wp2;obtain⟨V,af,O,U,d⟩:=I.K7;rw [O,U];clear O U;refine J _ _ (Af d.low) ?_;replace I:=Zh d;clear J K d
 rotate_left
 go_wp2;obtain⟨V,af,O,U,d⟩:=I.K7;rw [O,U];clear O U;refine J _ _ (Af d.low) ?_;replace I:=Zh d;clear J K d;refine Ao _ rfl (λK J=> ?_);go_wp2_with fail;refine(a0 _ _ _ _ _ _ I).mono ?_;rintro e V ⟨B1,ab,B2,ac,B3,ae,rfl,d⟩;go_wp2;refine J _ _ (Af d.low) ?_;replace I:=Zh d;clear J K d
 rotate_left
 go_wp2;obtain⟨V,af,O,U,d⟩:=I.K7;rw [O,U];clear O U;refine J _ _ (Af d.low) ?_;replace I:=Zh d;clear J K d;refine Be _ _ rfl rfl (λK J=> ?_) (λK J=> ?_);go_wp2_with fail;refine(a0 _ _ _ _ _ _ I).mono ?_;rintro e V ⟨B1,ab,B2,ac,B3,ae,rfl,d⟩;go_wp2;refine J _ _ (Af d.low) ?_;replace I:=Zh d;clear J K d;refine Ao _ rfl (λK J=> ?_);go_wp2;obtain⟨V,Z,O,U,d⟩:=I.Ko;rw [O,U];clear O U;refine J _ _ (Af d.low) ?_;replace I:=Zh d;clear J K d
 rotate_left
 go_wp2;obtain⟨V,Z,O,U,d⟩:=I.Ko;rw [O,U];clear O U;refine J _ _ (Af d.low) ?_;replace I:=Zh d;clear J K d;refine Ao _ rfl (λK J=> ?_);go_wp2_with fail;refine(a0 _ _ _ _ _ _ I).mono ?_;rintro e V ⟨B1,ab,B2,ac,B3,ae,rfl,d⟩;go_wp2;refine J _ _ (Af d.low) ?_;replace I:=Zh d;clear J K d
 rotate_left
 go_wp2;obtain⟨V,Z,O,U,d⟩:=I.Ko;rw [O,U];clear O U;refine J _ _ (Af d.low) ?_;replace I:=Zh d;clear J K d;refine Be _ _ rfl rfl (λK J=> ?_) (λK J=> ?_);go_wp2_with fail;refine(bj _ _ _ _ _ _ I).mono ?_;rintro e V ⟨ag,ai,aj,am,an,aq,rfl,d⟩;go_wp2;refine J _ _ (Af d.low) ?_;replace I:=Zh d;clear J K d;refine Be _ _ rfl rfl (λK J=> ?_) (λK J=> ?_);go_wp2_with fail;refine(a0 _ _ _ _ _ _ I).mono ?_;rintro e V ⟨B1,ab,B2,ac,B3,ae,rfl,d⟩;go_wp2;refine J _ _ (Af d.low) ?_;replace I:=Zh d;clear J K d;refine Ao _ rfl (λK J=> ?_);go_wp2;obtain⟨V,af,O,U,d⟩:=I.K7;rw [O,U];clear O U;refine J _ _ (Af d.low) ?_;replace I:=Zh d;clear J K d
 rotate_left
 go_wp2;obtain⟨V,af,O,U,d⟩:=I.K7;rw [O,U];clear O U;refine J _ _ (Af d.low) ?_;replace I:=Zh d;clear J K d;refine Ao _ rfl (λK J=> ?_);go_wp2_with fail;refine(a0 _ _ _ _ _ _ I).mono ?_;rintro e V ⟨B1,ab,B2,ac,B3,ae,rfl,d⟩;go_wp2;refine J _ _ (Af d.low) ?_;replace I:=Zh d;clear J K d
 rotate_left
 go_wp2;obtain⟨V,af,O,U,d⟩:=I.K7;rw [O,U];clear O U;refine J _ _ (Af d.low) ?_;replace I:=Zh d;clear J K d;refine Ao _ rfl (λK J=> ?_);go_wp2_with fail;refine(bj _ _ _ _ _ _ I).mono ?_;rintro e V ⟨ag,ai,aj,am,an,aq,rfl,d⟩;go_wp2;refine J _ _ (Af d.low) ?_;replace I:=Zh d;clear J K d;refine Ao _ rfl (λK J=> ?_);go_wp2_with fail;refine(a0 _ _ _ _ _ _ I).mono ?_;rintro e V ⟨B1,ab,B2,ac,B3,ae,rfl,d⟩;go_wp2;refine J _ _ (Af d.low) ?_;replace I:=Zh d;clear J K d
 rotate_left
 go_wp2;obtain⟨V,af,O,U,d⟩:=I.K7;rw [O,U];clear O U;refine J _ _ (Af d.low) ?_;replace I:=Zh d;clear J K d;refine Be _ _ rfl rfl (λK J=> ?_) (λK J=> ?_);go_wp2_with fail;refine(bj _ _ _ _ _ _ I).mono ?_;rintro e V ⟨ag,ai,aj,am,an,aq,rfl,d⟩;go_wp2;refine J _ _ (Af d.low) ?_;replace I:=Zh d;clear J K d;refine Be _ _ rfl rfl (λK J=> ?_) (λK J=> ?_);go_wp2_with fail;refine(a0 _ _ _ _ _ _ I).mono ?_;rintro e V ⟨B1,ab,B2,ac,B3,ae,rfl,d⟩;go_wp2;refine J _ _ (Af d.low) ?_;replace I:=Zh d;clear J K d;refine Ao _ rfl (λK J=> ?_);go_wp2;obtain⟨V,Z,O,U,d⟩:=I.Ko;rw [O,U];clear O U;refine J _ _ (Af d.low) ?_;replace I:=Zh d;clear J K d
 rotate_left
 go_wp2;obtain⟨V,Z,O,U,d⟩:=I.Ko;rw [O,U];clear O U;refine J _ _ (Af d.low) ?_;replace I:=Zh d;clear J K d;refine Ao _ rfl (λK J=> ?_);go_wp2_with fail;refine(a0 _ _ _ _ _ _ I).mono ?_;rintro e V ⟨B1,ab,B2,ac,B3,ae,rfl,d⟩;go_wp2;refine J _ _ (Af d.low) ?_;replace I:=Zh d;clear J K d
 rotate_left
 go_wp2;obtain⟨V,Z,O,U,d⟩:=I.Ko;rw [O,U];clear O U;refine J _ _ (Af d.low) ?_;replace I:=Zh d;clear J K d;refine Ao _ rfl (λK J=> ?_);go_wp2_with fail;refine(bj _ _ _ _ _ _ I).mono ?_;rintro e V ⟨ag,ai,aj,am,an,aq,rfl,d⟩;go_wp2;refine J _ _ (Af d.low) ?_;replace I:=Zh d;clear J K d;refine Ao _ rfl (λK J=> ?_);go_wp2_with fail;refine(a0 _ _ _ _ _ _ I).mono ?_;rintro e V ⟨B1,ab,B2,ac,B3,ae,rfl,d⟩;go_wp2;refine J _ _ (Af d.low) ?_;replace I:=Zh d;clear J K d
 rotate_left
 all_goals
  obtain⟨⟨z0,ar,z2,z3⟩,u0,u1,u2,u3⟩:=Cd (I.x6 _ rfl);have d:=I.AaU (.slice ag (Ag R t ah).keys.length ai) (.slice aj (Ag R t ah).Ab.length am) (.slice an (Ag R t ah).kids.length aq) (.int .u64 ((Ag R t ah).size:Nat));replace I:=Zh d;refine AA _ rfl (by decide) (λK J=> ?_);go_wp2;refine J _ _ ?_;clear J K z0 ar z2 z3 u0 u1 u2 u3 d;replace I:=I.out;obtain⟨aw,au⟩:=Zx ((((V.setCell ⟨Z,0,none⟩ (.slice ag (Ag R t ah).keys.length ai)).setCell ⟨Z,1,none⟩ (.slice aj (Ag R t ah).Ab.length am)).setCell ⟨Z,2,none⟩ (.slice an (Ag R t ah).kids.length aq)).setCell ⟨Z,3,none⟩ (.int .u64 ((Ag R t ah).size:Nat)));rw [<-au] at I ⊢;replace I:=Zh I;clear au;obtain⟨⟨z0,ar,z2,z3⟩,u0,u1,u2,u3⟩:=Cd (I.x7 _ rfl);have d:=I.Aa0 (.slice B1 (Ag R t al).keys.length ab) (.slice B2 (Ag R t al).Ab.length ac) (.slice B3 (Ag R t al).kids.length ae) (.int .u64 ((Ag R t al).size:Nat));replace I:=Zh d;refine AA _ rfl (by decide) (λK J=> ?_);go_wp2;refine J _ _ (AF ?_);clear J K z0 ar z2 z3 u0 u1 u2 u3 d;go_wp2_with fail;go_meet
  case rel=>exact⟨Z,af,ag,aj,an,B1,B2,B3,ai,am,aq,ab,ac,ae,rfl,rfl,I⟩):=h
def Ybb{P}(h:P:=by
 rintro e X' ⟨u1,u2,u3,rfl,d,I⟩;obtain⟨J,c1,rfl⟩:=Ae d.r1;obtain⟨O,c2,rfl⟩:=Ae d.r2;obtain⟨U,c3,rfl⟩:=Ae d.r3;exact⟨J,c1,O,c2,U,c3,rfl,h.Adk I d⟩):=h
def Ybc{P}(h:P:=by
 rintro e X' ⟨u1,u2,u3,rfl,d,I⟩;obtain⟨J,c1,rfl⟩:=Ae d.r1;obtain⟨O,c2,rfl⟩:=Ae d.r2;obtain⟨U,c3,rfl⟩:=Ae d.r3;exact⟨J,c1,O,c2,U,c3,rfl,h.Afd I d⟩):=h
def Yeq{P}(h:P:=by
 simp only [Cf ax,Cf aU,Cf aY,Cf bc]):=h
def X8{P}(h:P:=by
 have ba:=λX:Au (λ_=>False) aa=>X.cell aA (λh=>h)
 have bb:=λX:Au (λ_=>False) aa=>X.cell aD (λh=>h)
 exact And.intro ba bb):=h
def Ygx{P}(h:P:=by
 have a9:=λX:Au (λ_=>False) aa=>X.cell aN (λh=>h)
 have a8:=λX:Au (λ_=>False) aa=>X.cell bi (λh=>h)
 exact And.intro a9 a8):=h
def Ygy{P}(h:P:=by
 have d:=λX:Au (λ_=>False) aO=>X.cell br (λh=>h)
 have I:=λX:Au (λ_=>False) aO=>X.cell bk (λh=>h)
 exact And.intro d I):=h
def YZ{P}(h:P:=by
 have au:Below w.heap.size w aa:=by rw [a1];exact(Below.refl _ w).alloc (Nat.le_refl _) _
 exact au):=h
def Yhd{P}(h:P:=by
 have d:=λX:Au (λ_=>False) aO=>X.cell aI (λh=>h)
 exact d):=h
def ZU{P}(h:P:=by
 have x6:=λX:Au (λ_=>False) aa=>X.cell bh (λh=>h)
 have d:(0:Int)<=(k:Int)+1:=by omega
 have I:(k:Int)+1<(n.kids.length:Int):=by omega
 have J:IntKind.i64.wrap ((k:Int)+1)=(k:Int)+1:=by rw [IntKind.wrap_i64];omega
 have O:IntKind.i64.wrap ((k:Int)+1-1)=(k:Int):=by rw [IntKind.wrap_i64];omega
 exact And.intro x6 (And.intro d (And.intro I (And.intro J O)))):=h
def Z1{P}(h:P:=by
 have d:V.length<=100:=by rw [aK];simp;omega
 exact d):=h
def Z9{P}(h:P:=by
 have d:ag.length<=200:=by rw [a6];simp;omega
 have I:=Zh a6;exact And.intro d I):=h
def Ylm{P}(h:P:=by
 have aI :=am.cell ((aL.cell (Al bo.2)).trans bo.2) (bm.off _ (.inr (.inr rfl)));exact aI):=h
def Ylr{P}(h:P:=by
 have aU:k<n.Ab.length:=by omega
 have aY:k<n.kids.length:=by omega
 have bc:k+1<n.kids.length:=by omega
 exact And.intro aU (And.intro aY bc)):=h
def Ylv{P}(h:P:=by
 have d:=I.below (show Below wd.heap.size wd ay by rw [ao];exact Ac wd);exact d):=h
def Ylw{P}(h:P:=by
 have d:=I.below (show Below a4.heap.size a4 ay by rw [ao];exact Ac a4);exact d):=h
def Ymz{P}(h:P:=by
 have d:((k:Int)+1).toNat=k+1:=by omega
 have I:=Zh (And.intro a1 bs);exact And.intro d I):=h
def Yna{P}(h:P:=by
 have d:=Zh (And.intro aP (And.intro q1 aN));have I:=Zh (And.intro aA aD);exact And.intro d I):=h
def Ypf{P}(h:P:=by
 have ar:=MO bp ab ah;have aJ:=MO bp ab al;exact And.intro ar aJ):=h
def Ypv{P}(h:P:=by
 as_aux_lemma=>
 refine AD (λw' => ∃X:Au (λ_=>False) aa,w' =X.W) [21,22] (.r 0<| .r 1<| .r 2<| .r 3<| .r 4<| .r 5<| .r 6<| .r 7<| .r 9<| .r 10<| .r 11<| .r 12<| .r 13<| .r 14<| .r 15<| .r 16<| .r 17<| .three 8 (.three 18 (.two 19 (.a 20<| .a 21<| .a 22<| .nil) 20 (.a 19<| .a 21<| .a 22<| .nil)) 19 (.two 18 (.a 20<| .a 21<| .a 22<| .nil) 20 (.a 18<| .a 21<| .a 22<| .nil)) 20 (.two 18 (.a 19<| .a 21<| .a 22<| .nil) 19 (.a 18<| .a 21<| .a 22<| .nil))) 19 (.two 8 (.two 18 (.a 20<| .a 21<| .a 22<| .nil) 20 (.a 18<| .a 21<| .a 22<| .nil)) 20 (.a 8<| .a 18<| .a 21<| .a 22<| .nil)) 20 (.two 8 (.two 18 (.a 19<| .a 21<| .a 22<| .nil) 19 (.a 18<| .a 21<| .a 22<| .nil)) 19 (.a 8<| .a 18<| .a 21<| .a 22<| .nil))) (Ay _ _) ?_;exact Yab):=h
def Yqd{P}(h:P:=by
 have bj:Hid (∀(X:World) vb p q c6 c7,Way aa X (Ag R t ah) (Ag R t al) none vb p q c6 c7->Calls prog 72 #[.agg #[.pointer (some ⟨s,0,none⟩), .int .i64 t], .int .u64 ah] X λe X' => ∃d c1 I c2 J c3,e= .returned (.agg #[.slice d (Ag R t ah).keys.length c1, .slice I (Ag R t ah).Ab.length c2, .slice J (Ag R t ah).kids.length c3, .int .u64 ((Ag R t ah).size:Nat)])/\Way aa X' (Ag R t ah) (Ag R t al) (some (.slice d (Ag R t ah).keys.length c1, .slice I (Ag R t ah).Ab.length c2, .slice J (Ag R t ah).kids.length c3)) vb p q c6 c7):=Zh (λX vb p q c6 c7 h=>(bB ah aS X h.low).mono (by
  exact Ybb))
 have a0:Hid (∀(X:World) va p q c6 c7,Way aa X (Ag R t ah) (Ag R t al) va none p q c6 c7->Calls prog 72 #[.agg #[.pointer (some ⟨s,0,none⟩), .int .i64 t], .int .u64 al] X λe X' => ∃d c1 I c2 J c3,e= .returned (.agg #[.slice d (Ag R t al).keys.length c1, .slice I (Ag R t al).Ab.length c2, .slice J (Ag R t al).kids.length c3, .int .u64 ((Ag R t al).size:Nat)])/\Way aa X' (Ag R t ah) (Ag R t al) va (some (.slice d (Ag R t al).keys.length c1, .slice I (Ag R t al).Ab.length c2, .slice J (Ag R t al).kids.length c3)) p q c6 c7):=Zh (λX va p q c6 c7 h=>(bB al aT X h.low).mono (by
  exact Ybc))
 exact And.intro bj a0):=h
end
namespace L3
open Go Go.RowKit
variable {b0 b1:Bool}{i k:Nat}{l:List Nat}{v:Value}{w:World}
inductive Tr where
 |nil
 |r (i:Nat) (t:Tr)
 |s (i:Nat) (t:Tr)
 |m (i:Nat) (t:Tr)
 |a (k:Nat) (t:Tr)
section
variable {l0 l1:List Nat} {P:Program} {ops:Array Oper} {md:Region.Mode} {Q:Exit->Act->World->Prop} {C0 C1:World->Prop}
def alive(l:List Nat)(listed:Array Bool):Prop:= ∀k∈l,listed.getD k false=false
theorem Ph{listed:Array Bool}(h:alive l (listed.setIfInBounds i true)):alive l listed:=λk O=>by
 have d:=h k O
 cases I:listed.getD k false with
 |false=>rfl
 |true=>
  by_cases e:i=k
  . subst e
    have U:i<listed.size:=by
     rcases Nat.lt_or_ge i listed.size with J|J
     . exact J
     . rw [Array.getD,dif_neg (by omega)] at I;cases I
    simp [Array.getD,U] at d
  . rw [getD_set_ne false e,I] at d;cases d
theorem JN{listed:Array Bool}(h:alive l listed)(hi:i∉l):alive l (listed.setIfInBounds i true):=λk d=>by
 rw [getD_set_ne false (show i≠k from λe=>hi (by rw [e];exact d))];exact h k d
def QZ(md:Region.Mode)(ops:Array Oper)(k i:Nat):Bool:=M5 md ops 6 k i||(List.range ops.size).any λm=>M5 md ops 3 k m&&M5 md ops 6 m i
theorem S2{listed:Array Bool}(d:Jx md ops listed)(J: ∀o,ops[k]? =some o-> ∀e∈o.after,Region.binds md e=true->listed.getD e.on false=true)(h:QZ md ops k i=true):listed.getD i false=true:=by
 unfold QZ at h;rw [Bool.or_eq_true] at h;rcases h with h|h
 . exact E1 d 6 k i J h
 . obtain⟨m,_,I⟩:=List.any_eq_true.1 h
   rw [Bool.and_eq_true] at I;have O:=E1 d 3 k m J I.1;exact E1 d 6 m i (λo U=>d m o U O) I.2
def CE(P:Program)(md:Region.Mode)(ops:Array Oper)(Q:Exit->Act->World->Prop)(C0 C1:World->Prop)(l0 l1:List Nat):Nat->Array Bool->Act->World->Prop
 |0,listed,a,w=>Region.ready md ops listed= []/\Q .normal a w
 |f+1,listed,a,w=>
  (Region.ready md ops listed= []->Q .normal a w)/\
  ∀i∈Region.ready md ops listed,wpOp P ops Q i (λa' w' =>(alive l0 (listed.setIfInBounds i true)->C0 w')/\(alive l1 (listed.setIfInBounds i true)->C1 w')/\CE P md ops Q C0 C1 l0 l1 f (listed.setIfInBounds i true) a' w') a w
theorem CE.any: ∀(f:Nat) (listed:Array Bool) (a:Act) (w:World),CE P md ops Q C0 C1 l0 l1 f listed a w->wpAny P md ops Q f listed a w
 |0,_,_,_,h=>h
 |f+1,listed,a,w,h=>⟨h.1,λi hi=>wpOp_mono (λa' w' d =>CE.any f _ a' w' d.2.2) (h.2 i hi)⟩
def Yff{P}(h:P:=by
 subst d;exact J.op hi (O h0 h1 I) ⟨λh=>h0 (Ph h),λh=>h1 (Ph h),H⟩):=h
theorem D8{Cx:World->Prop}{lx:List Nat}{V:Oper}(hx:(Cx=C0/\lx=l0)\/(Cx=C1/\lx=l1)\/(Cx=(λ_=>True)/\lx= []))(au:i∉l0)(aw:i∉l1)(ax:lx.all (λk=>QZ md ops k i)=true)(hi:ops[i]? =some V)(af: ∀(j:Nat) (o:Oper) cs b,ops[j]? =some o->o.op≠ .select cs b)
 (ay: ∀c a w,Q (.panic c) (a.put V.dst v) w->Q (.panic c) a w):
 ∀(f:Nat) (listed:Array Bool) (a:Act) (w:World),
  (∀j Z,ops[j]? =some Z->j≠i->listed.getD j true=false->(∀e∈Z.after,Region.binds md e=true->e.on≠i)->V.apart ops Z=true)->
  i∈Region.ready md ops listed->Jx md ops listed->(alive l0 listed->C0 w)->(alive l1 listed->C1 w)->alive lx listed->BY P ops Cx V v a->
  CE P md ops Q C0 C1 l0 l1 f (listed.setIfInBounds i true) (a.put V.dst v) w->CE P md ops Q C0 C1 l0 l1 (f+1) listed a w:=by
 have O: ∀{listed:Array Bool} {w:World},(alive l0 listed->C0 w)->(alive l1 listed->C1 w)->alive lx listed->Cx w:=λh0 h1 h=>by
  rcases hx with ⟨U,ac⟩|⟨U,ac⟩|⟨U,ac⟩
  . rw [U];exact h0 (ac▸h)
  . rw [U];exact h1 (ac▸h)
  . rw [U];trivial
 intro f
 induction f with
 |zero=>
  intro listed a w _ aa hN h0 h1 I J H;refine⟨λh=>(by rw [h] at aa;cases aa),λj ab=> ?_⟩;by_cases d:j=i
  . exact Yff
  . have:=ready_mono ab d
    rw [H.1] at this
    cases this
 |succ f ih=>
  intro listed a w ag aa hN h0 h1 I J H;refine⟨λh=>(by rw [h] at aa;cases aa),λj ab=> ?_⟩;by_cases d:j=i
  . exact Yff
  . have az:=H.2 j (ready_mono ab d)
    obtain⟨ah,Z,ae,ai⟩:=mem_ready.1 ab;have aj:=(mem_ready.1 aa).1;have aA: ∀e∈Z.after,Region.binds md e=true->e.on≠i:=λe he aB heq=>by
     have h1:=ai e he aB;rw [heq,getD_both aj] at h1
     cases h1
    have aC:=H7 (C:=Cx) ae (ag j Z ae d ah aA) (λcs b=>af i V cs b hi) (λcs b=>af j Z cs b ae) ay J az
    have aD : ∀k ok,ops[k]? =some ok->k≠i->(listed.setIfInBounds j true).getD k true=false->
     (∀e∈ok.after,Region.binds md e=true->e.on≠i)->V.apart ops ok=true:=λk ok aE aF al aG=>by
     refine ag k ok aE aF ?_ aG;by_cases am:j=k
     . subst am;exact ah
     . rw [getD_set_ne true am] at al;exact al
    refine wpOp_mono (λa' w' aH=> ?_) aC;obtain⟨aI,g0,g1,an⟩:=aH;rw [Array.setIfInBounds_comm _ _ (Ne.symm d)] at g0 g1 an;have aJ:j∉lx:=λhm=>by
     have ao:=S2 hN (λo aq=>by rw [ae] at aq;cases aq;exact ai) (List.all_eq_true.1 ax j hm);rw [getD_both aj] at ao
     cases ao
    have ar:alive l0 (listed.setIfInBounds j true)->C0 w' :=(λh=>g0 (JN h au));have U:alive l1 (listed.setIfInBounds j true)->C1 w' :=(λh=>g1 (JN h aw));exact⟨ar,U,ih (listed.setIfInBounds j true) a' w' aD (ready_mono aa (Ne.symm d)) (hN.list ab) ar U (JN I aJ) aI an⟩
def Di(l:List Nat)(listed:Array Bool):Bool:=l.any λk=>listed.getD k false
theorem NB{listed:Array Bool}(h:Di l listed=false):alive l listed:=λk d=>by
 cases I:listed.getD k false with
 |false=>rfl
 |true=>
  have:Di l listed=true:=List.any_eq_true.2 ⟨k,d,I⟩;rw [h] at this;cases this
def BD(md:Region.Mode)(ops:Array Oper)(l0 l1:List Nat):Tr->Nat->Array Bool->Bool
 | .nil,n,listed=>decide (n=0)&&(Region.ready md ops listed).isEmpty
 | .r i t,n,listed=>match n with
   |0=>false
   |n+1=>(!l0.contains i&& !l1.contains i)&&(!Di l0 listed&&l0.all (λk=>QZ md ops k i))&&((Region.ready md ops listed).contains i&&Region.free md ops listed i)&&BD md ops l0 l1 t n (listed.setIfInBounds i true)
 | .s i t,n,listed=>match n with
   |0=>false
   |n+1=>(!l0.contains i&& !l1.contains i)&&(!Di l1 listed&&l1.all (λk=>QZ md ops k i))&&((Region.ready md ops listed).contains i&&Region.free md ops listed i)&&BD md ops l0 l1 t n (listed.setIfInBounds i true)
 | .m i t,n,listed=>match n with
   |0=>false
   |n+1=>(!l0.contains i&& !l1.contains i)&&((Region.ready md ops listed).contains i&&Region.free md ops listed i)&&BD md ops l0 l1 t n (listed.setIfInBounds i true)
 | .a k t,n,listed=>match n with
   |0=>false
   |n+1=>decide (Region.ready md ops listed= [k])&&BD md ops l0 l1 t n (listed.setIfInBounds k true)
def A0(P:Program)(ops:Array Oper)(Q:Exit->Act->World->Prop)(C0 C1:World->Prop)(l0 l1:List Nat):Tr->Bool->Bool->Act->World->Prop
 | .nil,_,_,a,w=>Q .normal a w
 | .r i t,b0,b1,a,w=> ∃o v,ops[i]? =some o/\BY P ops C0 o v a/\A0 P ops Q C0 C1 l0 l1 t b0 b1 (a.put o.dst v) w
 | .s i t,b0,b1,a,w=> ∃o v,ops[i]? =some o/\BY P ops C1 o v a/\A0 P ops Q C0 C1 l0 l1 t b0 b1 (a.put o.dst v) w
 | .m i t,b0,b1,a,w=> ∃o v,ops[i]? =some o/\BY P ops (λ_=>True) o v a/\A0 P ops Q C0 C1 l0 l1 t b0 b1 (a.put o.dst v) w
 | .a k t,b0,b1,a,w=> ∃o,ops[k]? =some o/\wpList P ops (Qr (λa' w' =>((b0||l0.contains k)=false->C0 w')/\((b1||l1.contains k)=false->C1 w')/\A0 P ops Q C0 C1 l0 l1 t (b0||l0.contains k) (b1||l1.contains k) a' w') Q) [o] a w
theorem AF{a:Act}(h:Q .normal a w):A0 P ops Q C0 C1 l0 l1 .nil b0 b1 a w:=h
theorem Et{s:Tr}{a:Act}(o:Oper)(v:Value)(hi:ops[i]? =some o)(h1:Region.wanted o (yielded ops a.tmps)=true)(d: ∀w,C0 w->(execOp a.eval o).run P w= .ok (.value v) w)(h:A0 P ops Q C0 C1 l0 l1 s b0 b1 (a.put o.dst v) w):A0 P ops Q C0 C1 l0 l1 (.r i s) b0 b1 a w:=⟨o,v,hi, .inl ⟨h1,d⟩,h⟩
theorem AB{s:Tr}{a:Act}{o:Oper}(h:A0 P ops Q C0 C1 l0 l1 s b0 b1 (a.put o.dst v) w)(hi:ops[i]? =some o:=by exact rfl)(h1:Region.wanted o (yielded ops a.tmps)=true:=by exact rfl)(d: ∀w,C0 w->(execOp a.eval o).run P w= .ok (.value v) w:=by rintro _ ⟨X,rfl⟩;go_simp;exact rfl):A0 P ops Q C0 C1 l0 l1 (.r i s) b0 b1 a w:=
 Et o v hi h1 d h
theorem EV{s:Tr}{a:Act}(o:Oper)(v:Value)(hi:ops[i]? =some o)(h1:Region.wanted o (yielded ops a.tmps)=true)(d: ∀w,C1 w->(execOp a.eval o).run P w= .ok (.value v) w)(h:A0 P ops Q C0 C1 l0 l1 s b0 b1 (a.put o.dst v) w):A0 P ops Q C0 C1 l0 l1 (.s i s) b0 b1 a w:=⟨o,v,hi, .inl ⟨h1,d⟩,h⟩
theorem EY{s:Tr}{a:Act}(o:Oper)(v:Value)(hi:ops[i]? =some o)(h1:Region.wanted o (yielded ops a.tmps)=true)(d: ∀w,(execOp a.eval o).run P w= .ok (.value v) w)(h:A0 P ops Q C0 C1 l0 l1 s b0 b1 (a.put o.dst v) w):A0 P ops Q C0 C1 l0 l1 (.m i s) b0 b1 a w:=⟨o,v,hi, .inl ⟨h1,λw _=>d w⟩,h⟩
theorem Ao{s:Tr}{a:Act}(o:Oper)(d:ops[k]? =some o)(h: ∀K:Act->World->Prop,(∀a' w',((b0||l0.contains k)=false->C0 w')->((b1||l1.contains k)=false->C1 w')->A0 P ops Q C0 C1 l0 l1 s (b0||l0.contains k) (b1||l1.contains k) a' w' ->K a' w')->wpList P ops (Qr K Q) [o] a w):A0 P ops Q C0 C1 l0 l1 (.a k s) b0 b1 a w:=
 ⟨o,d,h _ λ_ _ h1 I J=>⟨h1,I,J⟩⟩
theorem DL{listed:Array Bool}(d:k<listed.size):Di l (listed.setIfInBounds k true)=(Di l listed||l.contains k):=by
 unfold Di
 induction l with
 |nil=>simp
 |cons x l ih=>
  simp only [List.any_cons,List.contains_cons,ih];by_cases e:k=x
  . subst e
    have:(listed.setIfInBounds k true).getD k false=true:=(by simp [Array.getD,d]);rw [this];simp
  . rw [getD_set_ne false e]
    have:(k==x)=false:=(by simp [e]);rw [this]
    cases listed.getD x false<;>simp
theorem Bd(aa:Region.noSelect ops=true)(ab: ∀c a d v w,Q (.panic c) (Act.put a d v) w->Q (.panic c) a w):
 ∀(s:Tr) (n:Nat) (b0 b1:Bool) (listed:Array Bool) (a:Act) (w:World),listed.size=ops.size->b0=Di l0 listed->b1=Di l1 listed->(b0=false->C0 w)->(b1=false->C1 w)->Jx md ops listed->BD md ops l0 l1 s n listed=true->A0 P ops Q C0 C1 l0 l1 s b0 b1 a w->CE P md ops Q C0 C1 l0 l1 n listed a w
 | .nil,n,b0,b1,listed,a,w,_,_,_,_,_,hN,I,h=>by
   simp only [BD,Bool.and_eq_true,decide_eq_true_eq] at I;obtain⟨rfl,I⟩:=I;exact⟨by simpa using I,h⟩
 | .r i s,0,b0,b1,listed,a,w,_,_,_,_,_,hN,I,h=>by simp [BD] at I
 | .r i s,n+1,b0,b1,listed,a,w,hs,e0,e1,h0,h1,hN,I,h=>by
   obtain⟨o,v,O,ac,ae⟩:=h;simp only [BD,Bool.and_eq_true,Bool.not_eq_true'] at I;obtain⟨⟨⟨hi,hd,al⟩,Z,af⟩,ag⟩:=I;have ah:i∉l0:=(by simpa using hi.1);have ai:i∉l1:=(by simpa using hi.2);have U:i<listed.size:=(by rw [hs];exact(Array.getElem?_eq_some_iff.1 O).1);have c0:l0.contains i=false:=hi.1;have c1:l1.contains i=false:=hi.2;exact D8 (.inl ⟨rfl,rfl⟩) ah ai al O (Region.noSelect_spec aa) (λc a w h=>ab c a _ _ w h) n listed a w (Region.free_spec O af) (by simpa using Z) hN (λ_=>h0 (by rw [e0];exact hd)) (λha=>h1 (by
    rw [e1]
    cases J:Di l1 listed with
    |false=>rfl
    |true=>
     obtain⟨k,V,J⟩:=List.any_eq_true.1 J;rw [ha k V] at J;cases J)) (NB hd) ac
    (Bd aa ab s n b0 b1 _ _ w (by simpa using hs) (by rw [DL U,c0,Bool.or_false];exact e0) (by rw [DL U,c1,Bool.or_false];exact e1) h0 h1 (hN.list (by simpa using Z)) ag ae)
 | .s i s,0,b0,b1,listed,a,w,_,_,_,_,_,hN,I,h=>by simp [BD] at I
 | .s i s,n+1,b0,b1,listed,a,w,hs,e0,e1,h0,h1,hN,I,h=>by
   obtain⟨o,v,O,ac,ae⟩:=h;simp only [BD,Bool.and_eq_true,Bool.not_eq_true'] at I;obtain⟨⟨⟨hi,hd,al⟩,Z,af⟩,ag⟩:=I;have ah:i∉l0:=(by simpa using hi.1);have ai:i∉l1:=(by simpa using hi.2);have U:i<listed.size:=(by rw [hs];exact(Array.getElem?_eq_some_iff.1 O).1);have c0:l0.contains i=false:=hi.1;have c1:l1.contains i=false:=hi.2;exact D8 (.inr (.inl ⟨rfl,rfl⟩)) ah ai al O (Region.noSelect_spec aa) (λc a w h=>ab c a _ _ w h) n listed a w (Region.free_spec O af) (by simpa using Z) hN (λha=>h0 (by
    rw [e0]
    cases J:Di l0 listed with
    |false=>rfl
    |true=>
     obtain⟨k,V,J⟩:=List.any_eq_true.1 J;rw [ha k V] at J;cases J)) (λ_=>h1 (by rw [e1];exact hd)) (NB hd) ac
    (Bd aa ab s n b0 b1 _ _ w (by simpa using hs) (by rw [DL U,c0,Bool.or_false];exact e0) (by rw [DL U,c1,Bool.or_false];exact e1) h0 h1 (hN.list (by simpa using Z)) ag ae)
 | .m i s,0,b0,b1,listed,a,w,_,_,_,_,_,hN,I,h=>by simp [BD] at I
 | .m i s,n+1,b0,b1,listed,a,w,hs,e0,e1,h0,h1,hN,I,h=>by
   obtain⟨o,v,O,ac,ae⟩:=h;simp only [BD,Bool.and_eq_true,Bool.not_eq_true'] at I;obtain⟨⟨hi,Z,af⟩,ag⟩:=I;have ah:i∉l0:=(by simpa using hi.1);have ai:i∉l1:=(by simpa using hi.2);have U:i<listed.size:=(by rw [hs];exact(Array.getElem?_eq_some_iff.1 O).1);have c0:l0.contains i=false:=hi.1;have c1:l1.contains i=false:=hi.2;have aj: ∀{l:List Nat} {b:Bool},b=Di l listed->alive l listed->b=false:=λe ha=>by
    rw [e]
    cases J:Di _ listed with
    |false=>rfl
    |true=>
     obtain⟨k,V,J⟩:=List.any_eq_true.1 J;rw [ha k V] at J;cases J
   exact D8 (Cx:=λ_=>True) (lx:= []) (.inr (.inr ⟨rfl,rfl⟩)) ah ai rfl O (Region.noSelect_spec aa) (λc a w h=>ab c a _ _ w h) n listed a w (Region.free_spec O af) (by simpa using Z) hN (λha=>h0 (aj e0 ha)) (λha=>h1 (aj e1 ha)) (λk V=>by cases V) ac
    (Bd aa ab s n b0 b1 _ _ w (by simpa using hs) (by rw [DL U,c0,Bool.or_false];exact e0) (by rw [DL U,c1,Bool.or_false];exact e1) h0 h1 (hN.list (by simpa using Z)) ag ae)
 | .a k s,0,b0,b1,listed,a,w,_,_,_,_,_,hN,I,h=>by simp [BD] at I
 | .a k s,n+1,b0,b1,listed,a,w,hs,e0,e1,h0,h1,hN,I,h=>by
   obtain⟨o,O,h⟩:=h;simp only [BD,Bool.and_eq_true,decide_eq_true_eq] at I;have U:k<listed.size:=(by rw [hs];exact(Array.getElem?_eq_some_iff.1 O).1);refine⟨λh1=>(by rw [I.1] at h1;cases h1),λi hi=> ?_⟩;rw [I.1] at hi;obtain rfl:i=k:=by simpa using hi
   have d0:(b0||l0.contains i)=Di l0 (listed.setIfInBounds i true):=(by rw [DL U,e0]);have d1:(b1||l1.contains i)=Di l1 (listed.setIfInBounds i true):=(by rw [DL U,e1]);have aj: ∀{l:List Nat} {b:Bool},b=Di l (listed.setIfInBounds i true)->alive l (listed.setIfInBounds i true)->b=false:=λe ha=>by
    rw [e]
    cases J:Di _ (listed.setIfInBounds i true) with
    |false=>rfl
    |true=>
     obtain⟨k,V,J⟩:=List.any_eq_true.1 J;rw [ha k V] at J;cases J
   exact wpOp_mono (λa' w' ⟨g0,g1,am⟩=>⟨λha=>g0 (aj d0 ha),λha=>g1 (aj d1 ha),Bd aa ab s n _ _ _ a' w' (by simpa using hs) d0 d1 g0 g1 (hN.list (by rw [I.1];simp)) I.2 am⟩) (De O h)
theorem Gk{id:Nat}{a:Act}{l:List Oper}(C0 C1:World->Prop)(l0 l1:List Nat)(s:Tr)(hm:P.follows .mixedOrders=true)(I:Region.noSelect l.toArray=true)
 (J:BD .any l.toArray l0 l1 s l.length (Array.replicate l.toArray.size false)=true) (h0:C0 { w with drawn:=w.drawn+1 }) (h1:C1 { w with drawn:=w.drawn+1 }) (O: ∀c a d v w,Q (.panic c) (Act.put a d v) w->Q (.panic c) a w)
 (h:A0 P l.toArray Q C0 C1 l0 l1 s false false a { w with drawn:=w.drawn+1 }):(Code.region id l.toArray true).wp P Q a w:=by
 refine wp_region_any hm (CE.any (C0:=C0) (C1:=C1) (l0:=l0) (l1:=l1) _ _ _ _ ?_);have hd: ∀l' :List Nat,false=Di l' (Array.replicate l.toArray.size false):=λl' =>by
  unfold Di
  symm
  rw [List.any_eq_false];intro k _;simp [Array.getD]
 have:=Bd (md:= .any) (l0:=l0) (l1:=l1) I O s l.length false false (Array.replicate l.toArray.size false) a _ (by simp) (hd l0) (hd l1) (λ_=>h0) (λ_=>h1) (λm o U hm=>by have V:=(Array.getElem?_eq_some_iff.1 U).1;simp [Array.getD] at hm) J h
 simpa using this
end
end L3
variable {A:Option Addr}{B F:Nat->Prop}{W X X' w:World}{ad:Addr}{g k x:Nat}{l:List Nat}{v3:Value}
theorem Fg{B:Nat}{c:Nat}(h:W.ownsRow B 23 1 (.slice A l.length c) l.length (AG l)):AJ W (λ_=>False) A (AG l):=by
 rcases I9 h with ⟨rfl,rfl,_⟩|⟨b,rfl,d⟩
 . exact .inl rfl
 . exact .inr ⟨b,0,rfl,(BM h rfl).2,λh=>h,λj u I=>by rw [Nat.zero_add];exact d j u I⟩
theorem AJ.TP{b o:Nat}(h:AJ w F (some ⟨b,o,none⟩) (AG l))(k:Nat):AJ w F (some ⟨b,o+k,none⟩) (AG (l.drop k)):=by
 rcases h with h|⟨b',O,h1,d,I,J⟩
 . exact Ycm
 . simp only [Option.some.injEq,Addr.mk.injEq,and_true] at h1
   obtain⟨rfl,rfl⟩:=h1;refine .inr ⟨b,o+k,rfl,d,I,λj u hu=> ?_⟩;rw [Nat.add_assoc];refine J (k+j) u ?_;have e:AG (l.drop k)=(AG l).drop k:=(by unfold AG;rw [List.map_drop]);rw [e,List.getElem?_drop] at hu;exact hu
theorem QW(w:World)(g c len l2:Nat)(d:len<=c)(I:1<len)(J:l2=len-1):(Instr.slice 46 (.slice (some ⟨g,0,none⟩) len c) (some (.int .i64 1)) none none).run prog w= .ok (.slice (some ⟨g,1,none⟩) l2 (c-1)) w:=by
 have h:=U1 w g c len 0 l2 (by omega) d (by omega) (by omega)
 simpa using h
theorem AJ.off{vs:List Value}(h:AJ W (λ_=>False) A vs)(d: ∀b o,A=some ⟨b,o,none⟩-> ¬F b):AJ W F A vs:=by
 rcases h with h|⟨b,o,h1,I,O,J⟩
 . exact .inl h
 . exact .inr ⟨b,o,h1,I,d b o h1,J⟩
theorem KK(h: ∀x∈l,x<18446744073709551616)(k:Nat): ∀x∈l.drop k,x<18446744073709551616:=λx hx=>h x (List.mem_of_mem_drop hx)
theorem I4(h: ∀x∈l,x<18446744073709551616)(k:Nat): ∀x∈l.take k,x<18446744073709551616:=λx hx=>h x (List.mem_of_mem_take hx)
theorem Jq{m:List Nat}(h: ∀x∈l,x<18446744073709551616)(d: ∀x∈m,x<18446744073709551616): ∀x∈l++m,x<18446744073709551616:=λx hx=>(List.mem_append.1 hx).elim (h x) (d x)
theorem MM(h:x<18446744073709551616): ∀z∈ [x],z<18446744073709551616:=λz d=>by rw [List.mem_singleton.1 d];exact h
theorem setCell_eq{v:Value}(h:X.heap[k]? =w.heap[k]?):(X.setCell ad v).heap[k]? =(w.setCell ad v).heap[k]? :=by
 simp [World.setCell,Array.getElem?_modify,h]
section
variable  {a b:BN} {va vb:Option V3} {p q:Option Nat} {c6 c7:List Value}
theorem Way.base(h:Way w X a b va vb p q c6 c7)(J:ad.block<w.heap.size)(v:Value):Way (w.setCell ad v) (X.setCell ad v) a b va vb p q c6 c7:=by
 have hs: ∀W:World,(W.setCell ad v).heap.size=W.heap.size:=λW=>by simp [World.setCell]
 have I: ∀k,w.heap.size<=k->(X.setCell ad v).heap[k]? =X.heap[k]? :=λk d=>Below.heap_setCell X ad v k (by omega)
 refine⟨⟨h.low.os,h.low.tape,h.low.output,by rw [hs,hs];exact h.low.size,λk d=>setCell_eq (h.low.block k (by rwa [hs] at d))⟩,by rw [hs,hs];exact h.BS,λu hu=>(h.ra u hu).blocks λk d=>I k (h.BS.ge 0 k ⟨u,hu,d⟩),λu hu=>(h.rb u hu).blocks λk d=>I k (h.BS.ge 1 k ⟨u,hu,d⟩),λk d=>(h.x6 k d).block (I k (h.BS.ge 2 k d)),λk d=>(h.x7 k d).block (I k (h.BS.ge 3 k d))⟩
end
section
variable {s:Nat}  {R:Zr} {H:List Nat} {P q most last G:Nat}
theorem Dv.put{n:BN}{M bn d I V Z:Nat}(ae:Am X s F R H P q most last G)(J:Dv X F M bn n (.slice (some ⟨d,0,none⟩) n.keys.length V, .slice (some ⟨I,0,none⟩) n.Ab.length Z,v3))(af:s<M)(ag:1<M){y:Nat}(aa:k<n.keys.length)(ab:k<n.Ab.length)(hx:x<18446744073709551616)(ah:y<18446744073709551616):
 Am ((X.setCell ⟨d,k,none⟩ (.int .u64 x)).setCell ⟨I,k,none⟩ (.int .u64 y)) s F R H P q most last G/\Dv ((X.setCell ⟨d,k,none⟩ (.int .u64 x)).setCell ⟨I,k,none⟩ (.int .u64 y)) F M bn (n.Dg k x y) (.slice (some ⟨d,0,none⟩) n.keys.length V, .slice (some ⟨I,0,none⟩) n.Ab.length Z,v3)/\Ad X (λz=>F z\/DD bn (.slice (some ⟨d,0,none⟩) n.keys.length V, .slice (some ⟨I,0,none⟩) n.Ab.length Z,v3) z) ((X.setCell ⟨d,k,none⟩ (.int .u64 x)).setCell ⟨I,k,none⟩ (.int .u64 y)) (λz=>F z\/DD bn (.slice (some ⟨d,0,none⟩) n.keys.length V, .slice (some ⟨I,0,none⟩) n.Ab.length Z,v3) z):=by
 have hs: ∀(W:World) (ad:Addr) (v:Value),(W.setCell ad v).heap.size=W.heap.size:=λW ad v=>by simp [World.setCell]
 have ai:bn≠d:=λe=>J.ob (by rw [e];exact .inl rfl)
 have aj:bn≠I:=λe=>J.ob (by rw [e];exact .inr (.inl rfl))
 refine Dv.change ae J af ag (λe=>by rw [e] at aa;simp at aa) (λe=>by rw [e] at ab;simp at ab) (.inr ⟨rfl,λz O=> ?_⟩) ⟨rfl,rfl,rfl,by rw [hs,hs];exact Nat.le_refl _,λz O ac=> ?_,λz O=> .inl O⟩ ((J.box.other (p:=⟨d,k,none⟩) ai _).other (p:=⟨I,k,none⟩) aj _) ((J.own.X9 k x).ZH k y) J.ob ⟨λz O=> ?_,λz O=> ?_,J.ok.kids,J.ok.size⟩
 . rw [Below.heap_setCell _ ⟨I,k,none⟩ _ z (λe=>J.own.a23 I rfl (by rw [<-(show z=I from e)];exact O)),Below.heap_setCell _ ⟨d,k,none⟩ _ z (λe=>J.own.Oq d rfl (by rw [<-(show z=d from e)];exact O))]
 . rw [Below.heap_setCell _ ⟨I,k,none⟩ _ z (λe=>ac (by rw [e];exact .inr (.inr (.inl rfl)))),Below.heap_setCell _ ⟨d,k,none⟩ _ z (λe=>ac (by rw [e];exact .inr (.inl rfl)))]
 . rcases List.mem_or_eq_of_mem_set O with U|U
   . exact J.ok.keys z U
   . rw [U];exact hx
 . rcases List.mem_or_eq_of_mem_set O with U|U
   . exact J.ok.Ab z U
   . rw [U];exact ah
end
theorem JT{R:Zr}{t:Nat}(J:BN.A1 t)(x:Nat):(Ag R t x).Ab.length=(Ag R t x).keys.length/\((Ag R t x).kids= []\/(Ag R t x).kids.length=(Ag R t x).keys.length+1):=by
 by_cases he:Bm R t x=0
 . obtain⟨-,f1,f2,f3⟩:=(Py J).1 he
   exact⟨f2,f3.imp id And.left⟩
 . have O:Ag R t x=BN.zero:=by
    unfold Bm at he;unfold Ag
    cases I:R x with
    |none=>rfl
    |some ws=>
     exact Ydy
   rw [O];exact⟨rfl, .inl rfl⟩
structure Tmp(X:World)(va:V3)(g x:Nat):Prop where
 N: ∀j u,(AG [x])[j]? =some u->X.cell? ⟨g,j,none⟩=some u
 lt:g<X.heap.size
 off: ¬BA va g
theorem Tmp.below{va:V3}(h:Tmp X va g x)(d:Below X.heap.size X X'):Tmp X' va g x:=⟨λj u I=>(d.cell (p:=⟨g,j,none⟩) h.lt).trans (h.N j u I),Nat.lt_of_lt_of_le h.lt d.size,h.off⟩
def Ydi{P}(h:P:=by
 rcases I g J with O|O
 . exact h.off O
 . rcases hw.2 with U|U
   . exact d (U.symm.trans O)
   . have:=U g O;have:=h.lt;omega):=h
theorem Tmp.rw{va va' :V3}{r O :Option Nat}(h:Tmp X va g x)(hw:Rw X X' r O)(U: ∀k,r=some k->BA va k)(I: ∀k,BA va' k->BA va k\/O =some k):Tmp X' va' g x:=by
 have d:r≠some g:=λe=>h.off (U g e)
 have V:X'.heap[g]? =X.heap[g]? :=hw.1.block g h.lt (λe=>d e.symm);refine⟨λj u Z=>(World.cell?_of_block (a:=⟨g,j,none⟩) V).trans (h.N j u Z),Nat.lt_of_lt_of_le h.lt hw.1.size,λJ=> ?_⟩;exact Ydi
theorem Tmp.Yd{v1 v2 v':Value}(h:Tmp X (v1,v2,v3) g x)(hw:Rw X X' v1.ownBlock v'.ownBlock):Tmp X' (v',v2,v3) g x:=h.rw hw (λk d=> .inl d) (λk d=>by
 rcases d with d|d|d
 . exact .inr d
 . exact .inl (.inr (.inl d))
 . exact .inl (.inr (.inr d)))
def Yoa{P}(h:P:=by
 have d:=(Below.refl X.heap.size X).alloc (Nat.le_refl _) (Obj.cells #[.int .u64 x] 23);exact d):=h
theorem Way.tmp{a b:BN}{va vb:V3}{p q:Nat}{c6 c7:List Value}(h:Way w X a b (some va) (some vb) (some p) (some q) c6 c7)(x:Nat): ∃X' g,X.alloc (Obj.cells #[.int .u64 x] 23)=X' /\X.heap.size=g/\Way w X' a b (some va) (some vb) (some p) (some q) c6 c7/\Tmp X' va g x/\Below X.heap.size X X' :=by
 have d:=Yoa;exact⟨_,_,rfl,rfl,h.below d,⟨M6 X x _,by simp,λI=>by have:=h.BS.lt 0 _ ⟨va,rfl,I⟩;omega⟩,d⟩
theorem take_one(h:0<l.length): [l[0]]=l.take 1:=by
 cases l with
 |nil=>simp at h
 |cons z l=>simp
theorem Ll{B':Nat->Prop}(h: ∃Y:Au B w,X=Y.W)(d: ∀z,B z->B' z): ∃Y:Au B' w,X=Y.W:=by
 obtain⟨⟨W,hs,I⟩,e⟩:=h;have e:X=W:=e;rw [e];exact⟨⟨W,hs,λk J O=>I k J λU=>O (d k U)⟩,rfl⟩
theorem YF{r J :Option Nat}(h: ∃Y:Au B w,X=Y.W)(hw:Rw X X' r J)(O: ∀k,r=some k->B k): ∃Y:Au B w,X' =Y.W:=by
 obtain⟨⟨W,hs,U⟩,e⟩:=h;have e:X=W:=e;rw [e] at hw;exact⟨⟨X',Nat.le_trans hs hw.1.size,λk d I=>(hw.1.block k (Nat.lt_of_lt_of_le d hs) λe=>I (O k e.symm)).trans (U k d I)⟩,rfl⟩
