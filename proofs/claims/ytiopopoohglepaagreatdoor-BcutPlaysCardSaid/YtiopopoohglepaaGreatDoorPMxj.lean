/- A part. -/
import Derived.Test.YtiopopoohglepaaGreatDoorPMxi
import Derived.Shelf.SlicesE.Delete
set_option linter.all false
set_option maxRecDepth 100000
set_option maxHeartbeats 8000000
namespace Go.Proofs.YtiopopoohglepaaGreatDoor
open Go.Proofs.Tryz
open Go.RowKit Go.Shelf Go.Sort
variable {B M bn c t:Nat}{F F':Nat->Prop}{W W' X X' w:World}{l:List Nat}{n:BN}{v:Value}
def Tryz.QB:Go.Shelf.Ren:=⟨fun|45=>125|n=>n,fun|22=>46|23=>23|3=>3|4=>4|0=>0|n=>n,fun|n=>n⟩
theorem Tryz.YG:Go.Proofs.SlLaysE.n45 Tryz.prog Tryz.QB:={
 mixed:=by kernel_rfl
 f45:=⟨Tryz.f125.name,by decide,Tryz.func125.trans (congrArg some (by kernel_rfl))⟩
 t0:=Tryz.underlying0
 a0:=Tryz.isAgg0
 z0:=Tryz.sizeOf0
 v0:=Tryz.zeroValue0
 t3:=Tryz.underlying3
 a3:=Tryz.isAgg3
 z3:=Tryz.sizeOf3
 v3:=Tryz.zeroValue3
 t4:=Tryz.underlying4
 a4:=Tryz.isAgg4
 z4:=Tryz.sizeOf4
 v4:=Tryz.zeroValue4
 t22:=Tryz.underlying46
 a22:=Tryz.isAgg46
 z22:=Tryz.sizeOf46
 v22:=Tryz.zeroValue46
 a23:=Tryz.isAgg23
 z23:=Tryz.sizeOf23 }
theorem P3(w:World):(zeroValue 23).run prog w= .ok (.int .u64 0) w:=by kernel_rfl
theorem RG(l:List Nat):AF l=(l.map (λz:Nat=>(z:Int))).map (Value.int .u64):=by
 unfold AF;rw [List.map_map];rfl
theorem He(O:w.ownsRow B 23 1 v l.length (AF l))(k:Nat)(U:k<l.length):
 Calls prog 125 #[v, .int .i64 k, .int .i64 ((k:Int)+1)] w (JD B w v.ownBlock (l.eraseIdx k)):=by
 obtain⟨i0,hi,al,V,am⟩:=info_parts Tryz.CZ;have Z:v≠ .slice none 0 0:=by
  rintro rfl;rcases O.2 with ⟨_,an⟩|⟨g,cap,cur,h1,_⟩
  . omega
  . cases h1
 have I:=O;rw [RG] at I;obtain⟨g,cap,rfl,hg,ao,aa,hm,aq,ab⟩:=Lib.holds_of_ownsRow I Z;have J:(l.map (λz:Nat=>(z:Int))).toArray.size=l.length:=by simp
 have h:=AnyE.slices_Delete Tryz.YG (Value.int .u64) (λ_=>rfl) 0 P3 i0 hi V g 0 cap k (k+1) _ w ab (by rw [J];exact aa) hm (by omega) (by rw [J];omega);rw [J,show k+1-k=1 by omega] at h;rw [show((k:Int)+1)=((k+1:Nat):Int) by omega];refine h.mono ?_;rintro e w' ⟨rfl,q,rfl⟩;have ac:(l.eraseIdx k).length=l.length-1:=by rw [List.length_eraseIdx,if_pos U]
 refine⟨_,rfl, ?_,⟨rfl,rfl,rfl,by simp [putRow,mapBlock,Sort.ahead],λj ar ae=> ?_⟩, .inl rfl⟩
 . have af:((l.map (λz:Nat=>(z:Int))).take k++(l.map (λz:Nat=>(z:Int))).drop (k+1)++List.replicate 1 (0:Int)).length=l.length:=by simp;omega
   have ag:=Lib.ownsRow_putRow (q:=q) (k:=l.length-1) I af (by omega);rw [ac];have ah:((l.map (λz:Nat=>(z:Int))).take k++(l.map (λz:Nat=>(z:Int))).drop (k+1)).length=l.length-1:=(by simp;omega);have ai:AF (l.eraseIdx k)=(((l.map (λz:Nat=>(z:Int))).take k++(l.map (λz:Nat=>(z:Int))).drop (k+1)++List.replicate 1 (0:Int)).take (l.length-1)).map (Value.int .u64):=by
    rw [List.take_left' ah,RG,List.eraseIdx_eq_take_drop_succ,List.map_append,List.map_take,List.map_drop]
   rw [ai];exact ag
 . have aj:g≠j:=λe=>ae (by rw [e];rfl)
   simp [putRow,mapBlock,Sort.ahead,Array.getElem?_modify,aj]
def Yed{P}(h:P:=by
 rw [J] at he;simp only at he ⊢;by_cases I:BN.Kh t ws
 . rw [if_pos I] at he;exact absurd rfl he
 . rw [if_neg I]):=h
theorem MR{s N nn:Nat}{R:Zr}(h:Rd N w s R nn)(U:BN.A0 t)(x:Nat):(Af R t x).Ok/\(Af R t x).keys.length<=40/\(Af R t x).Ab.length<=40/\(Af R t x).kids.length<=40:=by
 by_cases he:Bk R t x=0
 . obtain⟨⟨f1,f2,f3⟩,w1,w2,w3,w4⟩:=BR h U he
   have t2:=U.2;refine⟨⟨λz O=> ?_,λz O=> ?_,λz O=> ?_,w4⟩,by omega,by omega, ?_⟩
   . obtain⟨i,hi,rfl⟩:=List.getElem_of_mem O;exact w1 i hi
   . obtain⟨i,hi,rfl⟩:=List.getElem_of_mem O;exact w2 i hi
   . obtain⟨i,hi,rfl⟩:=List.getElem_of_mem O;exact w3 i hi
   . rcases f3 with I|⟨I,_⟩
     . rw [I];simp
     . omega
 . have O:Af R t x=BN.zero:=by
    unfold Bk at he;unfold Af
    cases J:R x with
    |none=>rfl
    |some ws=>
     exact Yed
   rw [O];exact⟨⟨by simp [BN.zero],by simp [BN.zero],by simp [BN.zero],by simp [BN.zero]⟩,by simp [BN.zero],by simp [BN.zero],by simp [BN.zero]⟩
def DH(bn:Nat)(v:V3)(k:Nat):Prop:=k=bn\/By v k
structure Dz(W:World)(F:Nat->Prop)(M bn:Nat)(n:BN)(v:V3):Prop where
 ge: ∀k,DH bn v k->M<=k
 box:An W bn 100 [v.1,v.2.1,v.2.2, .int .u64 n.size]
 own:AS W 0 v.1 n.keys v.2.1 n.Ab v.2.2 n.kids
 ob: ¬By v bn
 nF: ¬F bn
 off: ∀k,By v k-> ¬F k
 ok:n.Ok
theorem Dz.below{v:V3}(h:Dz W F M bn n v)(I:Below W.heap.size W W'):Dz W' F M bn n v:={ h with box:=h.box.below I,own:=h.own.below I }
theorem Dz.Aq{v:V3}(h:Dz W F M bn n v)(J:Ad W F W' F'):Dz W' F' M bn n v:=
 { h with
   box:=h.box.Aq J h.nF
   own:=h.own.blocks λk I=>J.keep k (h.own.Iv I).2 (h.off k I)
   nF:=J.not h.box.lt h.nF
   off:=λk I=>J.not (h.own.Iv I).2 (h.off k I) }
theorem BQ{g:Nat}(h:W.ownsRow B 23 1 (.slice (some ⟨g,0,none⟩) l.length c) l.length (AF l)){j:Nat}(I:j<l.length):W.cell? ⟨g,j,none⟩=some (.int .u64 (l[j]:Nat)):=by
 have J:=h.cells (g:=g) rfl j _ (EM I)
 rwa [Addr.add_lit,Nat.zero_add] at J
theorem I7{A:Option Addr}(h:W.ownsRow B 23 1 (.slice A l.length c) l.length (AF l)):(A=none/\l= []/\c=0)\/ ∃b,A=some ⟨b,0,none⟩/\ ∀j u,(AF l)[j]? =some u->W.cell? ⟨b,j,none⟩=some u:=by
 rcases h.2 with ⟨h1,I⟩|⟨g,cap,cur,h1,_⟩
 . simp only [Value.slice.injEq] at h1
   exact .inl ⟨h1.1,List.eq_nil_of_length_eq_zero I,h1.2.2⟩
 . refine .inr ⟨g, ?_,λj u J=> ?_⟩
   . simp only [Value.slice.injEq] at h1
     exact h1.1
   . have O:=h.cells (g:=g) (by rw [h1];rfl) j u J
     rwa [Addr.add_lit,Nat.zero_add] at O
theorem Cf{i:Nat}(h:i<l.length):l.getD i 0=l[i]:=by simp [h]
section
variable {w':World} {s:Nat}  {R:Zr} {H:List Nat} {P q most last G:Nat}
def NS(w:World)(s:Nat)(F:Nat->Prop)(P q most last G M bn:Nat)(v:V3)(p:(Zr) × BN)(e:Ending)(w' :World):Prop:=
 ∃(F' :Nat->Prop) (H' :List Nat) (v' :V3),e= .returned (.tuple #[])/\Ah w' s F' p.1 H' P q most last G/\Dz w' F' M bn p.2 v' /\Ad w (λk=>F k\/DH bn v k) w' (λk=>F' k\/DH bn v' k)
theorem AS.Kw{v1 v2 v3:Value}{l1 l2 l3:List Nat}(h:AS W B v1 l1 v2 l2 v3 l3)(J: ∀k,By (v1,v2,v3) k-> ¬F k)(sz:Nat)(h1:l1.length<=1000)(ag:l2.length<=1000)(ah:l3.length<=1000):C3 W F (.agg #[v1,v2,v3, .int .u64 sz]) ⟨l1,l2,l3,sz⟩:=by
 have O: ∀(v:Value) (l:List Nat),W.ownsRow B 23 1 v l.length (AF l)->(∀k,v.ownBlock=some k-> ¬F k)-> ∃A c,v= .slice A l.length c/\AK W F A (AF l):=λv l U V=>by
  obtain⟨A,c,rfl⟩:=Ae U;refine⟨A,c,rfl, ?_⟩;rcases I7 U with ⟨rfl,rfl,_⟩|⟨b,rfl,Z⟩
  . exact .inl rfl
  . exact .inr ⟨b,0,rfl,(BM U rfl).2,V b rfl,λj u aa=>by rw [Nat.zero_add];exact Z j u aa⟩
 obtain⟨ab,c1,rfl,k1⟩:=O v1 l1 h.r1 (λk I=>J k (.inl I));obtain⟨ac,c2,rfl,k2⟩:=O v2 l2 h.r2 (λk I=>J k (.inr (.inl I)));obtain⟨ae,c3,rfl,af⟩:=O v3 l3 h.r3 (λk I=>J k (.inr (.inr I)));exact⟨⟨ab,c1,ac,c2,ae,c3,rfl,k1,k2,af⟩,by show l1.length<=_;omega,by show l2.length<=_;omega,by show l3.length<=_;omega⟩
structure Iu(w X:World)(n:BN)(v0 v:V3):Prop where
 T:Ad w (By v0) X (By v)
 own:AS X 0 v.1 n.keys v.2.1 n.Ab v.2.2 n.kids
theorem Iu.start{v:V3}(h:AS w 0 v.1 n.keys v.2.1 n.Ab v.2.2 n.kids):Iu w w n v v:=⟨Ad.refl _ _,h⟩
theorem Iu.below{v0 v:V3}(h:Iu w X n v0 v)(I:Below X.heap.size X X'):Iu w X' n v0 v:=⟨h.T.trans (Ad.below I),h.own.below I⟩
theorem Iu.G2{v0 v:V3}(h:Iu w X n v0 v): ∃Y:Au (By v0) w,X=Y.W:=⟨⟨X,h.T.size,λk I J=>h.T.keep k I J⟩,rfl⟩
theorem Rw.Aq{v v' :V3}{r U :Option Nat}(hw:Rw X X' r U)(V: ∀k,r=some k->By v k)(Z: ∀k,By v' k->By v k\/U =some k):Ad X (By v) X' (By v'):=
 ⟨hw.1.os,hw.1.tape,hw.1.output,hw.1.size,λk J aa=>hw.1.block k J λe=>aa (V k e.symm),λk J=>by
  rcases Z k J with I|I
  . exact .inl I
  . rcases hw.2 with O|O
    . exact .inl (V k (O.symm.trans I))
    . exact .inr (O k I)⟩
section
variable   {v0:V3} {v1 v2 v3 v':Value} 
theorem Iu.Aah(h:Iu w X n v0 (v1,v2,v3))(J:X'.ownsRow 0 23 1 v' l.length (AF l))(hw:Rw X X' v1.ownBlock v'.ownBlock):Iu w X' ⟨l,n.Ab,n.kids,n.size⟩ v0 (v',v2,v3):=
 ⟨h.T.trans (hw.Aq (λk I=> .inl I) (λk I=>by
  rcases I with I|I|I
  . exact .inr I
  . exact .inl (.inr (.inl I))
  . exact .inl (.inr (.inr I)))),h.own.K1 J hw⟩
theorem Iu.Aaa(h:Iu w X n v0 (v1,v2,v3))(J:X'.ownsRow 0 23 1 v' l.length (AF l))(hw:Rw X X' v2.ownBlock v'.ownBlock):Iu w X' ⟨n.keys,l,n.kids,n.size⟩ v0 (v1,v',v3):=
 ⟨h.T.trans (hw.Aq (λk I=> .inr (.inl I)) (λk I=>by
  rcases I with I|I|I
  . exact .inl (.inl I)
  . exact .inr I
  . exact .inl (.inr (.inr I)))),h.own.Aag J hw⟩
theorem Iu.Aca(h:Iu w X n v0 (v1,v2,v3))(J:X'.ownsRow 0 23 1 v' l.length (AF l))(hw:Rw X X' v3.ownBlock v'.ownBlock):Iu w X' ⟨n.keys,n.Ab,l,n.size⟩ v0 (v1,v2,v'):=
 ⟨h.T.trans (hw.Aq (λk I=> .inr (.inr I)) (λk I=>by
  rcases I with I|I|I
  . exact .inl (.inl I)
  . exact .inl (.inr (.inl I))
  . exact .inr I)),h.own.Aak J hw⟩
end
theorem JJ{k:Nat}(h:W.ownsRow 0 23 1 v l.length (AF l))(I:l≠ [])(J:v.ownBlock=some k)(p:Option Addr):W.cell? ⟨k,0,none⟩≠some (.pointer p):=by
 obtain⟨g,c,rfl,_,_⟩:=Bg h I;obtain rfl:g=k:=by simpa [Value.ownBlock] using J
 rw [BQ h (List.length_pos_iff.2 I)];intro e
 cases e
theorem Dz.change{n':BN}{v v' :V3}(aa:Ah X s F R H P q most last G)(O:Dz X F M bn n v)(au:s<M)(aw:1<M)(h1:n.keys≠ [])(ae:n.Ab≠ [])(V:n.kids≠ []\/(v'.2.2=v.2.2/\ ∀k,v.2.2.ownBlock=some k->X'.heap[k]? =X.heap[k]?))
 (U:Ad X (DH bn v) X' (DH bn v')) (af:An X' bn 100 [v'.1,v'.2.1,v'.2.2, .int .u64 n'.size]) (ag:AS X' 0 v'.1 n'.keys v'.2.1 n'.Ab v'.2.2 n'.kids) (ah: ¬By v' bn) (ai:n'.Ok):
 Ah X' s F R H P q most last G/\Dz X' F M bn n' v' /\Ad X (λk=>F k\/DH bn v k) X' (λk=>F k\/DH bn v' k):=by
 have ax:M<=bn:=O.ge bn (.inl rfl);have ay:=O.box.lt;have hold: ∀k,DH bn v' k->DH bn v k\/X.heap.size<=k:=U.grow;have ab: ∀k,DH bn v k-> ¬F k:=λk I=>by
  rcases I with I|I
  . rw [I];exact O.nF
  . exact O.off k I
 have aj:KB (λk=>DH bn v k/\ ¬(n.kids= []/\v.2.2.ownBlock=some k)) X X' :=⟨U.size,λk o I _ al=>by
  have am:=(Array.getElem?_eq_some_iff.1 I).1;by_cases J:DH bn v k
  . have Z:n.kids= []/\v.2.2.ownBlock=some k:=by
     by_cases ac:n.kids= []/\v.2.2.ownBlock=some k
     . exact ac
     . exact absurd ⟨J,ac⟩ al
    rcases V with V|⟨_,V⟩
    . exact absurd Z.1 V
    . exact(V k Z.2).trans I
  . exact(U.keep k am J).trans I⟩
 refine⟨aa.kb aj (λk I=>ab k I.1) (λI=>by have:=O.ge _ I.1;omega) (λk I p=> ?_) (λI=>by have:=O.ge _ I.1;omega),⟨λk I=> ?_,af,ag,ah,O.nF,λk I=> ?_,ai⟩,⟨U.os,U.tape,U.output,U.size,λk I an=>U.keep k I λJ=>an (.inr J),λk I=> ?_⟩⟩
 . obtain⟨I,ao⟩:=I
   rcases I with I|I|I|I
   . rw [I]
     obtain⟨az,c1,aq⟩:=Ae O.own.r1;have:=O.box.at' (i:=0) rfl;rw [this,aq];intro e;cases e
   . exact JJ O.own.r1 h1 I p
   . exact JJ O.own.r2 ae I p
   . by_cases Z:n.kids= []
     . exact absurd ⟨Z,I⟩ ao
     . exact JJ O.own.r3 Z I p
 . rcases hold k I with J|J
   . exact O.ge k J
   . omega
 . rcases hold k (.inr I) with J|J
   . exact ab k J
   . exact λar=>by have:=aa.lt ar;omega
 . rcases I with I|I
   . exact .inl (.inl I)
   . rcases hold k I with J|J
     . exact .inl (.inr J)
     . exact .inr J
theorem Ad.or{w':World}(h:Ad w F w' F')(N:Nat->Prop):Ad w (λk=>F k\/N k) w' (λk=>F' k\/N k):=
 ⟨h.os,h.tape,h.output,h.size,λk I O=>h.keep k I λU=>O (.inl U),λk I=>by
  rcases I with I|I
  . rcases h.grow k I with J|J
    . exact .inl (.inl J)
    . exact .inr J
  . exact .inl (.inr I)⟩
theorem Ad.AdW{v0 v:V3}(h:Ad w (By v0) X (By v))(hs:X.heap.size=X'.heap.size)(O:X'.os=X.os/\X'.tape=X.tape/\X'.output=X.output)(I: ∀k,k≠bn->X'.heap[k]? =X.heap[k]?):Ad w (DH bn v0) X' (DH bn v):=
 ⟨O.1.trans h.os,O.2.1.trans h.tape,O.2.2.trans h.output,by rw [<-hs];exact h.size,λk V U=>(I k λe=>U (.inl e)).trans (h.keep k V λJ=>U (.inr J)),λk I=>by
  rcases I with I|I
  . exact .inl (.inl I)
  . rcases h.grow k I with J|J
    . exact .inl (.inr J)
    . exact .inr J⟩
theorem IP(X:World)(b:Nat)(I J O:Value):X.heap.size=(((X.setCell ⟨b,0,none⟩ I).setCell ⟨b,1,none⟩ J).setCell ⟨b,2,none⟩ O).heap.size/\ ∀k,k≠b->(((X.setCell ⟨b,0,none⟩ I).setCell ⟨b,1,none⟩ J).setCell ⟨b,2,none⟩ O).heap[k]? =X.heap[k]? :=
 ⟨by simp [World.setCell],λk U=>((Below.heap_setCell _ ⟨b,2,none⟩ O k U).trans (Below.heap_setCell _ ⟨b,1,none⟩ J k U)).trans (Below.heap_setCell X ⟨b,0,none⟩ I k U)⟩
theorem HD(h: ∀x∈l,x<18446744073709551616)(k:Nat): ∀x∈l.eraseIdx k,x<18446744073709551616:=λx hx=>h x (List.mem_of_mem_eraseIdx hx)
theorem M8(X:World)(x:Nat)(T:TypeId): ∀j u,(AF [x])[j]? =some u->(X.alloc (.cells #[.int .u64 x] T)).cell? ⟨X.heap.size,j,none⟩=some u:=λj u h=>(An.new X T [.int .u64 x]).at' h
end
section
variable {w':World} {s:Nat}  {R:Zr} {H:List Nat} {P q most last G:Nat}
def Yaa{P}(h:P:=by
 iterate 17 (refine AD ?_;go_simp)
 clear bc ba bb a9 x6;obtain⟨az,ao⟩:=Zx ac.drew;rw [<-ao];have I:=Zh ((Way.start ac (Af R t ah) (Af R t al) z4 z4).below (by rw [ao];exact Ac ac):Way ac az _ _ none none none none z4 z4);clear ao;refine G4 _ _ _ rfl rfl rfl (λK O=> ?_) (λK O=> ?_) (λK O=> ?_);go_wp2_with fail;refine(bj _ _ _ _ _ _ I).mono ?_;rintro e Z ⟨ai,aj,am,an,aq,ar,rfl,J⟩;go_wp2;refine O _ _ (Ag J.low) ?_;replace I:=Zh J;clear O K J;refine G4 _ _ _ rfl rfl rfl (λK O=> ?_) (λK O=> ?_) (λK O=> ?_);go_wp2_with fail;refine(a2 _ _ _ _ _ _ I).mono ?_;rintro e Z ⟨B1,ab,B2,ae,B3,af,rfl,J⟩;go_wp2;refine O _ _ (Ag J.low) ?_;replace I:=Zh J;clear O K J;refine Bf _ _ rfl rfl (λK O=> ?_) (λK O=> ?_);go_wp2;obtain⟨Z,aa,U,V,J⟩:=I.Kq;rw [U,V];clear U V;refine O _ _ (Ag J.low) ?_;replace I:=Zh J;clear O K J;refine Ao _ rfl (λK O=> ?_);go_wp2;obtain⟨Z,ag,U,V,J⟩:=I.Lc;rw [U,V];clear U V;refine O _ _ (Ag J.low) ?_;replace I:=Zh J;clear O K J
 rotate_left
 go_wp2;obtain⟨Z,ag,U,V,J⟩:=I.Lc;rw [U,V];clear U V;refine O _ _ (Ag J.low) ?_;replace I:=Zh J;clear O K J;refine Ao _ rfl (λK O=> ?_);go_wp2;obtain⟨Z,aa,U,V,J⟩:=I.Kq;rw [U,V];clear U V;refine O _ _ (Ag J.low) ?_;replace I:=Zh J;clear O K J
 rotate_left
 go_wp2;obtain⟨Z,aa,U,V,J⟩:=I.Kq;rw [U,V];clear U V;refine O _ _ (Ag J.low) ?_;replace I:=Zh J;clear O K J;refine Bf _ _ rfl rfl (λK O=> ?_) (λK O=> ?_);go_wp2_with fail;refine(a2 _ _ _ _ _ _ I).mono ?_;rintro e Z ⟨B1,ab,B2,ae,B3,af,rfl,J⟩;go_wp2;refine O _ _ (Ag J.low) ?_;replace I:=Zh J;clear O K J;refine Ao _ rfl (λK O=> ?_);go_wp2;obtain⟨Z,ag,U,V,J⟩:=I.Lc;rw [U,V];clear U V;refine O _ _ (Ag J.low) ?_;replace I:=Zh J;clear O K J
 rotate_left
 go_wp2;obtain⟨Z,ag,U,V,J⟩:=I.Lc;rw [U,V];clear U V;refine O _ _ (Ag J.low) ?_;replace I:=Zh J;clear O K J;refine Ao _ rfl (λK O=> ?_);go_wp2_with fail;refine(a2 _ _ _ _ _ _ I).mono ?_;rintro e Z ⟨B1,ab,B2,ae,B3,af,rfl,J⟩;go_wp2;refine O _ _ (Ag J.low) ?_;replace I:=Zh J;clear O K J
 rotate_left
 go_wp2;obtain⟨Z,ag,U,V,J⟩:=I.Lc;rw [U,V];clear U V;refine O _ _ (Ag J.low) ?_;replace I:=Zh J;clear O K J;refine Bf _ _ rfl rfl (λK O=> ?_) (λK O=> ?_);go_wp2_with fail;refine(a2 _ _ _ _ _ _ I).mono ?_;rintro e Z ⟨B1,ab,B2,ae,B3,af,rfl,J⟩;go_wp2;refine O _ _ (Ag J.low) ?_;replace I:=Zh J;clear O K J;refine Ao _ rfl (λK O=> ?_);go_wp2;obtain⟨Z,aa,U,V,J⟩:=I.Kq;rw [U,V];clear U V;refine O _ _ (Ag J.low) ?_;replace I:=Zh J;clear O K J
 rotate_left
 go_wp2;obtain⟨Z,aa,U,V,J⟩:=I.Kq;rw [U,V];clear U V;refine O _ _ (Ag J.low) ?_;replace I:=Zh J;clear O K J;refine Ao _ rfl (λK O=> ?_);go_wp2_with fail;refine(a2 _ _ _ _ _ _ I).mono ?_;rintro e Z ⟨B1,ab,B2,ae,B3,af,rfl,J⟩;go_wp2;refine O _ _ (Ag J.low) ?_;replace I:=Zh J;clear O K J
 rotate_left
 go_wp2;obtain⟨Z,aa,U,V,J⟩:=I.Kq;rw [U,V];clear U V;refine O _ _ (Ag J.low) ?_;replace I:=Zh J;clear O K J;refine Bf _ _ rfl rfl (λK O=> ?_) (λK O=> ?_);go_wp2_with fail;refine(bj _ _ _ _ _ _ I).mono ?_;rintro e Z ⟨ai,aj,am,an,aq,ar,rfl,J⟩;go_wp2;refine O _ _ (Ag J.low) ?_;replace I:=Zh J;clear O K J;refine Bf _ _ rfl rfl (λK O=> ?_) (λK O=> ?_);go_wp2_with fail;refine(a2 _ _ _ _ _ _ I).mono ?_;rintro e Z ⟨B1,ab,B2,ae,B3,af,rfl,J⟩;go_wp2;refine O _ _ (Ag J.low) ?_;replace I:=Zh J;clear O K J;refine Ao _ rfl (λK O=> ?_);go_wp2;obtain⟨Z,ag,U,V,J⟩:=I.Lc;rw [U,V];clear U V;refine O _ _ (Ag J.low) ?_;replace I:=Zh J;clear O K J
 rotate_left
 go_wp2;obtain⟨Z,ag,U,V,J⟩:=I.Lc;rw [U,V];clear U V;refine O _ _ (Ag J.low) ?_;replace I:=Zh J;clear O K J;refine Ao _ rfl (λK O=> ?_);go_wp2_with fail;refine(a2 _ _ _ _ _ _ I).mono ?_;rintro e Z ⟨B1,ab,B2,ae,B3,af,rfl,J⟩;go_wp2;refine O _ _ (Ag J.low) ?_;replace I:=Zh J;clear O K J
 rotate_left
 go_wp2;obtain⟨Z,ag,U,V,J⟩:=I.Lc;rw [U,V];clear U V;refine O _ _ (Ag J.low) ?_;replace I:=Zh J;clear O K J;refine Ao _ rfl (λK O=> ?_);go_wp2_with fail;refine(bj _ _ _ _ _ _ I).mono ?_;rintro e Z ⟨ai,aj,am,an,aq,ar,rfl,J⟩;go_wp2;refine O _ _ (Ag J.low) ?_;replace I:=Zh J;clear O K J;refine Ao _ rfl (λK O=> ?_);go_wp2_with fail;refine(a2 _ _ _ _ _ _ I).mono ?_;rintro e Z ⟨B1,ab,B2,ae,B3,af,rfl,J⟩;go_wp2;refine O _ _ (Ag J.low) ?_;replace I:=Zh J;clear O K J
 rotate_left
 go_wp2;obtain⟨Z,ag,U,V,J⟩:=I.Lc;rw [U,V];clear U V;refine O _ _ (Ag J.low) ?_;replace I:=Zh J;clear O K J;refine Bf _ _ rfl rfl (λK O=> ?_) (λK O=> ?_);go_wp2_with fail;refine(bj _ _ _ _ _ _ I).mono ?_;rintro e Z ⟨ai,aj,am,an,aq,ar,rfl,J⟩;go_wp2;refine O _ _ (Ag J.low) ?_;replace I:=Zh J;clear O K J;refine Bf _ _ rfl rfl (λK O=> ?_) (λK O=> ?_);go_wp2_with fail;refine(a2 _ _ _ _ _ _ I).mono ?_;rintro e Z ⟨B1,ab,B2,ae,B3,af,rfl,J⟩;go_wp2;refine O _ _ (Ag J.low) ?_;replace I:=Zh J;clear O K J;refine Ao _ rfl (λK O=> ?_);go_wp2;obtain⟨Z,aa,U,V,J⟩:=I.Kq;rw [U,V];clear U V;refine O _ _ (Ag J.low) ?_;replace I:=Zh J;clear O K J
 rotate_left
 go_wp2;obtain⟨Z,aa,U,V,J⟩:=I.Kq;rw [U,V];clear U V;refine O _ _ (Ag J.low) ?_;replace I:=Zh J;clear O K J;refine Ao _ rfl (λK O=> ?_);go_wp2_with fail;refine(a2 _ _ _ _ _ _ I).mono ?_;rintro e Z ⟨B1,ab,B2,ae,B3,af,rfl,J⟩;go_wp2;refine O _ _ (Ag J.low) ?_;replace I:=Zh J;clear O K J
 rotate_left
 go_wp2;obtain⟨Z,aa,U,V,J⟩:=I.Kq;rw [U,V];clear U V;refine O _ _ (Ag J.low) ?_;replace I:=Zh J;clear O K J;refine Ao _ rfl (λK O=> ?_);go_wp2_with fail;refine(bj _ _ _ _ _ _ I).mono ?_;rintro e Z ⟨ai,aj,am,an,aq,ar,rfl,J⟩;go_wp2;refine O _ _ (Ag J.low) ?_;replace I:=Zh J;clear O K J;refine Ao _ rfl (λK O=> ?_);go_wp2_with fail;refine(a2 _ _ _ _ _ _ I).mono ?_;rintro e Z ⟨B1,ab,B2,ae,B3,af,rfl,J⟩;go_wp2;refine O _ _ (Ag J.low) ?_;replace I:=Zh J;clear O K J
 rotate_left
 all_goals
  obtain⟨⟨z0,au,z2,z3⟩,u0,u1,u2,u3⟩:=Cc (I.x6 _ rfl);have J:=I.Abo (.slice ai (Af R t ah).keys.length aj) (.slice am (Af R t ah).Ab.length an) (.slice aq (Af R t ah).kids.length ar) (.int .u64 ((Af R t ah).size:Nat));replace I:=Zh J;refine AA _ rfl (by decide) (λK O=> ?_);go_wp2;refine O _ _ ?_;clear O K z0 au z2 z3 u0 u1 u2 u3 J;replace I:=I.out;obtain⟨ax,aw⟩:=Zx ((((Z.setCell ⟨aa,0,none⟩ (.slice ai (Af R t ah).keys.length aj)).setCell ⟨aa,1,none⟩ (.slice am (Af R t ah).Ab.length an)).setCell ⟨aa,2,none⟩ (.slice aq (Af R t ah).kids.length ar)).setCell ⟨aa,3,none⟩ (.int .u64 ((Af R t ah).size:Nat)));rw [<-aw] at I ⊢;replace I:=Zh I;clear aw;obtain⟨⟨z0,au,z2,z3⟩,u0,u1,u2,u3⟩:=Cc (I.x7 _ rfl);have J:=I.Abz (.slice B1 (Af R t al).keys.length ab) (.slice B2 (Af R t al).Ab.length ae) (.slice B3 (Af R t al).kids.length af) (.int .u64 ((Af R t al).size:Nat));replace I:=Zh J;refine AA _ rfl (by decide) (λK O=> ?_);go_wp2;refine O _ _ (AG ?_);clear O K z0 au z2 z3 u0 u1 u2 u3 J;go_wp2_with fail;go_meet
  case rel=>exact⟨aa,ag,ai,am,aq,B1,B2,B3,aj,an,ar,ab,ae,af,rfl,rfl,I⟩):=h
def Yay{P}(h:P:=by
 rintro e X' ⟨u1,u2,u3,rfl,I,J⟩;obtain⟨O,c1,rfl⟩:=Ae I.r1;obtain⟨U,c2,rfl⟩:=Ae I.r2;obtain⟨V,c3,rfl⟩:=Ae I.r3;exact⟨O,c1,U,c2,V,c3,rfl,h.AdZ J I⟩):=h
def Yaz{P}(h:P:=by
 rintro e X' ⟨u1,u2,u3,rfl,I,J⟩;obtain⟨O,c1,rfl⟩:=Ae I.r1;obtain⟨U,c2,rfl⟩:=Ae I.r2;obtain⟨V,c3,rfl⟩:=Ae I.r3;exact⟨O,c1,U,c2,V,c3,rfl,h.AfU J I⟩):=h
def Yeu{P}(h:P:=by
 simp only [Cf aA,Cf aV,Cf aY,Cf bd]):=h
def Ygz{P}(h:P:=by
 have au:Below w.heap.size w ac:=by rw [bk];exact(Below.refl _ w).alloc (Nat.le_refl _) _
 exact au):=h
def Y6{P}(h:P:=by
 have bc:=λX:Au (λ_=>False) ac=>X.cell aD (λh=>h)
 have ba:=λX:Au (λ_=>False) ac=>X.cell aE (λh=>h)
 exact And.intro bc ba):=h
def Yhb{P}(h:P:=by
 have bb:=λX:Au (λ_=>False) ac=>X.cell aL (λh=>h)
 have a9:=λX:Au (λ_=>False) ac=>X.cell aX (λh=>h)
 exact And.intro bb a9):=h
def Y7{P}(h:P:=by
 have I:=λX:Au (λ_=>False) O=>X.cell a7 (λh=>h)
 have J:=λX:Au (λ_=>False) O=>X.cell be (λh=>h)
 exact And.intro I J):=h
def Yis{P}(h:P:=by
 have x6:=λX:Au (λ_=>False) ac=>X.cell a1 (λh=>h)
 have I:(0:Int)<=(k:Int)+1:=by omega
 have J:(k:Int)+1<(n.kids.length:Int):=by omega
 have O:IntKind.i64.wrap ((k:Int)+1)=(k:Int)+1:=by rw [IntKind.wrap_i64];omega
 have U:IntKind.i64.wrap ((k:Int)+1-1)=(k:Int):=by rw [IntKind.wrap_i64];omega
 exact And.intro x6 (And.intro I (And.intro J (And.intro O U)))):=h
def Ykv{P}(h:P:=by
 have I:Z.length<=100:=by rw [aI];simp;omega
 exact I):=h
def Ykw{P}(h:P:=by
 have I:ag.length<=200:=by rw [a6];simp;omega
 have J:=Zh a6;exact And.intro I J):=h
def Ylw{P}(h:P:=by
 have ay :=am.cell ((aM.cell (Am bo.2)).trans bo.2) (bm.off _ (.inr (.inr rfl)));exact ay):=h
def Yma{P}(h:P:=by
 have aV:k<n.Ab.length:=by omega
 have aY:k<n.kids.length:=by omega
 have bd:k+1<n.kids.length:=by omega
 exact And.intro aV (And.intro aY bd)):=h
def Ymf{P}(h:P:=by
 have J:=I.below (show Below wd.heap.size wd az by rw [ao];exact Ac wd);exact J):=h
def Ymg{P}(h:P:=by
 have J:=I.below (show Below a4.heap.size a4 az by rw [ao];exact Ac a4);exact J):=h
def Ynm{P}(h:P:=by
 have I:((k:Int)+1).toNat=k+1:=by omega
 have J:=Zh (And.intro bk br);exact And.intro I J):=h
def Ynn{P}(h:P:=by
 have I:=Zh (And.intro aO (And.intro q1 aL));have J:=Zh (And.intro aD aE);exact And.intro I J):=h
def Ypw{P}(h:P:=by
 have ar:=MR bp ab ah;have aK:=MR bp ab al;exact And.intro ar aK):=h
def Yql{P}(h:P:=by
 as_aux_lemma=>
 refine AB (λw' => ∃X:Au (λ_=>False) ac,w' =X.W) [21,22] (.r 0<| .r 1<| .r 2<| .r 3<| .r 4<| .r 5<| .r 6<| .r 7<| .r 9<| .r 10<| .r 11<| .r 12<| .r 13<| .r 14<| .r 15<| .r 16<| .r 17<| .three 8 (.three 18 (.two 19 (.a 20<| .a 21<| .a 22<| .nil) 20 (.a 19<| .a 21<| .a 22<| .nil)) 19 (.two 18 (.a 20<| .a 21<| .a 22<| .nil) 20 (.a 18<| .a 21<| .a 22<| .nil)) 20 (.two 18 (.a 19<| .a 21<| .a 22<| .nil) 19 (.a 18<| .a 21<| .a 22<| .nil))) 19 (.two 8 (.two 18 (.a 20<| .a 21<| .a 22<| .nil) 20 (.a 18<| .a 21<| .a 22<| .nil)) 20 (.a 8<| .a 18<| .a 21<| .a 22<| .nil)) 20 (.two 8 (.two 18 (.a 19<| .a 21<| .a 22<| .nil) 19 (.a 18<| .a 21<| .a 22<| .nil)) 19 (.a 8<| .a 18<| .a 21<| .a 22<| .nil))) (Ay _ _) ?_;exact Yaa):=h
def Yqw{P}(h:P:=by
 have bj:Hid (∀(X:World) vb p q c6 c7,Way ac X (Af R t ah) (Af R t al) none vb p q c6 c7->Calls prog 72 #[.agg #[.pointer (some ⟨s,0,none⟩), .int .i64 t], .int .u64 ah] X λe X' => ∃I c1 J c2 O c3,e= .returned (.agg #[.slice I (Af R t ah).keys.length c1, .slice J (Af R t ah).Ab.length c2, .slice O (Af R t ah).kids.length c3, .int .u64 ((Af R t ah).size:Nat)])/\Way ac X' (Af R t ah) (Af R t al) (some (.slice I (Af R t ah).keys.length c1, .slice J (Af R t ah).Ab.length c2, .slice O (Af R t ah).kids.length c3)) vb p q c6 c7):=Zh (λX vb p q c6 c7 h=>(bA ah aT X h.low).mono (by
  exact Yay))
 have a2:Hid (∀(X:World) va p q c6 c7,Way ac X (Af R t ah) (Af R t al) va none p q c6 c7->Calls prog 72 #[.agg #[.pointer (some ⟨s,0,none⟩), .int .i64 t], .int .u64 al] X λe X' => ∃I c1 J c2 O c3,e= .returned (.agg #[.slice I (Af R t al).keys.length c1, .slice J (Af R t al).Ab.length c2, .slice O (Af R t al).kids.length c3, .int .u64 ((Af R t al).size:Nat)])/\Way ac X' (Af R t ah) (Af R t al) va (some (.slice I (Af R t al).keys.length c1, .slice J (Af R t al).Ab.length c2, .slice O (Af R t al).kids.length c3)) p q c6 c7):=Zh (λX va p q c6 c7 h=>(bA al aS X h.low).mono (by
  exact Yaz))
 exact And.intro bj a2):=h
end
namespace L3
open Go Go.RowKit
variable {b0 b1:Bool}{i k:Nat}{l:List Nat}{v:Value}{w:World}
inductive Tr where
 |nil
 |r (i:Nat) (t:Tr)
 |s (i:Nat) (t:Tr)
 |m (i:Nat) (t:Tr)
 |a (k:Nat) (t:Tr)
section
variable {l0 l1:List Nat} {P:Program} {ops:Array Oper} {md:Region.Mode} {Q:Exit->Act->World->Prop} {C0 C1:World->Prop}
def alive(l:List Nat)(listed:Array Bool):Prop:= ∀k∈l,listed.getD k false=false
theorem Pm{listed:Array Bool}(h:alive l (listed.setIfInBounds i true)):alive l listed:=λk U=>by
 have I:=h k U
 cases J:listed.getD k false with
 |false=>rfl
 |true=>
  by_cases e:i=k
  . subst e
    have V:i<listed.size:=by
     rcases Nat.lt_or_ge i listed.size with O|O
     . exact O
     . rw [Array.getD,dif_neg (by omega)] at J;cases J
    simp [Array.getD,V] at I
  . rw [getD_set_ne false e,J] at I;cases I
theorem JN{listed:Array Bool}(h:alive l listed)(hi:i∉l):alive l (listed.setIfInBounds i true):=λk I=>by
 rw [getD_set_ne false (show i≠k from λe=>hi (by rw [e];exact I))];exact h k I
def Q8(md:Region.Mode)(ops:Array Oper)(k i:Nat):Bool:=M7 md ops 6 k i||(List.range ops.size).any λm=>M7 md ops 3 k m&&M7 md ops 6 m i
theorem Tj{listed:Array Bool}(I:Jw md ops listed)(O: ∀o,ops[k]? =some o-> ∀e∈o.after,Region.binds md e=true->listed.getD e.on false=true)(h:Q8 md ops k i=true):listed.getD i false=true:=by
 unfold Q8 at h;rw [Bool.or_eq_true] at h;rcases h with h|h
 . exact E4 I 6 k i O h
 . obtain⟨m,_,J⟩:=List.any_eq_true.1 h
   rw [Bool.and_eq_true] at J;have U:=E4 I 3 k m O J.1;exact E4 I 6 m i (λo V=>I m o V U) J.2
def CF(P:Program)(md:Region.Mode)(ops:Array Oper)(Q:Exit->Act->World->Prop)(C0 C1:World->Prop)(l0 l1:List Nat):Nat->Array Bool->Act->World->Prop
 |0,listed,a,w=>Region.ready md ops listed= []/\Q .normal a w
 |f+1,listed,a,w=>
  (Region.ready md ops listed= []->Q .normal a w)/\
  ∀i∈Region.ready md ops listed,wpOp P ops Q i (λa' w' =>(alive l0 (listed.setIfInBounds i true)->C0 w')/\(alive l1 (listed.setIfInBounds i true)->C1 w')/\CF P md ops Q C0 C1 l0 l1 f (listed.setIfInBounds i true) a' w') a w
theorem CF.any: ∀(f:Nat) (listed:Array Bool) (a:Act) (w:World),CF P md ops Q C0 C1 l0 l1 f listed a w->wpAny P md ops Q f listed a w
 |0,_,_,_,h=>h
 |f+1,listed,a,w,h=>⟨h.1,λi hi=>wpOp_mono (λa' w' I =>CF.any f _ a' w' I.2.2) (h.2 i hi)⟩
def Yfk{P}(h:P:=by
 subst O;exact ae.op hi (ag h0 h1 aa) ⟨λh=>h0 (Pm h),λh=>h1 (Pm h),H⟩):=h
theorem Ea{Cx:World->Prop}{lx:List Nat}{J:Oper}(hx:(Cx=C0/\lx=l0)\/(Cx=C1/\lx=l1)\/(Cx=(λ_=>True)/\lx= []))(au:i∉l0)(aw:i∉l1)(ax:lx.all (λk=>Q8 md ops k i)=true)(hi:ops[i]? =some J)(am: ∀(j:Nat) (o:Oper) cs b,ops[j]? =some o->o.op≠ .select cs b)
 (ay: ∀c a w,Q (.panic c) (a.put J.dst v) w->Q (.panic c) a w):
 ∀(f:Nat) (listed:Array Bool) (a:Act) (w:World),
  (∀j I,ops[j]? =some I->j≠i->listed.getD j true=false->(∀e∈I.after,Region.binds md e=true->e.on≠i)->J.apart ops I=true)->
  i∈Region.ready md ops listed->Jw md ops listed->(alive l0 listed->C0 w)->(alive l1 listed->C1 w)->alive lx listed->BX P ops Cx J v a->
  CF P md ops Q C0 C1 l0 l1 f (listed.setIfInBounds i true) (a.put J.dst v) w->CF P md ops Q C0 C1 l0 l1 (f+1) listed a w:=by
 have ag: ∀{listed:Array Bool} {w:World},(alive l0 listed->C0 w)->(alive l1 listed->C1 w)->alive lx listed->Cx w:=λh0 h1 h=>by
  rcases hx with ⟨ah,aj⟩|⟨ah,aj⟩|⟨ah,aj⟩
  . rw [ah];exact h0 (aj▸h)
  . rw [ah];exact h1 (aj▸h)
  . rw [ah];trivial
 intro f
 induction f with
 |zero=>
  intro listed a w _ ai hN h0 h1 aa ae H;refine⟨λh=>(by rw [h] at ai;cases ai),λj U=> ?_⟩;by_cases O:j=i
  . exact Yfk
  . exact YE
 |succ f ih=>
  intro listed a w ab ai hN h0 h1 aa ae H;refine⟨λh=>(by rw [h] at ai;cases ai),λj U=> ?_⟩;by_cases O:j=i
  . exact Yfk
  . have az:=H.2 j (ready_mono U O)
    obtain⟨Z,I,al,ac⟩:=mem_ready.1 U;have V:=(mem_ready.1 ai).1;have aA:=Wa;have aB:=H5 (C:=Cx) al (ab j I al O Z aA) (λcs b=>am i J cs b hi) (λcs b=>am j I cs b al) ay ae az;have aC:=Xi;refine wpOp_mono (λa' w' aD=> ?_) aB;obtain⟨aE,g0,g1,an⟩:=aD;rw [Array.setIfInBounds_comm _ _ (Ne.symm O)] at g0 g1 an;have aF:j∉lx:=λhm=>by
     have ao:=Tj hN (λo aq=>by rw [al] at aq;cases aq;exact ac) (List.all_eq_true.1 ax j hm);rw [getD_both V] at ao
     cases ao
    have ar:alive l0 (listed.setIfInBounds j true)->C0 w' :=(λh=>g0 (JN h au));have ah:alive l1 (listed.setIfInBounds j true)->C1 w' :=(λh=>g1 (JN h aw));exact⟨ar,ah,ih (listed.setIfInBounds j true) a' w' aC (ready_mono ai (Ne.symm O)) (hN.list U) ar ah (JN aa aF) aE an⟩
def Dp(l:List Nat)(listed:Array Bool):Bool:=l.any λk=>listed.getD k false
theorem NF{listed:Array Bool}(h:Dp l listed=false):alive l listed:=λk I=>by
 cases J:listed.getD k false with
 |false=>rfl
 |true=>
  have:Dp l listed=true:=List.any_eq_true.2 ⟨k,I,J⟩;rw [h] at this;cases this
def BC(md:Region.Mode)(ops:Array Oper)(l0 l1:List Nat):Tr->Nat->Array Bool->Bool
 | .nil,n,listed=>decide (n=0)&&(Region.ready md ops listed).isEmpty
 | .r i t,n,listed=>match n with
   |0=>false
   |n+1=>(!l0.contains i&& !l1.contains i)&&(!Dp l0 listed&&l0.all (λk=>Q8 md ops k i))&&((Region.ready md ops listed).contains i&&Region.free md ops listed i)&&BC md ops l0 l1 t n (listed.setIfInBounds i true)
 | .s i t,n,listed=>match n with
   |0=>false
   |n+1=>(!l0.contains i&& !l1.contains i)&&(!Dp l1 listed&&l1.all (λk=>Q8 md ops k i))&&((Region.ready md ops listed).contains i&&Region.free md ops listed i)&&BC md ops l0 l1 t n (listed.setIfInBounds i true)
 | .m i t,n,listed=>match n with
   |0=>false
   |n+1=>(!l0.contains i&& !l1.contains i)&&((Region.ready md ops listed).contains i&&Region.free md ops listed i)&&BC md ops l0 l1 t n (listed.setIfInBounds i true)
 | .a k t,n,listed=>match n with
   |0=>false
   |n+1=>decide (Region.ready md ops listed= [k])&&BC md ops l0 l1 t n (listed.setIfInBounds k true)
def A2(P:Program)(ops:Array Oper)(Q:Exit->Act->World->Prop)(C0 C1:World->Prop)(l0 l1:List Nat):Tr->Bool->Bool->Act->World->Prop
 | .nil,_,_,a,w=>Q .normal a w
 | .r i t,b0,b1,a,w=> ∃o v,ops[i]? =some o/\BX P ops C0 o v a/\A2 P ops Q C0 C1 l0 l1 t b0 b1 (a.put o.dst v) w
 | .s i t,b0,b1,a,w=> ∃o v,ops[i]? =some o/\BX P ops C1 o v a/\A2 P ops Q C0 C1 l0 l1 t b0 b1 (a.put o.dst v) w
 | .m i t,b0,b1,a,w=> ∃o v,ops[i]? =some o/\BX P ops (λ_=>True) o v a/\A2 P ops Q C0 C1 l0 l1 t b0 b1 (a.put o.dst v) w
 | .a k t,b0,b1,a,w=> ∃o,ops[k]? =some o/\wpList P ops (Qr (λa' w' =>((b0||l0.contains k)=false->C0 w')/\((b1||l1.contains k)=false->C1 w')/\A2 P ops Q C0 C1 l0 l1 t (b0||l0.contains k) (b1||l1.contains k) a' w') Q) [o] a w
theorem AG{a:Act}(h:Q .normal a w):A2 P ops Q C0 C1 l0 l1 .nil b0 b1 a w:=h
theorem Eu{s:Tr}{a:Act}(o:Oper)(v:Value)(hi:ops[i]? =some o)(h1:Region.wanted o (yielded ops a.tmps)=true)(I: ∀w,C0 w->(execOp a.eval o).run P w= .ok (.value v) w)(h:A2 P ops Q C0 C1 l0 l1 s b0 b1 (a.put o.dst v) w):A2 P ops Q C0 C1 l0 l1 (.r i s) b0 b1 a w:=⟨o,v,hi, .inl ⟨h1,I⟩,h⟩
theorem AD{s:Tr}{a:Act}{o:Oper}(h:A2 P ops Q C0 C1 l0 l1 s b0 b1 (a.put o.dst v) w)(hi:ops[i]? =some o:=by exact rfl)(h1:Region.wanted o (yielded ops a.tmps)=true:=by exact rfl)(I: ∀w,C0 w->(execOp a.eval o).run P w= .ok (.value v) w:=by rintro _ ⟨X,rfl⟩;go_simp;exact rfl):A2 P ops Q C0 C1 l0 l1 (.r i s) b0 b1 a w:=
 Eu o v hi h1 I h
theorem EX{s:Tr}{a:Act}(o:Oper)(v:Value)(hi:ops[i]? =some o)(h1:Region.wanted o (yielded ops a.tmps)=true)(I: ∀w,C1 w->(execOp a.eval o).run P w= .ok (.value v) w)(h:A2 P ops Q C0 C1 l0 l1 s b0 b1 (a.put o.dst v) w):A2 P ops Q C0 C1 l0 l1 (.s i s) b0 b1 a w:=⟨o,v,hi, .inl ⟨h1,I⟩,h⟩
theorem E0{s:Tr}{a:Act}(o:Oper)(v:Value)(hi:ops[i]? =some o)(h1:Region.wanted o (yielded ops a.tmps)=true)(I: ∀w,(execOp a.eval o).run P w= .ok (.value v) w)(h:A2 P ops Q C0 C1 l0 l1 s b0 b1 (a.put o.dst v) w):A2 P ops Q C0 C1 l0 l1 (.m i s) b0 b1 a w:=⟨o,v,hi, .inl ⟨h1,λw _=>I w⟩,h⟩
theorem Ao{s:Tr}{a:Act}(o:Oper)(I:ops[k]? =some o)(h: ∀K:Act->World->Prop,(∀a' w',((b0||l0.contains k)=false->C0 w')->((b1||l1.contains k)=false->C1 w')->A2 P ops Q C0 C1 l0 l1 s (b0||l0.contains k) (b1||l1.contains k) a' w' ->K a' w')->wpList P ops (Qr K Q) [o] a w):A2 P ops Q C0 C1 l0 l1 (.a k s) b0 b1 a w:=
 ⟨o,I,h _ λ_ _ h1 J O=>⟨h1,J,O⟩⟩
theorem DN{listed:Array Bool}(I:k<listed.size):Dp l (listed.setIfInBounds k true)=(Dp l listed||l.contains k):=by
 unfold Dp
 induction l with
 |nil=>simp
 |cons x l ih=>
  simp only [List.any_cons,List.contains_cons,ih];by_cases e:k=x
  . subst e
    have:(listed.setIfInBounds k true).getD k false=true:=(by simp [Array.getD,I]);rw [this];simp
  . rw [getD_set_ne false e]
    have:(k==x)=false:=(by simp [e]);rw [this]
    cases listed.getD x false<;>simp
theorem Be(aa:Region.noSelect ops=true)(ab: ∀c a d v w,Q (.panic c) (Act.put a d v) w->Q (.panic c) a w):
 ∀(s:Tr) (n:Nat) (b0 b1:Bool) (listed:Array Bool) (a:Act) (w:World),listed.size=ops.size->b0=Dp l0 listed->b1=Dp l1 listed->(b0=false->C0 w)->(b1=false->C1 w)->Jw md ops listed->BC md ops l0 l1 s n listed=true->A2 P ops Q C0 C1 l0 l1 s b0 b1 a w->CF P md ops Q C0 C1 l0 l1 n listed a w
 | .nil,n,b0,b1,listed,a,w,_,_,_,_,_,hN,I,h=>by
   simp only [BC,Bool.and_eq_true,decide_eq_true_eq] at I;obtain⟨rfl,I⟩:=I;exact⟨by simpa using I,h⟩
 | .r i s,0,b0,b1,listed,a,w,_,_,_,_,_,hN,I,h=>by simp [BC] at I
 | .r i s,n+1,b0,b1,listed,a,w,hs,e0,e1,h0,h1,hN,I,h=>by
   obtain⟨o,v,O,ac,ae⟩:=h;simp only [BC,Bool.and_eq_true,Bool.not_eq_true'] at I;obtain⟨⟨⟨hi,hd,al⟩,Z,af⟩,ag⟩:=I;have ah:i∉l0:=(by simpa using hi.1);have ai:i∉l1:=(by simpa using hi.2);have U:i<listed.size:=(by rw [hs];exact(Array.getElem?_eq_some_iff.1 O).1);have c0:l0.contains i=false:=hi.1;have c1:l1.contains i=false:=hi.2;exact Ea (.inl ⟨rfl,rfl⟩) ah ai al O (Region.noSelect_spec aa) (λc a w h=>ab c a _ _ w h) n listed a w (Region.free_spec O af) (by simpa using Z) hN (λ_=>h0 (by rw [e0];exact hd)) (λha=>h1 (by
    rw [e1]
    cases J:Dp l1 listed with
    |false=>rfl
    |true=>
     obtain⟨k,V,J⟩:=List.any_eq_true.1 J;rw [ha k V] at J;cases J)) (NF hd) ac
    (Be aa ab s n b0 b1 _ _ w (by simpa using hs) (by rw [DN U,c0,Bool.or_false];exact e0) (by rw [DN U,c1,Bool.or_false];exact e1) h0 h1 (hN.list (by simpa using Z)) ag ae)
 | .s i s,0,b0,b1,listed,a,w,_,_,_,_,_,hN,I,h=>by simp [BC] at I
 | .s i s,n+1,b0,b1,listed,a,w,hs,e0,e1,h0,h1,hN,I,h=>by
   obtain⟨o,v,O,ac,ae⟩:=h;simp only [BC,Bool.and_eq_true,Bool.not_eq_true'] at I;obtain⟨⟨⟨hi,hd,al⟩,Z,af⟩,ag⟩:=I;have ah:i∉l0:=(by simpa using hi.1);have ai:i∉l1:=(by simpa using hi.2);have U:i<listed.size:=(by rw [hs];exact(Array.getElem?_eq_some_iff.1 O).1);have c0:l0.contains i=false:=hi.1;have c1:l1.contains i=false:=hi.2;exact Ea (.inr (.inl ⟨rfl,rfl⟩)) ah ai al O (Region.noSelect_spec aa) (λc a w h=>ab c a _ _ w h) n listed a w (Region.free_spec O af) (by simpa using Z) hN (λha=>h0 (by
    rw [e0]
    cases J:Dp l0 listed with
    |false=>rfl
    |true=>
     obtain⟨k,V,J⟩:=List.any_eq_true.1 J;rw [ha k V] at J;cases J)) (λ_=>h1 (by rw [e1];exact hd)) (NF hd) ac
    (Be aa ab s n b0 b1 _ _ w (by simpa using hs) (by rw [DN U,c0,Bool.or_false];exact e0) (by rw [DN U,c1,Bool.or_false];exact e1) h0 h1 (hN.list (by simpa using Z)) ag ae)
 | .m i s,0,b0,b1,listed,a,w,_,_,_,_,_,hN,I,h=>by simp [BC] at I
 | .m i s,n+1,b0,b1,listed,a,w,hs,e0,e1,h0,h1,hN,I,h=>by
   obtain⟨o,v,O,ac,ae⟩:=h;simp only [BC,Bool.and_eq_true,Bool.not_eq_true'] at I;obtain⟨⟨hi,Z,af⟩,ag⟩:=I;have ah:i∉l0:=(by simpa using hi.1);have ai:i∉l1:=(by simpa using hi.2);have U:i<listed.size:=(by rw [hs];exact(Array.getElem?_eq_some_iff.1 O).1);have c0:l0.contains i=false:=hi.1;have c1:l1.contains i=false:=hi.2;have aj: ∀{l:List Nat} {b:Bool},b=Dp l listed->alive l listed->b=false:=λe ha=>by
    rw [e]
    cases J:Dp _ listed with
    |false=>rfl
    |true=>
     obtain⟨k,V,J⟩:=List.any_eq_true.1 J;rw [ha k V] at J;cases J
   exact Ea (Cx:=λ_=>True) (lx:= []) (.inr (.inr ⟨rfl,rfl⟩)) ah ai rfl O (Region.noSelect_spec aa) (λc a w h=>ab c a _ _ w h) n listed a w (Region.free_spec O af) (by simpa using Z) hN (λha=>h0 (aj e0 ha)) (λha=>h1 (aj e1 ha)) (λk V=>by cases V) ac
    (Be aa ab s n b0 b1 _ _ w (by simpa using hs) (by rw [DN U,c0,Bool.or_false];exact e0) (by rw [DN U,c1,Bool.or_false];exact e1) h0 h1 (hN.list (by simpa using Z)) ag ae)
 | .a k s,0,b0,b1,listed,a,w,_,_,_,_,_,hN,I,h=>by simp [BC] at I
 | .a k s,n+1,b0,b1,listed,a,w,hs,e0,e1,h0,h1,hN,I,h=>by
   obtain⟨o,O,h⟩:=h;simp only [BC,Bool.and_eq_true,decide_eq_true_eq] at I;have U:k<listed.size:=(by rw [hs];exact(Array.getElem?_eq_some_iff.1 O).1);refine⟨λh1=>(by rw [I.1] at h1;cases h1),λi hi=> ?_⟩;rw [I.1] at hi;obtain rfl:i=k:=by simpa using hi
   have d0:(b0||l0.contains i)=Dp l0 (listed.setIfInBounds i true):=(by rw [DN U,e0]);have d1:(b1||l1.contains i)=Dp l1 (listed.setIfInBounds i true):=(by rw [DN U,e1]);have aj: ∀{l:List Nat} {b:Bool},b=Dp l (listed.setIfInBounds i true)->alive l (listed.setIfInBounds i true)->b=false:=λe ha=>by
    rw [e]
    cases J:Dp _ (listed.setIfInBounds i true) with
    |false=>rfl
    |true=>
     obtain⟨k,V,J⟩:=List.any_eq_true.1 J;rw [ha k V] at J;cases J
   exact wpOp_mono (λa' w' ⟨g0,g1,am⟩=>⟨λha=>g0 (aj d0 ha),λha=>g1 (aj d1 ha),Be aa ab s n _ _ _ a' w' (by simpa using hs) d0 d1 g0 g1 (hN.list (by rw [I.1];simp)) I.2 am⟩) (Dl O h)
theorem Gm{id:Nat}{a:Act}{l:List Oper}(C0 C1:World->Prop)(l0 l1:List Nat)(s:Tr)(hm:P.follows .mixedOrders=true)(I:Region.noSelect l.toArray=true)
 (J:BC .any l.toArray l0 l1 s l.length (Array.replicate l.toArray.size false)=true) (h0:C0 { w with drawn:=w.drawn+1 }) (h1:C1 { w with drawn:=w.drawn+1 }) (O: ∀c a d v w,Q (.panic c) (Act.put a d v) w->Q (.panic c) a w)
 (h:A2 P l.toArray Q C0 C1 l0 l1 s false false a { w with drawn:=w.drawn+1 }):(Code.region id l.toArray true).wp P Q a w:=by
 refine wp_region_any hm (CF.any (C0:=C0) (C1:=C1) (l0:=l0) (l1:=l1) _ _ _ _ ?_);have hd: ∀l' :List Nat,false=Dp l' (Array.replicate l.toArray.size false):=λl' =>by
  unfold Dp
  symm
  rw [List.any_eq_false];intro k _;simp [Array.getD]
 have:=Be (md:= .any) (l0:=l0) (l1:=l1) I O s l.length false false (Array.replicate l.toArray.size false) a _ (by simp) (hd l0) (hd l1) (λ_=>h0) (λ_=>h1) (λm o U hm=>by have V:=(Array.getElem?_eq_some_iff.1 U).1;simp [Array.getD] at hm) J h
 simpa using this
end
end L3
variable {A:Option Addr}{B F:Nat->Prop}{W X X' w:World}{ad:Addr}{g k x:Nat}{l:List Nat}{v3:Value}
theorem Fj{B:Nat}{c:Nat}(h:W.ownsRow B 23 1 (.slice A l.length c) l.length (AF l)):AK W (λ_=>False) A (AF l):=by
 rcases I7 h with ⟨rfl,rfl,_⟩|⟨b,rfl,I⟩
 . exact .inl rfl
 . exact .inr ⟨b,0,rfl,(BM h rfl).2,λh=>h,λj u J=>by rw [Nat.zero_add];exact I j u J⟩
theorem AK.T7{b o:Nat}(h:AK w F (some ⟨b,o,none⟩) (AF l))(k:Nat):AK w F (some ⟨b,o+k,none⟩) (AF (l.drop k)):=by
 rcases h with h|⟨b',U,h1,I,J,O⟩
 . exact Ycn
 . simp only [Option.some.injEq,Addr.mk.injEq,and_true] at h1
   obtain⟨rfl,rfl⟩:=h1;refine .inr ⟨b,o+k,rfl,I,J,λj u hu=> ?_⟩;rw [Nat.add_assoc];refine O (k+j) u ?_;have e:AF (l.drop k)=(AF l).drop k:=(by unfold AF;rw [List.map_drop]);rw [e,List.getElem?_drop] at hu;exact hu
theorem Q4(w:World)(g c len l2:Nat)(I:len<=c)(J:1<len)(O:l2=len-1):(Instr.slice 46 (.slice (some ⟨g,0,none⟩) len c) (some (.int .i64 1)) none none).run prog w= .ok (.slice (some ⟨g,1,none⟩) l2 (c-1)) w:=by
 have h:=Vo w g c len 0 l2 (by omega) I (by omega) (by omega)
 simpa using h
theorem AK.off{vs:List Value}(h:AK W (λ_=>False) A vs)(I: ∀b o,A=some ⟨b,o,none⟩-> ¬F b):AK W F A vs:=by
 rcases h with h|⟨b,o,h1,J,U,O⟩
 . exact .inl h
 . exact .inr ⟨b,o,h1,J,I b o h1,O⟩
theorem KL(h: ∀x∈l,x<18446744073709551616)(k:Nat): ∀x∈l.drop k,x<18446744073709551616:=λx hx=>h x (List.mem_of_mem_drop hx)
theorem I1(h: ∀x∈l,x<18446744073709551616)(k:Nat): ∀x∈l.take k,x<18446744073709551616:=λx hx=>h x (List.mem_of_mem_take hx)
theorem Jp{m:List Nat}(h: ∀x∈l,x<18446744073709551616)(I: ∀x∈m,x<18446744073709551616): ∀x∈l++m,x<18446744073709551616:=λx hx=>(List.mem_append.1 hx).elim (h x) (I x)
theorem MP(h:x<18446744073709551616): ∀z∈ [x],z<18446744073709551616:=λz I=>by rw [List.mem_singleton.1 I];exact h
theorem setCell_eq{v:Value}(h:X.heap[k]? =w.heap[k]?):(X.setCell ad v).heap[k]? =(w.setCell ad v).heap[k]? :=by
 simp [World.setCell,Array.getElem?_modify,h]
section
variable  {a b:BN} {va vb:Option V3} {p q:Option Nat} {c6 c7:List Value}
theorem Way.base(h:Way w X a b va vb p q c6 c7)(O:ad.block<w.heap.size)(v:Value):Way (w.setCell ad v) (X.setCell ad v) a b va vb p q c6 c7:=by
 have hs: ∀W:World,(W.setCell ad v).heap.size=W.heap.size:=λW=>by simp [World.setCell]
 have J: ∀k,w.heap.size<=k->(X.setCell ad v).heap[k]? =X.heap[k]? :=λk I=>Below.heap_setCell X ad v k (by omega)
 refine⟨⟨h.low.os,h.low.tape,h.low.output,by rw [hs,hs];exact h.low.size,λk I=>setCell_eq (h.low.block k (by rwa [hs] at I))⟩,by rw [hs,hs];exact h.BS,λu hu=>(h.ra u hu).blocks λk I=>J k (h.BS.ge 0 k ⟨u,hu,I⟩),λu hu=>(h.rb u hu).blocks λk I=>J k (h.BS.ge 1 k ⟨u,hu,I⟩),λk I=>(h.x6 k I).block (J k (h.BS.ge 2 k I)),λk I=>(h.x7 k I).block (J k (h.BS.ge 3 k I))⟩
end
section
variable {s:Nat}  {R:Zr} {H:List Nat} {P q most last G:Nat}
theorem Dz.put{n:BN}{M bn I J Z aa:Nat}(af:Ah X s F R H P q most last G)(O:Dz X F M bn n (.slice (some ⟨I,0,none⟩) n.keys.length Z, .slice (some ⟨J,0,none⟩) n.Ab.length aa,v3))(ag:s<M)(ah:1<M){y:Nat}(ab:k<n.keys.length)(ac:k<n.Ab.length)(hx:x<18446744073709551616)(ai:y<18446744073709551616):
 Ah ((X.setCell ⟨I,k,none⟩ (.int .u64 x)).setCell ⟨J,k,none⟩ (.int .u64 y)) s F R H P q most last G/\Dz ((X.setCell ⟨I,k,none⟩ (.int .u64 x)).setCell ⟨J,k,none⟩ (.int .u64 y)) F M bn (n.Dm k x y) (.slice (some ⟨I,0,none⟩) n.keys.length Z, .slice (some ⟨J,0,none⟩) n.Ab.length aa,v3)/\Ad X (λz=>F z\/DH bn (.slice (some ⟨I,0,none⟩) n.keys.length Z, .slice (some ⟨J,0,none⟩) n.Ab.length aa,v3) z) ((X.setCell ⟨I,k,none⟩ (.int .u64 x)).setCell ⟨J,k,none⟩ (.int .u64 y)) (λz=>F z\/DH bn (.slice (some ⟨I,0,none⟩) n.keys.length Z, .slice (some ⟨J,0,none⟩) n.Ab.length aa,v3) z):=by
 have hs: ∀(W:World) (ad:Addr) (v:Value),(W.setCell ad v).heap.size=W.heap.size:=λW ad v=>by simp [World.setCell]
 have aj:bn≠I:=λe=>O.ob (by rw [e];exact .inl rfl)
 have al:bn≠J:=λe=>O.ob (by rw [e];exact .inr (.inl rfl))
 refine Dz.change af O ag ah (λe=>by rw [e] at ab;simp at ab) (λe=>by rw [e] at ac;simp at ac) (.inr ⟨rfl,λz U=> ?_⟩) ⟨rfl,rfl,rfl,by rw [hs,hs];exact Nat.le_refl _,λz U ae=> ?_,λz U=> .inl U⟩ ((O.box.other (p:=⟨I,k,none⟩) aj _).other (p:=⟨J,k,none⟩) al _) ((O.own.Yy k x).Aad k y) O.ob ⟨λz U=> ?_,λz U=> ?_,O.ok.kids,O.ok.size⟩
 . rw [Below.heap_setCell _ ⟨J,k,none⟩ _ z (λe=>O.own.a23 J rfl (by rw [<-(show z=J from e)];exact U)),Below.heap_setCell _ ⟨I,k,none⟩ _ z (λe=>O.own.Ow I rfl (by rw [<-(show z=I from e)];exact U))]
 . rw [Below.heap_setCell _ ⟨J,k,none⟩ _ z (λe=>ae (by rw [e];exact .inr (.inr (.inl rfl)))),Below.heap_setCell _ ⟨I,k,none⟩ _ z (λe=>ae (by rw [e];exact .inr (.inl rfl)))]
 . rcases List.mem_or_eq_of_mem_set U with V|V
   . exact O.ok.keys z V
   . rw [V];exact hx
 . rcases List.mem_or_eq_of_mem_set U with V|V
   . exact O.ok.Ab z V
   . rw [V];exact ai
end
theorem JT{R:Zr}{t:Nat}(O:BN.A0 t)(x:Nat):(Af R t x).Ab.length=(Af R t x).keys.length/\((Af R t x).kids= []\/(Af R t x).kids.length=(Af R t x).keys.length+1):=by
 by_cases he:Bk R t x=0
 . obtain⟨-,f1,f2,f3⟩:=(PE O).1 he
   exact⟨f2,f3.imp id And.left⟩
 . have U:Af R t x=BN.zero:=by
    unfold Bk at he;unfold Af
    cases J:R x with
    |none=>rfl
    |some ws=>
     exact Yed
   rw [U];exact⟨rfl, .inl rfl⟩
structure Tmp(X:World)(va:V3)(g x:Nat):Prop where
 N: ∀j u,(AF [x])[j]? =some u->X.cell? ⟨g,j,none⟩=some u
 lt:g<X.heap.size
 off: ¬By va g
theorem Tmp.below{va:V3}(h:Tmp X va g x)(I:Below X.heap.size X X'):Tmp X' va g x:=⟨λj u J=>(I.cell (p:=⟨g,j,none⟩) h.lt).trans (h.N j u J),Nat.lt_of_lt_of_le h.lt I.size,h.off⟩
def Ydl{P}(h:P:=by
 rcases O g J with U|U
 . exact h.off U
 . rcases hw.2 with V|V
   . exact I (V.symm.trans U)
   . have:=V g U;have:=h.lt;omega):=h
theorem Tmp.rw{va va' :V3}{r U :Option Nat}(h:Tmp X va g x)(hw:Rw X X' r U)(V: ∀k,r=some k->By va k)(O: ∀k,By va' k->By va k\/U =some k):Tmp X' va' g x:=by
 have I:r≠some g:=λe=>h.off (V g e)
 have Z:X'.heap[g]? =X.heap[g]? :=hw.1.block g h.lt (λe=>I e.symm);refine⟨λj u aa=>(World.cell?_of_block (a:=⟨g,j,none⟩) Z).trans (h.N j u aa),Nat.lt_of_lt_of_le h.lt hw.1.size,λJ=> ?_⟩;exact Ydl
theorem Tmp.YC{v1 v2 v':Value}(h:Tmp X (v1,v2,v3) g x)(hw:Rw X X' v1.ownBlock v'.ownBlock):Tmp X' (v',v2,v3) g x:=h.rw hw (λk I=> .inl I) (λk I=>by
 rcases I with I|I|I
 . exact .inr I
 . exact .inl (.inr (.inl I))
 . exact .inl (.inr (.inr I)))
def Yoo{P}(h:P:=by
 have I:=(Below.refl X.heap.size X).alloc (Nat.le_refl _) (Obj.cells #[.int .u64 x] 23);exact I):=h
theorem Way.tmp{a b:BN}{va vb:V3}{p q:Nat}{c6 c7:List Value}(h:Way w X a b (some va) (some vb) (some p) (some q) c6 c7)(x:Nat): ∃X' g,X.alloc (Obj.cells #[.int .u64 x] 23)=X' /\X.heap.size=g/\Way w X' a b (some va) (some vb) (some p) (some q) c6 c7/\Tmp X' va g x/\Below X.heap.size X X' :=by
 have I:=Yoo;exact⟨_,_,rfl,rfl,h.below I,⟨M8 X x _,by simp,λJ=>by have:=h.BS.lt 0 _ ⟨va,rfl,J⟩;omega⟩,I⟩
theorem take_one(h:0<l.length): [l[0]]=l.take 1:=by
 cases l with
 |nil=>simp at h
 |cons z l=>simp
theorem Lx{B':Nat->Prop}(h: ∃Y:Au B w,X=Y.W)(I: ∀z,B z->B' z): ∃Y:Au B' w,X=Y.W:=by
 obtain⟨⟨W,hs,J⟩,e⟩:=h;have e:X=W:=e;rw [e];exact⟨⟨W,hs,λk O U=>J k O λV=>U (I k V)⟩,rfl⟩
theorem Y1{r O :Option Nat}(h: ∃Y:Au B w,X=Y.W)(hw:Rw X X' r O)(U: ∀k,r=some k->B k): ∃Y:Au B w,X' =Y.W:=by
 obtain⟨⟨W,hs,V⟩,e⟩:=h;have e:X=W:=e;rw [e] at hw;exact⟨⟨X',Nat.le_trans hs hw.1.size,λk I J=>(hw.1.block k (Nat.lt_of_lt_of_le I hs) λe=>J (U k e.symm)).trans (V k I J)⟩,rfl⟩
