/- A part. -/
import Derived.Test.YtiopopoohglepaaGreatDoorPMxd
import Derived.Shelf.SlicesE.Compact
import Derived.Lib.OwnBridge
set_option linter.all false
set_option maxRecDepth 100000
set_option maxHeartbeats 4000000
namespace Go.Proofs.YtiopopoohglepaaGreatDoor
open Go.Proofs.Tryz
open Go.RowKit Go.Shelf Go.Sort
variable {B c x:Nat}{W w:World}{v:Value}{ws:List Nat}
def Tryz.Oy:Go.Shelf.Ren:=⟨fun|43=>110|n=>n,fun|22=>46|23=>23|3=>3|4=>4|0=>0|n=>n,fun|n=>n⟩
theorem Tryz.W9:Go.Proofs.SlLaysE.n43 Tryz.prog Tryz.Oy:={
 mixed:=by kernel_rfl
 f43:=⟨Tryz.f110.name,by decide,Tryz.func110.trans (congrArg some (by kernel_rfl))⟩
 t0:=Tryz.underlying0
 a0:=Tryz.isAgg0
 z0:=Tryz.sizeOf0
 v0:=Tryz.zeroValue0
 t3:=Tryz.underlying3
 a3:=Tryz.isAgg3
 z3:=Tryz.sizeOf3
 v3:=Tryz.zeroValue3
 t4:=Tryz.underlying4
 a4:=Tryz.isAgg4
 z4:=Tryz.sizeOf4
 v4:=Tryz.zeroValue4
 t22:=Tryz.underlying46
 a22:=Tryz.isAgg46
 z22:=Tryz.sizeOf46
 v22:=Tryz.zeroValue46
 a23:=Tryz.isAgg23
 z23:=Tryz.sizeOf23 }
theorem SD(w:World):(zeroValue 23).run prog w= .ok (.int .u64 0) w:=by kernel_rfl
section
theorem M6(c:Nat)(W:World):Calls prog 110 #[.slice none 0 c] W λe w' =>e= .returned (.slice none 0 c)/\w' =W:=by
 go_enter func110,ntmps110;go_wp2;go_ret;exact⟨rfl,rfl⟩
theorem Qf{g:Nat}{zs sp:List Nat}{T:List Value}(V:An W g 23 (AF zs++T))(af:zs.length<=100000000)(Z:zs.length<=c):
 Calls prog 110 #[.slice (some ⟨g,0,none⟩) zs.length c] W λe w' => ∃m:Nat,e= .returned (.slice (some ⟨g,0,none⟩) m c)/\(zs.Nodup->m=zs.length)/\ ∀B A,Below B A W->B<=g->Below B A w' :=by
 have aa:Holds (Value.int .u64) W g 0 (zs.map (λz:Nat=>(z:Int))).toArray:=by
  intro j I;have J :j<zs.length:=by simpa using I
  refine⟨?_,V.free _⟩;rw [Nat.zero_add,V.at' (v:= .int .u64 (zs[j]:Nat)) (by rw [List.getElem?_append_left (by rw [Dg];exact J)];exact EM J)];simp [J]
 have O:(zs.map (λz:Nat=>(z:Int))).toArray.size=zs.length:=by simp
 have h:=AnyE.slices_Compact Tryz.W9 (Value.int .u64) (λ_=>rfl) (EqlAt.intD _ _ _) (NeqAt.intD _ _ _) 0 SD g 0 c _ W aa (by rw [O];omega) (by rw [O];exact Z);rw [O] at h;refine h.mono ?_;rintro e w' ⟨rfl,q,rfl⟩;refine⟨_,rfl,λab=> ?_,λB A ac hg=>Lib.below_putRow ac hg⟩;have ae:=Lib.compactUpTo_all (zs.map (λz:Nat=>(z:Int))).toArray zs.length (λj I=>by
  rcases Nat.eq_zero_or_pos j with h0|h0
  . exact Lib.keeps_lt_one _ j (by omega)
  . refine Lib.keeps_pos ?_
    have h1:j-1<zs.length:=(by omega);simp only [I,h1,List.getElem!_toArray,List.length_map,getElem!_pos,List.getElem_map];intro U;have U:zs[j]=zs[j-1]:=(by exact_mod_cast U);exact(List.pairwise_iff_getElem.1 ab) (j-1) j h1 I (by omega) U.symm)
 rw [ae];simp
theorem K0{P:Option Addr}{b:Nat}(ab:P=some ⟨b,0,none⟩\/ws= [])(ac: ∀j (h:j<ws.length),w.cell? ⟨b,j,none⟩=some (.int .u64 (ws[j]:Nat)))(V:b<w.heap.size)(hlen:ws.length<=100000000):
 Calls prog 59 #[.slice P ws.length c] w λe w' => ∃af:Bool,e= .returned (.bool af)/\(ws.Nodup->af=false)/\Below w.heap.size w w' :=by
 have O:Below w.heap.size w (w.alloc (.cells #[.slice P ws.length c] 46)):=(Below.refl _ w).alloc (Nat.le_refl _) _;have ag:=Zh (RP (w:=w.alloc (.cells #[.slice P ws.length c] 46)) (bx:=w.heap.size) (c:=c) ab ((An.new w 46 [.slice P ws.length c]).at' (i:=0) rfl) (λj h=>(O.cell (p:=⟨b,j,none⟩) V).trans (ac j h)) (Nat.lt_of_lt_of_le V O.size) hlen);have ae:=Zh O;clear ab ac V O;go_enter func59,ntmps59;go_wp2_with fail;refine(RA P ws.length c w).mono ?_;rintro e w1 ⟨rfl,rfl⟩;generalize w.alloc (.cells #[.slice P ws.length c] 46)=w1 at*;go_wp2_with fail;refine ag.mono ?_;rintro e w2 ⟨v,zs,rfl,Z,aa,I⟩;have ar:zs.length<=100000000:=by rw [Z.length_eq];exact hlen
 have au:=Zh (λh:ws.Nodup=>Z.nodup_iff.2 h);have ah:=Dt;have ai:=Zh (TS aa (by omega));have aj:Hid (∀v' w3,Sy w3 w2.heap.size v' zs->Below w2.heap.size w2 w3-> ∃A c,v' = .slice A zs.length c/\Calls prog 110 #[.slice A zs.length c] w3 λe w' => ∃m:Nat,e= .returned (.slice A m c)/\(zs.Nodup->m=zs.length)/\Below w2.heap.size w2 w'):=Zh (by
  rintro v' w3 (⟨rfl,U⟩|⟨g,cap,rfl,hg,aw,sp,ax⟩) J
  . refine⟨none,0,by rw [U];rfl, ?_⟩
    rw [U];exact(M6 0 w3).mono (by rintro e w' ⟨rfl,rfl⟩;exact⟨0,rfl,λ_=>rfl,J⟩)
  . exact⟨_,_,rfl,(Qf (sp:= []) ax ar aw).mono (by rintro e w' ⟨m,rfl,h1,U⟩;exact⟨m,rfl,h1,U _ _ J hg⟩)⟩)
 obtain⟨al,c1,ay⟩: ∃al c1,v= .slice al zs.length c1:=by
  rcases aa with ⟨rfl,rfl⟩|⟨g,cap,rfl,_⟩
  . exact⟨_,_,rfl⟩
  . exact⟨_,_,rfl⟩
 subst ay;clear aa I ag Z;go_wp2_with fail;refine ai.mono ?_;rintro e w3 ⟨v',rfl,am,J⟩;obtain⟨aA,c2,rfl,an⟩:=aj.out v' w3 am J;have az:=Zh an;clear am J ai aj an;go_wp2_with fail;refine az.mono ?_;rintro e w4 ⟨m,rfl,hm,ao⟩;have aq:=Zh (And.intro hm (ah.trans (ao.mono ah.size)));clear hm ao;go_wp2;go_ret;refine⟨_,rfl,λh=> ?_,aq.2⟩;rw [aq.1 (au.out h)];simp
theorem KH(h:w.ownsRow B 23 1 v ws.length (AF ws))(hw:0<w.heap.size)(hlen:ws.length<=100000000):
 Calls prog 59 #[v] w λe w' => ∃I:Bool,e= .returned (.bool I)/\(ws.Nodup->I=false)/\Below w.heap.size w w' :=by
 rcases NK h with ⟨rfl,rfl⟩|⟨g,cap,rfl,hg,O,sp,J⟩
 . exact K0 (b:=0) (ws:= []) (.inr rfl) (λj h=>absurd h (Nat.not_lt_zero _)) hw hlen
 . exact K0 (.inl rfl) (λj h=>J.at' (by rw [List.getElem?_append_left (by rw [Dg];exact h)];exact EM h)) J.lt hlen
end
def M1(R:Zr)(l:List (Nat × Nat))(j:Nat):Prop:=
 De R (l.getD j (0,0)).1=0/\De R (l.getD j (0,0)).2=0/\(j=0\/Tx.cmp (BG R (l.getD (j-1) (0,0)).1) (BG R (l.getD j (0,0)).1)<0)
def JY(l:List (Nat × Nat)):List Nat:=l.flatMap λp=> [p.1,p.2]
theorem WL(l:List (Nat × Nat))(p:Nat × Nat):JY (l++ [p])=JY l++ [p.1,p.2]:=by simp [JY]
theorem YT(l:List (Nat × Nat)):(JY l).length=2*l.length:=by
 induction l with
 |nil=>rfl
 |cons p l ih=>simp only [JY,List.flatMap_cons,List.length_append,List.length_cons,List.length_nil] at ih ⊢;omega
def MF(R:Zr)(t x:Nat):Bool:=if Bk R t x≠0 then false else Ce R t (Bo R t 40 x-1) true x
structure SC(R:Zr)(t x:Nat)(Aa:List (Nat × Nat))(ns:List Nat)(er:Nat):Prop where
 e:er=0\/er=8
 say:er=0->(∀j,j<Aa.length->M1 R Aa j)/\Aa.length=(Af R t x).size
 Acb:MF R t x=true->(∀j,j<Aa.length->M1 R Aa j)->(ns++JY Aa).Nodup->Aa.length=(Af R t x).size->er=0
 bad:MF R t x=false->er=8
theorem V4(W:World)(T:TypeId)(a b:Value)(j:Nat)(u:Value)(h: [a,b][j]? =some u):(W.alloc (.cells #[a,b] T)).cell? ((⟨W.heap.size,0,none⟩:Addr).add j)=some u:=by
 rw [show(⟨W.heap.size,0,none⟩:Addr).add j=⟨W.heap.size,j,none⟩ by unfold Addr.add;split<;>simp_all]
 exact(An.new W T [a,b]).at' h
section
variable {s N:Nat} {R:Zr} {nn:Nat}
theorem Wg{t:Nat}:Bo R t 40 x=0↔Bk R t x≠0:=by
 unfold Bo;by_cases h:Bk R t x=0
 . rw [if_neg (λI=>I h)]
   split<;>simp [h]
 . rw [if_pos h];simp [h]
theorem OV(h:Rd N w s R nn)(t:Nat)(al:BN.A0 t)(x:Nat)(hx:x<18446744073709551616)(he:Bk R t x≠0)(top:Bool)(a:Int):
 Calls prog 60 #[.agg #[.pointer (some ⟨s,0,none⟩), .int .i64 t], .int .u64 x, .bool top, .int .i64 a] w λe w' =>e= .returned (.bool false)/\Below w.heap.size w w' :=by
 obtain⟨O,U⟩:=Zx (w.alloc (Obj.cells #[.pointer (some ⟨s,0,none⟩), .int .i64 t] 96));have J:=EI;obtain⟨ag,ac⟩:=Zx w.heap.size;have ab:=YF;have ae:=ZE;obtain⟨I,V⟩:=K7;have af:=Zh ab;have ay:2<=t:=al.1;have az:t<=16:=al.2;clear U ac ab h J al;go_enter func60,ntmps60;obtain⟨ah,ai⟩:=AX af.out;rw [V.1,V.2] at ah ai;go_wp2_with fail;rw [<-V.1,<-V.2];refine ae.mono ?_;rintro e w2 ⟨v1,v2,v3,rfl,Z,aa⟩;obtain⟨aj,q1,rfl⟩:=Ae Z.r1;obtain⟨an,ao,rfl⟩:=Ae Z.r2;obtain⟨aq,ar,rfl⟩:=Ae Z.r3;obtain⟨n,au⟩:=Zx (Af R t x);rw [<-au];have aw:=Zh ((I.trans (aa.mono I.size)).alloc (I.trans (aa.mono I.size)).size (Obj.cells #[.slice aj n.keys.length q1, .slice an n.Ab.length ao, .slice aq n.kids.length ar, .int .u64 n.size] 100));have ax:=(af.below aa).alloc (Obj.cells #[.slice aj n.keys.length q1, .slice an n.Ab.length ao, .slice aq n.kids.length ar, .int .u64 n.size] 100);have f41:=ax.at' (i:=1) rfl;clear au aa Z ah ai ae ax;generalize n.keys.length=n1 at*;generalize n.Ab.length=n2 at*;generalize n.kids.length=n3 at*;generalize n.size=aA at*;rw [decide_eq_false he]
 cases top
 . go_wp2
   go_ret;exact⟨rfl,aw⟩
 . go_wp2
   go_ret;exact⟨rfl,aw⟩
theorem Z1(h:Rd N w s R nn)(t:Nat)(I:BN.A0 t)(x:Nat)(hx:x<18446744073709551616):
 Calls prog 60 #[.agg #[.pointer (some ⟨s,0,none⟩), .int .i64 t], .int .u64 x, .bool true, .int .i64 ((Bo R t 40 x:Nat)-1:Int)] w λe w' =>e= .returned (.bool (MF R t x))/\Below w.heap.size w w' :=by
 by_cases he:Bk R t x=0
 . have h1:Bo R t 40 x≠0:=λJ=>Wg.1 J he
   have O:=I4 (R:=R) (t:=t) 40 x;rw [show((Bo R t 40 x:Nat)-1:Int)=((Bo R t 40 x-1:Nat):Int) by omega,show MF R t x=Ce R t (Bo R t 40 x-1) true x by unfold MF;rw [if_neg (by omega)]];exact UH t I _ (by omega) w h true x hx
 . rw [show MF R t x=false by unfold MF;rw [if_pos he]]
   exact OV h t I x hx he true _
end
def YD(p:Nat × Nat):Prop:=p.1<18446744073709551616/\p.2<18446744073709551616
theorem Yn(l:List Nat)(a b:Nat):AF (l++ [a,b])=AF l++ [.int .u64 a, .int .u64 b]:=by simp [AF]
theorem ZW{w':World}{o:Obj}{v':Value}(hg:(W.alloc o).grownBy w' v.ownBlock)(I:v'.ownBlock=v.ownBlock\/v'.ownBlock=some (W.alloc o).heap.size):Rw W w' v.ownBlock v'.ownBlock:=by
 refine⟨⟨hg.os,hg.tape,hg.output,Nat.le_trans (by simp) hg.size,λk J O=>(hg.block k (by simp;omega) O).trans (Below.heap_alloc W o k J)⟩, ?_⟩;rcases I with V|V
 . exact .inl V
 . exact Yfc
theorem JX{A:Option Addr}{n:Nat}{l:List (Nat × Nat)}(h:W.ownsRow B 31 2 (.slice A n c) n (EK l))(U:n=l.length)(V:0<n):
 ∃g,A=some ⟨g,0,none⟩/\B<=g/\g<W.heap.size/\ ∀j (h:j<l.length),W.cell? ⟨g,j*2,none⟩=some (.int .u64 (l[j].1:Nat))/\W.cell? ⟨g,j*2+1,none⟩=some (.int .u64 (l[j].2:Nat)):=by
 have h0:=h;rcases h.2 with ⟨_,I⟩|⟨g,cap,cur,h1,I,J,_⟩
 . omega
 . cases h1
   refine⟨g,rfl,I,(Array.getElem?_eq_some_iff.1 J).1,λj O=> ?_⟩;have:=PW l j O;rw [h0.cellAt (j*2) (by omega),h0.cellAt (j*2+1) (by omega)];exact this
section
variable {R:Zr} {t:Nat}
theorem Ko(J: ∀y,Bk R t y=0-> ∀i,(Af R t y).keys.getD i 0<18446744073709551616/\(Af R t y).Ab.getD i 0<18446744073709551616): ∀(f:Nat) (o:List (Nat × Nat) × Nat) (h:Nat),(∀p∈o.1,YD p)-> ∀p∈(AO R t f o h).1,YD p
 |0,o,h,I=>by unfold AO;exact I
 |f+1,o,h,I=>by
  unfold AO
  split
  . exact I
  . next U=>
    have h0:Bk R t h=0:=(Classical.byContradiction λV=>U (.inl V));have O:=Ko J f;have Z: ∀(m i:Nat) (o:List (Nat × Nat) × Nat),(∀p∈o.1,YD p)-> ∀p∈(AO.lsFrom (Af R t h) (AO R t f) m i o).1,YD p:=by
     intro m
     induction m with
     |zero=>
      intro i o I;unfold AO.lsFrom
      split
      . exact I
      . exact O o _ I
     |succ m ihm=>
      intro i o I;unfold AO.lsFrom;refine ihm (i+1) _ ?_;unfold AO.lsStep;intro p hp;rcases List.mem_append.1 hp with h1|h1
      . split at h1
        . exact I p h1
        . exact O o _ I p h1
      . obtain rfl:=List.mem_singleton.1 h1
        exact J h h0 i
    exact Z _ 0 (o.1,o.2-1) I
theorem Pe{l:List Nat}(h:Z7 l)(i:Nat):l.getD i 0<18446744073709551616:=by
 by_cases hi:i<l.length
 . have:=h i hi
   simpa [hi] using this
 . simp [hi]
theorem VO(h:(Af R t x).size<18446744073709551616):IntKind.u64.wrap (Cq R t x)=((Af R t x).size:Nat):=by
 rw [IntKind.wrap_u64];unfold Cq wrap64;omega
end
section
variable {s N:Nat} {R:Zr} {nn:Nat}
def Yah{P}(h:P:=by
 have J:=Zh (B6 aP aw);have af:=Zh (ao.trans (aw.mono ao.size));have U:=Zh (aJ.trans (Rw.below aw _));have I:=aL.below aw.out;obtain⟨V,Z⟩:=AX I;have ag:O.heap.size<=au.heap.size:=Nat.le_trans bk aw.size;have aa:Hid (∀i,i<j+1->M1 R L i):=Zh (λi hi=>by
  rcases Nat.lt_or_ge i j with az|az
  . exact aD.out i az
  . obtain rfl:i=j:=by omega
    exact aE.out)
 clear I;go_wp2_with (at_builtin;refine wpList_append_own_at _ rfl _ _ 46 rfl O.heap.size 23 i0 (.int .u64 0) 1 8 Tryz.BH hi aO aQ aR rfl (by decide) _ _ _ rfl (J.alloc _) ⟨au.heap.size,0,none⟩ 2 2 [.int .u64 ai, .int .u64 ab] rfl rfl (V4 au _ _ _) (by simp [Value.oneCell']) (by unfold maxLen;omega) (by omega) (by first|(simp;done)|(simp;omega)) ?_;intro v' aK aG aF _ aH)
 have ac:=Zh (show aK.ownsRow O.heap.size 23 1 v' (ar++ [ai,ab]).length (AF (ar++ [ai,ab])) by rw [Yn,List.length_append];exact aG);have ae:=Zh (U.trans (ZW aF aH));clear aG aF aH V Z;go_wp2;go_roundw
 case rel=>exact⟨_,j+1,rfl,by omega,by go_num,aa,Zh ⟨by rw [aM.out];exact ac.out,ae⟩⟩
 case measure=>simp [intOf];omega):=h
def Ybz{P}(h:P:=by
 go_wp2;refine Ek ay (by kernel_rfl) ?_
 repeat (go_big_quiet_step (fail))
 refine wpQuiet_nil ?_;rintro _ ⟨X,rfl⟩;have I:=Zh (ao.trans (X.h.mono ao.size));go_wp2;go_ret;obtain⟨er,h1,J⟩:=ax.out;exact⟨er,h1,J,I⟩):=h
def Ygt{P}(h:P:=by
 have I:=Zh (aZ.trans (ah.mono aZ.size));exact I):=h
def Ygu{P}(h:P:=by
 have I:=Zh (aq.trans (an.mono aq.size));exact I):=h
theorem L5(h:Rd N w s R nn)(bm:A6 R)(t:Nat)(V:BN.A0 t)(x:Nat)(hx:x<18446744073709551616)(dt:x≠0):
 Calls prog 21 #[.pointer (some ⟨s,0,none⟩), .int .i64 t, .int .u64 x] w λe w' => ∃er:Nat,e= .returned (.int .i64 er)/\SC R t x (AO R t 40 ([],BF nn t) x).1 (Bc R t (BF nn t) 40 [] x) er/\Below w.heap.size w w' :=by
 have ay:=OO;obtain⟨h,hle,hA⟩:=Yqa;obtain⟨i0,hi,aO,aQ,aR⟩:=info_parts Tryz.CZ;obtain⟨O,U⟩:=Zx (w.alloc (Obj.cells #[.pointer (some ⟨s,0,none⟩), .int .i64 t] 96));have J:=EI;obtain⟨ag,ac⟩:=Zx w.heap.size;have bo:=YF;have bS:=Zh (JM (h.below J) t V x hx);have bT:=Zh (λW (aS:Below w.heap.size w W)=>QN (h.below aS) t V x hx);have bp:=Zh (λW (aS:Below w.heap.size w W)=>Z1 (h.below aS) t V x hx);have bq:=Zh (λW (aS:Below w.heap.size w W)=>Pw (h.below aS) t V x hx);have bU:Hid (∀W,Below w.heap.size w W-> ∀y,y<18446744073709551616->Calls prog 43 #[.pointer (some ⟨s,0,none⟩), .int .u64 (y:Nat)] W λe w' =>e= .returned (.tuple #[.string (BG R y), .int .i64 (De R y:Nat)])/\Below W.heap.size W w'):=Zh (λW aS y aW=>by
  have:=Hq (h.below aS) bm y aW;unfold G7 at this;exact this)
 have cK:=Zh (λW (aS:Below w.heap.size w W) y aW=>PJ (h.below aS) bm t y aW);have cL:=Zh (λW (aS:Below w.heap.size w W)=>E6 (h.below aS) t V x hx);have cM:=Lu (t:=t) hle;have du:(Bc R t (BF nn t) 40 [] x).length<=262145:=by
  have:=(IB (R:=R) (t:=t) (most:=BF nn t) 40 [] x).2;simp only [List.length_nil] at this;omega
 have cN:(AO R t 40 ([],BF nn t) x).1.length<=8650785:=by
  have:=I5 (R:=R) (t:=t) (λy aW=>by
   have:=(BR h V aW).1.1;have:=V.2;omega) 40 ([],BF nn t) x
  simp only [List.length_nil] at this;omega
 have a8:Hid (∀p∈(AO R t 40 ([],BF nn t) x).1,YD p):=Zh (Ko (λy aW i=>⟨Pe (BR h V aW).2.1 i,Pe (BR h V aW).2.2.1 i⟩) 40 ([],BF nn t) x (λp hp=>by simp at hp));have bV:(Af R t x).size<18446744073709551616:=by
  by_cases bW:Bk R t x=0
  . exact(BR h V bW).2.2.2.2
  . rw [Nr bW];show 0<_;decide
 have bX:=Zh (VO bV);obtain⟨ae,bY⟩:=K7;have cO:=Zh bo;have bZ:ag<O.heap.size:=bo.lt;clear cM hle U ac J bo h bV bm;obtain⟨L,b3⟩:=Zx ((AO R t 40 ([],BF nn t) x).1);rw [<-b3] at cN a8 bq ⊢;clear b3;generalize Bc R t (BF nn t) 40 [] x=M at*;have dv:=I4 (R:=R) (t:=t) 40 x;generalize Bo R t 40 x=hg at*;generalize Cq R t x=dw at*;obtain⟨sz,br⟩:=Zx ((Af R t x).size);have b4:=Zh br;rw [<-br] at bX;clear br;obtain⟨cP,bs⟩:=Zx (MF R t x);have b5:=Zh bs;rw [<-bs] at bp;clear bs;have dx:((x:Int)==0)=false:=by simp;omega
 go_enter func21,ntmps21;go_wp2_with fail;refine hA.mono ?_;rintro e w1 ⟨rfl,rfl⟩;go_wp2_with fail;rw [<-bY.1,<-bY.2];refine bS.mono ?_;rintro e w2 ⟨v9,rfl,bu,I⟩;have aA:=Dt;have b8:=Zh (λW (aS:Below w2.heap.size w2 W)=>KH (B6 bu aS) (Nat.lt_of_lt_of_le (Nat.lt_of_le_of_lt (Nat.zero_le _) bZ) (Nat.le_trans I.size aS.size)) (by omega));have a9:=Zh (cO.below I);have b9:=λX:Au (λ_=>False) w2=>X.cell (a9.at' (i:=0) rfl) (λh=>h)
 have cb:=λX:Au (λ_=>False) w2=>X.cell (a9.at' (i:=1) rfl) (λh=>h)
 have cc:=Zh bu;have cd:Hid (O.heap.size<=w2.heap.size):=Zh I.size;clear I bu bS;go_wp2;refine As (λw' => ∃X:Au (λ_=>False) w2,w' =X.W) [.r 0, .a 1, .r 2, .r 3, .r 4, .r 5, .r 6, .r 7, .a 8, .r 9, .a 10, .r 11, .r 12] (Ay _ _) ?_;refine AH ?_;go_simp;refine AI _ rfl (λaV aT=> ?_);go_wp2_with fail;refine(b8 _ (Ac w2)).mono ?_;rintro e dy ⟨bv,rfl,a2,ce⟩;have af:=Zh ((Ac w2).trans ce);have cf:=Zh a2;clear ce a2 b8;go_wp2;refine aT _ _ (Ag af) ?_;clear aT aV
 cases bv
 case true=>
  refine AH ?_;go_simp;refine El _ rfl rfl ?_;go_simp;refine El _ rfl rfl ?_;go_simp;refine El _ rfl rfl ?_;go_simp;refine El _ rfl rfl ?_;go_simp;refine El _ rfl rfl ?_;go_simp;refine AI _ rfl (λaV aT=> ?_);go_wp2;refine aT _ _ (Ag af) ?_;clear aT aV;refine El _ rfl rfl ?_;go_simp;refine AI _ rfl (λaV aT=> ?_);go_wp2;refine aT _ _ (Ag af) ?_;clear aT aV b9 cb;refine El _ rfl rfl ?_;go_simp;refine AH ?_;go_simp;refine AP ?_;have cQ:=Zh (aA.trans (af.mono aA.size));go_wp2;go_ret;exact⟨8,rfl,⟨.inr rfl,λh=>(by cases h),λ_ _ bb _=>(by have:=cf.out (List.nodup_append.1 bb).1;cases this),λ_=>rfl⟩,cQ⟩
 iterate 6 (refine AH ?_;go_simp)
 clear b9 cb;refine AI _ rfl (λaV aT=> ?_);go_wp2_with fail;refine(bT _ (aA.trans (af.mono aA.size))).mono ?_;rintro e dz ⟨rfl,aa⟩;have al:=K8;clear aa af;go_wp2;refine aT _ _ (Ag al) ?_;clear aT aV;refine AH ?_;go_simp;refine AI _ rfl (λaV aT=> ?_);go_wp2_with fail;refine(bp _ (aA.trans (al.mono aA.size))).mono ?_;rintro e w3 ⟨rfl,Z⟩;have aw:=OZ;clear Z al;go_wp2;refine aT _ _ (Ag aw) ?_;clear aT aV
 iterate 2 (refine AH ?_;go_simp)
 refine AP ?_;have aZ:=ZA;have cg:=Zh (B6 cc aw);have cR:=Zh (a9.below aw);have cT:Hid (O.heap.size<=w3.heap.size):=Zh (Nat.le_trans cd aw.size);clear a9 aw cc cd aA bT bp cf
 cases cP
 . go_wp2
   go_ret;exact⟨8,rfl,⟨.inr rfl,λh=>(by cases h),λh1=>(by rw [<-b5.out] at h1;cases h1),λ_=>rfl⟩,aZ⟩
 . go_wp2_with fail
   refine(bq w3 aZ).mono ?_;rintro e w4 ⟨v10,rfl,bw,ah⟩;obtain⟨dA,dB,rfl⟩:=Ae bw;have ci:=Ygt;have cU:=Zh (B6 cg ah);have cj:=Zh (cR.below ah);have cV:Hid (O.heap.size<=w4.heap.size):=Zh (Nat.le_trans cT ah.size);have cW:=Zh bw;have bc:Hid (∀k,v9.ownBlock=some k->O.heap.size<=k/\k<w3.heap.size):=Zh (λk bz=>BM cg.out bz);clear ah bw bq;obtain⟨bA,bB⟩:=Zx v9.ownBlock;rw [<-bB] at bc;have cX:=Zh bB;clear bB;go_wp2
   go_loopw [9,51] (λv0 bC wr=> ∃(vv:Value) (j:Nat),vv=v0/\j<=L.length/\bC= .int .i64 j/\Hid (∀i,i<j->M1 R L i)/\Hid (wr.ownsRow O.heap.size 23 1 vv (M++JY (L.take j)).length (AF (M++JY (L.take j)))/\Rw w4 wr bA vv.ownBlock)) (λ_ bC _=>L.length-(intOf bC).toNat)
   case atStart=>exact⟨_,0,rfl,Nat.zero_le _,rfl,Zh (λi hi=>absurd hi (Nat.not_lt_zero _)),Zh ⟨by rw [show M++JY (L.take 0)=M by simp [JY]];exact cU.out,by rw [cX.out];exact Rw.below (Below.refl _ _) _⟩⟩
   case round=>
    obtain⟨vv,j,rfl,dC,rfl,aD,aU⟩:=hrel;have aq:=Zh (ci.trans (aU.2.low ci.size (λk bz=>Nat.le_trans ae.size (bc k bz).1)));have ba:Hid (O.heap.size<=wr.heap.size):=Zh (Nat.le_trans cV aU.2.1.size);have cY:some ag≠bA:=(λe=>by have:=(bc ag e.symm).1;omega);have bD:Hid (An wr ag 96 [.pointer (some ⟨s,0,none⟩), .int .i64 t]):=Zh (cj.block (aU.2.1.block ag cj.lt cY));obtain⟨ar,bd⟩:=Zx (M++JY (L.take j));have dD:ar.length<=17563715:=by
     rw [bd,List.length_append,YT,List.length_take];omega
    rw [<-bd] at aU;have ck:=Zh bd;clear bd;by_cases aY:j<L.length
    ·
     as_aux_lemma=>
     obtain⟨g10,cZ,dE,dF,be⟩:=JX cW rfl (by omega);subst cZ;have bE:some g10≠bA:=(λe=>by have:=(bc g10 e.symm).2;omega);obtain⟨ai,a3⟩:=Zx (L[j].1);obtain⟨ab,a4⟩:=Zx (L[j].2);have f1:=aU.2.cell (be j aY).1 bE;have f2:=aU.2.cell (be j aY).2 bE;rw [<-a3] at f1;rw [<-a4] at f2;have c8:ai<18446744073709551616:=(by rw [a3];exact(a8 _ (List.getElem_mem aY)).1);have c9:ab<18446744073709551616:=(by rw [a4];exact(a8 _ (List.getElem_mem aY)).2);have aM:Hid (M++JY (L.take (j+1))=ar++ [ai,ab]):=Zh (by rw [List.take_succ_eq_append_getElem aY,WL,ck.out,a3,a4,List.append_assoc]);have da:Hid (L.getD j (0,0)=(ai,ab)):=Zh (by rw [a3,a4];simp [aY]);obtain⟨bF,a5⟩:=Zx (wr.alloc (Obj.cells #[.int .u64 ai, .int .u64 ab] 31));obtain⟨b12,bf⟩:=Zx wr.heap.size;have DY:An bF b12 31 [.int .u64 ai, .int .u64 ab]:=(by rw [a5,bf];exact An.new wr _ _);have an:Below wr.heap.size wr bF:=(by rw [a5];exact(Below.refl _ wr).alloc (Nat.le_refl _) _);have aX:=Ygu;have bG:=Zh (λm (hm:m<L.length)=>aU.2.cell (be m hm).1 bE);have cl:=Zh aU.1;have cn:=Zh aU.2;have bH:=Zh an;have co:=Zh DY;have bI:=Zh (And.intro a5 bf);obtain⟨cp,s1⟩:=AX DY;rw [a5,bf] at cp s1;have cr:=Zh (bU bF aX ai c8);clear a3 a4 be aU a5 bf an DY;go_wp2_with fail;rw [<-bI.1,<-bI.2];refine cr.mono ?_;rintro e w6 ⟨rfl,a0⟩;have bg:=co.below a0;have db:=bg.at' (i:=1) rfl;have dc:=bg.at' (i:=0) rfl;have cs:=Zh (bU w6 (aX.trans (a0.mono aX.size)) ab c9);have bJ:=Zh a0;have cu:=Zh bg;clear a0 cr cp s1 bg;go_wp2_with fail;refine cs.mono ?_;rintro e aj ⟨rfl,bK⟩;have aL:=Zh (cu.below bK);have a1:=bH.trans ((bJ.trans (bK.mono bJ.size)).mono bH.size);have ao:=Zh (aq.trans (a1.mono aq.size));have aP:=Zh (B6 cl a1);have aJ:=Zh (cn.trans (Rw.below a1 _));have bk:=Yph;have cv:=Zh (bD.below a1);have dd:=Zh (λm (hm:m<L.length)=>(a1.cell (p:=⟨g10,m*2,none⟩) (Am (bG m hm))).trans (bG m hm));clear a1 bK cs bJ bH cu co bI dc db cl cn bG bD;obtain⟨k1,aC⟩:=Zx (BG R ai);obtain⟨bL,aB⟩:=Zx (De R ai);obtain⟨bM,aN⟩:=Zx (De R ab);rw [<-aC,<-aB];generalize BG R ab=k2 at*;rw [<-aN];have dG:=QG;have bh:Hid (M1 R L j↔bL=0/\bM=0/\(j=0\/Tx.cmp (BG R (L.getD (j-1) (0,0)).1) k1<0)):=Zh (by unfold M1;rw [da.out,aB,aN,aC]);clear aC aB aN;have bN:Hid (¬M1 R L j-> ∃er:Nat,(Ending.returned (.int .i64 (8:Int))= .returned (.int .i64 er))/\SC R t x L M er):=Zh (λaS=>⟨8,rfl, .inr rfl,λh=>(by cases h),λ_ bO=>absurd (bO j aY) aS,λ_=>rfl⟩);by_cases cw:bL=0
     . subst cw
       by_cases cx:bM=0
       . subst cx
         by_cases cy:j=0
         . have aE:Hid (M1 R L j):=Zh (bh.2 ⟨rfl,rfl, .inl cy⟩)
           have de:decide ((j:Int)>0)=false:=decide_eq_false (by omega);go_wp2;refine Ek ay (by kernel_rfl) ?_
           repeat (go_big_quiet_step (fail))
           refine wpQuiet_nil ?_;rintro _ ⟨X,rfl⟩;have aw:=Zh X.h;generalize X.W=au at*;exact Yah
         . have bi:j-1<L.length:=by omega
           obtain⟨pm,bj⟩:=Zx (L[j-1].1);have df:pm<18446744073709551616:=(by rw [bj];exact(a8 _ (List.getElem_mem bi)).1);have bP:=dd.out (j-1) bi;rw [<-bj] at bP;have dg:Hid ((L.getD (j-1) (0,0)).1=pm):=Zh (by rw [bj];simp [bi]);have cz:=Zh (λX:BK aj=>cK X.W (ao.trans (X.h.mono ao.size)) pm df);have de:decide ((j:Int)>0)=true:=decide_eq_true (by omega);have dH:decide (0<j)=true:=decide_eq_true (by omega);have cB:(j:Int)-1=((j-1:Nat):Int):=(by omega);have cC:IntKind.i64.wrap ((j-1:Nat):Int)=((j-1:Nat):Int):=(by rw [IntKind.wrap_i64];omega);clear bj;obtain⟨a6,bQ⟩:=Zx (BG R pm);rw [<-bQ] at cz;have dh:Hid (∀X:BK aj,Calls prog 62 #[.string a6, .string k1] X.W λe w' =>e= .returned (.int .i64 (Tx.cmp a6 k1))/\Below X.W.heap.size X.W w'):=Zh (λX=>(Tx.LM a6 k1 X.W).mono (by rintro e w' ⟨rfl,rfl⟩;exact⟨rfl,Below.refl _ _⟩));have cD:Hid (M1 R L j↔Tx.cmp a6 k1<0):=Zh (by rw [bh.out,dg.out,<-bQ];exact⟨λh=>h.2.2.resolve_left cy,λh=>⟨rfl,rfl, .inr h⟩⟩);have di:=(λX:BK aj=>X.cell (cv.at' (i:=0) rfl));have dj:=(λX:BK aj=>X.cell (cv.at' (i:=1) rfl));have cF:=(λX:BK aj=>X.cell bP);clear bQ bP;generalize Tx.cmp a6 k1=bR at*;obtain⟨dI,cG⟩:=Zx (j-1);rw [<-cG] at cB cC cF bi;clear cG;go_wp2;refine Ek ay (by kernel_rfl) ?_
           repeat (go_big_quiet_step ((first|(go_at_call 63;exact I9 (cz _))|(go_at_call 62;exact I9 (dh _)))))
           refine wpQuiet_nil ?_;rintro _ ⟨X,rfl⟩;have aw:=Zh X.h;generalize X.W=au at*;clear di dj cF cB cC;by_cases cH:bR<0
           . have dk:decide (bR>=0)=false:=decide_eq_false (by omega)
             have aE:Hid (M1 R L j):=Zh (cD.2 cH);exact Yah
           . have dk:decide (bR>=0)=true:=decide_eq_true (by omega)
             have ax:=Zh (bN (λh=>cH (cD.1 h)));have dl:=Zh (ao.trans (aw.mono ao.size));go_wp2;go_ret;obtain⟨er,h1,bO⟩:=ax.out;exact⟨er,h1,bO,dl⟩
       . have d2:((bM:Int) !=0)=true:=by simp;omega
         have ax:=Zh (bN (λh=>cx (bh.1 h).2.1));exact Ybz
     . have d1:((bL:Int) !=0)=true:=by simp;omega
       have ax:=Zh (bN (λh=>cw (bh.1 h).1));exact Ybz
    ·
     as_aux_lemma=>
     obtain rfl:j=L.length:=by omega
     have dm:=Zh (KH aU.1 (Nat.lt_of_lt_of_le (Nat.lt_of_le_of_lt (Nat.zero_le _) bZ) ba) (by omega));have dn:Hid (ar=M++JY L):=Zh (by rw [ck.out,List.take_length]);clear aU;go_wp2_with fail;refine dm.mono ?_;rintro e dp ⟨bv,rfl,a2,an⟩;have aX:=Ygu
     cases bv
     . have dq:=Zh (cL dp aX)
       have cI:=bD.below an;obtain⟨dJ,q1⟩:=AX cI;have dr:IntKind.u64.wrap (L.length:Nat)=(L.length:Nat):=(by rw [IntKind.wrap_u64];omega);have dK:=bX.out;clear a2 an cI;go_wp2_with fail;refine dq.mono ?_;rintro e w6 ⟨rfl,a0⟩;have cJ:=Zh (aX.trans (a0.mono aX.size));clear a0;by_cases hle:L.length=sz
       . have a7:Hid (SC R t x L M 0):=Zh ⟨.inl rfl,λ_=>⟨aD,(by rw [hle];exact b4.out)⟩,λ_ _ _ _=>rfl,λh1=>(by rw [<-b5.out] at h1;cases h1)⟩
         rw [hle] at dr;have dL :(L.length:Int)=(sz:Nat):=(by omega);go_wp2;go_ret;exact⟨0,rfl,a7,cJ⟩
       . have a7:Hid (SC R t x L M 8):=Zh ⟨.inr rfl,λh=>(by cases h),λ_ _ _ ds=>absurd (by rw [b4.out];exact ds) hle,λ_=>rfl⟩
         have dM: ¬((L.length:Int)=(sz:Nat)):=(by omega);have dN :((L.length:Int)==(sz:Nat))=false:=(by simp;omega);go_wp2;go_ret;exact⟨8,rfl,a7,cJ⟩
     . have a7:Hid (SC R t x L M 8):=Zh ⟨.inr rfl,λh=>(by cases h),λ_ _ bb _=>(by rw [<-dn.out] at bb;have:=a2 bb;cases this),λ_=>rfl⟩
       clear a2 an;go_wp2;go_ret;exact⟨8,rfl,a7,aX⟩
end
