/- A part. -/
import Derived.Test.YtiopopoohglepaaGreatDoorVMxd
import Derived.Shelf.SlicesE.Compact
import Derived.Lib.OwnBridge
set_option linter.all false
set_option maxRecDepth 100000
set_option maxHeartbeats 4000000
namespace Go.Proofs.YtiopopoohglepaaGreatDoor
open Go.Proofs.Tryz
open Go.RowKit Go.Shelf Go.Sort
variable {B c x:Nat}{W w:World}{v:Value}{ws:List Nat}
def Tryz.Ou:Go.Shelf.Ren:=⟨fun|43=>110|n=>n,fun|22=>46|23=>23|3=>3|4=>4|0=>0|n=>n,fun|n=>n⟩
theorem Tryz.WJ:Go.Proofs.SlLaysE.n43 Tryz.prog Tryz.Ou:={
 mixed:=by kernel_rfl
 f43:=⟨Tryz.f110.name,by decide,Tryz.func110.trans (congrArg some (by kernel_rfl))⟩
 t0:=Tryz.underlying0
 a0:=Tryz.isAgg0
 z0:=Tryz.sizeOf0
 v0:=Tryz.zeroValue0
 t3:=Tryz.underlying3
 a3:=Tryz.isAgg3
 z3:=Tryz.sizeOf3
 v3:=Tryz.zeroValue3
 t4:=Tryz.underlying4
 a4:=Tryz.isAgg4
 z4:=Tryz.sizeOf4
 v4:=Tryz.zeroValue4
 t22:=Tryz.underlying46
 a22:=Tryz.isAgg46
 z22:=Tryz.sizeOf46
 v22:=Tryz.zeroValue46
 a23:=Tryz.isAgg23
 z23:=Tryz.sizeOf23 }
theorem Sf(w:World):(zeroValue 23).run prog w= .ok (.int .u64 0) w:=by kernel_rfl
section
theorem M3(c:Nat)(W:World):Calls prog 110 #[.slice none 0 c] W λe w' =>e= .returned (.slice none 0 c)/\w' =W:=by
 go_enter func110,ntmps110;go_wp2;go_ret;exact⟨rfl,rfl⟩
theorem P7{g:Nat}{zs sp:List Nat}{T:List Value}(U:An W g 23 (AG zs++T))(ae:zs.length<=100000000)(V:zs.length<=c):
 Calls prog 110 #[.slice (some ⟨g,0,none⟩) zs.length c] W λe w' => ∃m:Nat,e= .returned (.slice (some ⟨g,0,none⟩) m c)/\(zs.Nodup->m=zs.length)/\ ∀B A,Below B A W->B<=g->Below B A w' :=by
 have Z:Holds (Value.int .u64) W g 0 (zs.map (λz:Nat=>(z:Int))).toArray:=by
  intro j d;have I :j<zs.length:=by simpa using d
  refine⟨?_,U.free _⟩;rw [Nat.zero_add,U.at' (v:= .int .u64 (zs[j]:Nat)) (by rw [List.getElem?_append_left (by rw [Da];exact I)];exact EK I)];simp [I]
 have J:(zs.map (λz:Nat=>(z:Int))).toArray.size=zs.length:=by simp
 have h:=AnyE.slices_Compact Tryz.WJ (Value.int .u64) (λ_=>rfl) (EqlAt.intD _ _ _) (NeqAt.intD _ _ _) 0 Sf g 0 c _ W Z (by rw [J];omega) (by rw [J];exact V);rw [J] at h;refine h.mono ?_;rintro e w' ⟨rfl,q,rfl⟩;refine⟨_,rfl,λaa=> ?_,λB A ab hg=>Lib.below_putRow ab hg⟩;have ac:=Lib.compactUpTo_all (zs.map (λz:Nat=>(z:Int))).toArray zs.length (λj d=>by
  rcases Nat.eq_zero_or_pos j with h0|h0
  . exact Lib.keeps_lt_one _ j (by omega)
  . refine Lib.keeps_pos ?_
    have h1:j-1<zs.length:=(by omega);simp only [d,h1,List.getElem!_toArray,List.length_map,getElem!_pos,List.getElem_map];intro O;have O:zs[j]=zs[j-1]:=(by exact_mod_cast O);exact(List.pairwise_iff_getElem.1 aa) (j-1) j h1 d (by omega) O.symm)
 rw [ac];simp
theorem KY{P:Option Addr}{b:Nat}(aa:P=some ⟨b,0,none⟩\/ws= [])(ab: ∀j (h:j<ws.length),w.cell? ⟨b,j,none⟩=some (.int .u64 (ws[j]:Nat)))(U:b<w.heap.size)(hlen:ws.length<=100000000):
 Calls prog 59 #[.slice P ws.length c] w λe w' => ∃ae:Bool,e= .returned (.bool ae)/\(ws.Nodup->ae=false)/\Below w.heap.size w w' :=by
 have J:Below w.heap.size w (w.alloc (.cells #[.slice P ws.length c] 46)):=(Below.refl _ w).alloc (Nat.le_refl _) _;have af:=Zh (RC (w:=w.alloc (.cells #[.slice P ws.length c] 46)) (bx:=w.heap.size) (c:=c) aa ((An.new w 46 [.slice P ws.length c]).at' (i:=0) rfl) (λj h=>(J.cell (p:=⟨b,j,none⟩) U).trans (ab j h)) (Nat.lt_of_lt_of_le U J.size) hlen);have ac:=Zh J;clear aa ab U J;go_enter func59,ntmps59;go_wp2_with fail;refine(Rm P ws.length c w).mono ?_;rintro e w1 ⟨rfl,rfl⟩;generalize w.alloc (.cells #[.slice P ws.length c] 46)=w1 at*;go_wp2_with fail;refine af.mono ?_;rintro e w2 ⟨v,zs,rfl,V,Z,I⟩;have aq:zs.length<=100000000:=by rw [V.length_eq];exact hlen
 have ar:=Zh (λh:ws.Nodup=>V.nodup_iff.2 h);have ag:=DR;have ah:=Zh (TA Z (by omega));have ai:Hid (∀v' w3,Sa w3 w2.heap.size v' zs->Below w2.heap.size w2 w3-> ∃A c,v' = .slice A zs.length c/\Calls prog 110 #[.slice A zs.length c] w3 λe w' => ∃m:Nat,e= .returned (.slice A m c)/\(zs.Nodup->m=zs.length)/\Below w2.heap.size w2 w'):=Zh (by
  rintro v' w3 (⟨rfl,O⟩|⟨g,cap,rfl,hg,au,sp,aw⟩) d
  . refine⟨none,0,by rw [O];rfl, ?_⟩
    rw [O];exact(M3 0 w3).mono (by rintro e w' ⟨rfl,rfl⟩;exact⟨0,rfl,λ_=>rfl,d⟩)
  . exact⟨_,_,rfl,(P7 (sp:= []) aw aq au).mono (by rintro e w' ⟨m,rfl,h1,O⟩;exact⟨m,rfl,h1,O _ _ d hg⟩)⟩)
 obtain⟨aj,c1,ax⟩: ∃aj c1,v= .slice aj zs.length c1:=by
  rcases Z with ⟨rfl,rfl⟩|⟨g,cap,rfl,_⟩
  . exact⟨_,_,rfl⟩
  . exact⟨_,_,rfl⟩
 subst ax;clear Z I af V;go_wp2_with fail;refine ah.mono ?_;rintro e w3 ⟨v',rfl,al,d⟩;obtain⟨az,c2,rfl,am⟩:=ai.out v' w3 al d;have ay:=Zh am;clear al d ah ai am;go_wp2_with fail;refine ay.mono ?_;rintro e w4 ⟨m,rfl,hm,an⟩;have ao:=Zh (And.intro hm (ag.trans (an.mono ag.size)));clear hm an;go_wp2;go_ret;refine⟨_,rfl,λh=> ?_,ao.2⟩;rw [ao.1 (ar.out h)];simp
theorem KG(h:w.ownsRow B 23 1 v ws.length (AG ws))(hw:0<w.heap.size)(hlen:ws.length<=100000000):
 Calls prog 59 #[v] w λe w' => ∃d:Bool,e= .returned (.bool d)/\(ws.Nodup->d=false)/\Below w.heap.size w w' :=by
 rcases NH h with ⟨rfl,rfl⟩|⟨g,cap,rfl,hg,J,sp,I⟩
 . exact KY (b:=0) (ws:= []) (.inr rfl) (λj h=>absurd h (Nat.not_lt_zero _)) hw hlen
 . exact KY (.inl rfl) (λj h=>I.at' (by rw [List.getElem?_append_left (by rw [Da];exact h)];exact EK h)) I.lt hlen
end
def MY(R:Zr)(l:List (Nat × Nat))(j:Nat):Prop:=
 C8 R (l.getD j (0,0)).1=0/\C8 R (l.getD j (0,0)).2=0/\(j=0\/Tx.cmp (BH R (l.getD (j-1) (0,0)).1) (BH R (l.getD j (0,0)).1)<0)
def JX(l:List (Nat × Nat)):List Nat:=l.flatMap λp=> [p.1,p.2]
theorem Wp(l:List (Nat × Nat))(p:Nat × Nat):JX (l++ [p])=JX l++ [p.1,p.2]:=by simp [JX]
theorem Yw(l:List (Nat × Nat)):(JX l).length=2*l.length:=by
 induction l with
 |nil=>rfl
 |cons p l ih=>simp only [JX,List.flatMap_cons,List.length_append,List.length_cons,List.length_nil] at ih ⊢;omega
def OJ(R:Zr)(t x:Nat):Bool:=if Bm R t x≠0 then false else Ce R t (Bp R t 40 x-1) true x
structure Se(R:Zr)(t x:Nat)(Aa:List (Nat × Nat))(ns:List Nat)(er:Nat):Prop where
 e:er=0\/er=8
 say:er=0->(∀j,j<Aa.length->MY R Aa j)/\Aa.length=(Ag R t x).size
 AbD:OJ R t x=true->(∀j,j<Aa.length->MY R Aa j)->(ns++JX Aa).Nodup->Aa.length=(Ag R t x).size->er=0
 bad:OJ R t x=false->er=8
theorem VI(W:World)(T:TypeId)(a b:Value)(j:Nat)(u:Value)(h: [a,b][j]? =some u):(W.alloc (.cells #[a,b] T)).cell? ((⟨W.heap.size,0,none⟩:Addr).add j)=some u:=by
 rw [show(⟨W.heap.size,0,none⟩:Addr).add j=⟨W.heap.size,j,none⟩ by unfold Addr.add;split<;>simp_all]
 exact(An.new W T [a,b]).at' h
section
variable {s N:Nat} {R:Zr} {nn:Nat}
theorem VS{t:Nat}:Bp R t 40 x=0↔Bm R t x≠0:=by
 unfold Bp;by_cases h:Bm R t x=0
 . rw [if_neg (λd=>d h)]
   split<;>simp [h]
 . rw [if_pos h];simp [h]
theorem OS(h:Rd N w s R nn)(t:Nat)(al:BN.A1 t)(x:Nat)(hx:x<18446744073709551616)(he:Bm R t x≠0)(top:Bool)(a:Int):
 Calls prog 60 #[.agg #[.pointer (some ⟨s,0,none⟩), .int .i64 t], .int .u64 x, .bool top, .int .i64 a] w λe w' =>e= .returned (.bool false)/\Below w.heap.size w w' :=by
 obtain⟨O,ae⟩:=Zx (w.alloc (Obj.cells #[.pointer (some ⟨s,0,none⟩), .int .i64 t] 96));have J:=G5;obtain⟨ao,aa⟩:=Zx w.heap.size;have Z:=X5;have ab:=Yx;obtain⟨d,I⟩:=LJ;have ac:=Zh Z;have ax:2<=t:=al.1;have ay:t<=16:=al.2;clear ae aa Z h J al;go_enter func60,ntmps60;obtain⟨af,ag⟩:=A2 ac.out;rw [I.1,I.2] at af ag;go_wp2_with fail;rw [<-I.1,<-I.2];refine ab.mono ?_;rintro e w2 ⟨v1,v2,v3,rfl,U,V⟩;obtain⟨ah,q1,rfl⟩:=Ae U.r1;obtain⟨ai,aj,rfl⟩:=Ae U.r2;obtain⟨am,an,rfl⟩:=Ae U.r3;obtain⟨n,ar⟩:=Zx (Ag R t x);rw [<-ar];have au:=Zh ((d.trans (V.mono d.size)).alloc (d.trans (V.mono d.size)).size (Obj.cells #[.slice ah n.keys.length q1, .slice ai n.Ab.length aj, .slice am n.kids.length an, .int .u64 n.size] 100));have aw:=(ac.below V).alloc (Obj.cells #[.slice ah n.keys.length q1, .slice ai n.Ab.length aj, .slice am n.kids.length an, .int .u64 n.size] 100);have f41:=aw.at' (i:=1) rfl;clear ar V U af ag ab aw;generalize n.keys.length=n1 at*;generalize n.Ab.length=n2 at*;generalize n.kids.length=n3 at*;generalize n.size=az at*;rw [decide_eq_false he]
 cases top
 . go_wp2
   go_ret;exact⟨rfl,au⟩
 . go_wp2
   go_ret;exact⟨rfl,au⟩
theorem Zs(h:Rd N w s R nn)(t:Nat)(d:BN.A1 t)(x:Nat)(hx:x<18446744073709551616):
 Calls prog 60 #[.agg #[.pointer (some ⟨s,0,none⟩), .int .i64 t], .int .u64 x, .bool true, .int .i64 ((Bp R t 40 x:Nat)-1:Int)] w λe w' =>e= .returned (.bool (OJ R t x))/\Below w.heap.size w w' :=by
 by_cases he:Bm R t x=0
 . have h1:Bp R t 40 x≠0:=λI=>VS.1 I he
   have J:=I7 (R:=R) (t:=t) 40 x;rw [show((Bp R t 40 x:Nat)-1:Int)=((Bp R t 40 x-1:Nat):Int) by omega,show OJ R t x=Ce R t (Bp R t 40 x-1) true x by unfold OJ;rw [if_neg (by omega)]];exact Um t d _ (by omega) w h true x hx
 . rw [show OJ R t x=false by unfold OJ;rw [if_pos he]]
   exact OS h t d x hx he true _
end
def Ye(p:Nat × Nat):Prop:=p.1<18446744073709551616/\p.2<18446744073709551616
theorem XU(l:List Nat)(a b:Nat):AG (l++ [a,b])=AG l++ [.int .u64 a, .int .u64 b]:=by simp [AG]
theorem Zo{w':World}{o:Obj}{v':Value}(hg:(W.alloc o).grownBy w' v.ownBlock)(d:v'.ownBlock=v.ownBlock\/v'.ownBlock=some (W.alloc o).heap.size):Rw W w' v.ownBlock v'.ownBlock:=by
 refine⟨⟨hg.os,hg.tape,hg.output,Nat.le_trans (by simp) hg.size,λk I J=>(hg.block k (by simp;omega) J).trans (Below.heap_alloc W o k I)⟩, ?_⟩;rcases d with U|U
 . exact .inl U
 . exact Z4
theorem Nk{A:Option Addr}{n:Nat}{l:List (Nat × Nat)}(h:W.ownsRow B 31 2 (.slice A n c) n (EI l))(O:n=l.length)(U:0<n):
 ∃g,A=some ⟨g,0,none⟩/\B<=g/\g<W.heap.size/\ ∀j (h:j<l.length),W.cell? ⟨g,j*2,none⟩=some (.int .u64 (l[j].1:Nat))/\W.cell? ⟨g,j*2+1,none⟩=some (.int .u64 (l[j].2:Nat)):=by
 have h0:=h;rcases h.2 with ⟨_,d⟩|⟨g,cap,cur,h1,d,I,_⟩
 . omega
 . cases h1
   refine⟨g,rfl,d,(Array.getElem?_eq_some_iff.1 I).1,λj J=> ?_⟩;have:=PN l j J;rw [h0.cellAt (j*2) (by omega),h0.cellAt (j*2+1) (by omega)];exact this
section
variable {R:Zr} {t:Nat}
theorem Kn(I: ∀y,Bm R t y=0-> ∀i,(Ag R t y).keys.getD i 0<18446744073709551616/\(Ag R t y).Ab.getD i 0<18446744073709551616): ∀(f:Nat) (o:List (Nat × Nat) × Nat) (h:Nat),(∀p∈o.1,Ye p)-> ∀p∈(AN R t f o h).1,Ye p
 |0,o,h,d=>by unfold AN;exact d
 |f+1,o,h,d=>by
  unfold AN
  split
  . exact d
  . next O=>
    have h0:Bm R t h=0:=(Classical.byContradiction λU=>O (.inl U));have J:=Kn I f;have V: ∀(m i:Nat) (o:List (Nat × Nat) × Nat),(∀p∈o.1,Ye p)-> ∀p∈(AN.lsFrom (Ag R t h) (AN R t f) m i o).1,Ye p:=by
     intro m
     induction m with
     |zero=>
      intro i o d;unfold AN.lsFrom
      split
      . exact d
      . exact J o _ d
     |succ m ihm=>
      intro i o d;unfold AN.lsFrom;refine ihm (i+1) _ ?_;unfold AN.lsStep;intro p hp;rcases List.mem_append.1 hp with h1|h1
      . split at h1
        . exact d p h1
        . exact J o _ d p h1
      . obtain rfl:=List.mem_singleton.1 h1
        exact I h h0 i
    exact V _ 0 (o.1,o.2-1) d
theorem Pb{l:List Nat}(h:ZA l)(i:Nat):l.getD i 0<18446744073709551616:=by
 by_cases hi:i<l.length
 . have:=h i hi
   simpa [hi] using this
 . simp [hi]
theorem Vs(h:(Ag R t x).size<18446744073709551616):IntKind.u64.wrap (Cq R t x)=((Ag R t x).size:Nat):=by
 rw [IntKind.wrap_u64];unfold Cq wrap64;omega
end
section
variable {s N:Nat} {R:Zr} {nn:Nat}
def Yak{P}(h:P:=by
 have I:=Zh (B8 aG ah);have af:=Zh (aj.trans (ah.mono aj.size));have J:=Zh (aK.trans (Rw.below ah _));have d:=aQ.below ah.out;obtain⟨U,V⟩:=A2 d;have ag:O.heap.size<=ar.heap.size:=Nat.le_trans aH ah.size;have aa:Hid (∀i,i<j+1->MY R L i):=Zh (λi hi=>by
  rcases Nat.lt_or_ge i j with aD|aD
  . exact az.out i aD
  . obtain rfl:i=j:=by omega
    exact aA.out)
 clear d;go_wp2_with (at_builtin;refine wpList_append_own_at _ rfl _ _ 46 rfl O.heap.size 23 i0 (.int .u64 0) 1 8 Tryz.BI hi aJ aO aL rfl (by decide) _ _ _ rfl (I.alloc _) ⟨ar.heap.size,0,none⟩ 2 2 [.int .u64 Z, .int .u64 ab] rfl rfl (VI ar _ _ _) (by simp [Value.oneCell']) (by unfold maxLen;omega) (by omega) (by first|(simp;done)|(simp;omega)) ?_;intro v' aN aF aE _ ay)
 have ac:=Zh (show aN.ownsRow O.heap.size 23 1 v' (an++ [Z,ab]).length (AG (an++ [Z,ab])) by rw [XU,List.length_append];exact aF);have ae:=Zh (J.trans (Zo aE ay));clear aF aE ay U V;go_wp2;go_roundw
 case rel=>exact⟨_,j+1,rfl,by omega,by go_num,aa,Zh ⟨by rw [aP.out];exact ac.out,ae⟩⟩
 case measure=>simp [intOf];omega):=h
def Yca{P}(h:P:=by
 go_wp2;refine Ei aw (by kernel_rfl) ?_
 repeat (go_big_quiet_step (fail))
 refine wpQuiet_nil ?_;rintro _ ⟨X,rfl⟩;have d:=Zh (aj.trans (X.h.mono aj.size));go_wp2;go_ret;obtain⟨er,h1,I⟩:=au.out;exact⟨er,h1,I,d⟩):=h
def Ygr{P}(h:P:=by
 have d:=Zh (aT.trans (ag.mono aT.size));exact d):=h
def Ygs{P}(h:P:=by
 have d:=Zh (am.trans (ai.mono am.size));exact d):=h
theorem Q8(h:Rd N w s R nn)(bj:Ba R)(t:Nat)(d:BN.A1 t)(x:Nat)(hx:x<18446744073709551616)(dw:x≠0):
 Calls prog 21 #[.pointer (some ⟨s,0,none⟩), .int .i64 t, .int .u64 x] w λe w' => ∃er:Nat,e= .returned (.int .i64 er)/\Se R t x (AN R t 40 ([],BQ nn t) x).1 (Bg R t (BQ nn t) 40 [] x) er/\Below w.heap.size w w' :=by
 have aw:=OM;obtain⟨h,hle,cL⟩:=Ypj;obtain⟨i0,hi,aJ,aO,aL⟩:=info_parts Tryz.CV;obtain⟨O,ae⟩:=Zx (w.alloc (Obj.cells #[.pointer (some ⟨s,0,none⟩), .int .i64 t] 96));have J:=G5;obtain⟨ao,aa⟩:=Zx w.heap.size;have bk:=X5;have bQ:=Zh (M4 (h.below J) t d x hx);have bR:=Zh (λW (aR:Below w.heap.size w W)=>QF (h.below aR) t d x hx);have bm:=Zh (λW (aR:Below w.heap.size w W)=>Zs (h.below aR) t d x hx);have bo:=Zh (λW (aR:Below w.heap.size w W)=>Pq (h.below aR) t d x hx);have bS:Hid (∀W,Below w.heap.size w W-> ∀y,y<18446744073709551616->Calls prog 43 #[.pointer (some ⟨s,0,none⟩), .int .u64 (y:Nat)] W λe w' =>e= .returned (.tuple #[.string (BH R y), .int .i64 (C8 R y:Nat)])/\Below W.heap.size W w'):=Zh (λW aR y aW=>by
  have:=Hs (h.below aR) bj y aW;unfold G9 at this;exact this)
 have cM:=Zh (λW (aR:Below w.heap.size w W) y aW=>PD (h.below aR) bj t y aW);have cN:=Zh (λW (aR:Below w.heap.size w W)=>E4 (h.below aR) t d x hx);have cO:=Li (t:=t) hle;have dx:(Bg R t (BQ nn t) 40 [] x).length<=262145:=by
  have:=(IG (R:=R) (t:=t) (most:=BQ nn t) 40 [] x).2;simp only [List.length_nil] at this;omega
 have cP:(AN R t 40 ([],BQ nn t) x).1.length<=8650785:=by
  have:=I8 (R:=R) (t:=t) (λy aW=>by
   have:=(BR h d aW).1.1;have:=d.2;omega) 40 ([],BQ nn t) x
  simp only [List.length_nil] at this;omega
 have a8:Hid (∀p∈(AN R t 40 ([],BQ nn t) x).1,Ye p):=Zh (Kn (λy aW i=>⟨Pb (BR h d aW).2.1 i,Pb (BR h d aW).2.2.1 i⟩) 40 ([],BQ nn t) x (λp hp=>by simp at hp));have bT:(Ag R t x).size<18446744073709551616:=by
  by_cases bU:Bm R t x=0
  . exact(BR h d bU).2.2.2.2
  . rw [No bU];show 0<_;decide
 have bV:=Zh (Vs bT);obtain⟨ac,bW⟩:=LJ;have cQ:=Zh bk;have bX:ao<O.heap.size:=bk.lt;clear cO hle ae aa J bk h bT bj;obtain⟨L,bY⟩:=Zx ((AN R t 40 ([],BQ nn t) x).1);rw [<-bY] at cP a8 bo ⊢;clear bY;generalize Bg R t (BQ nn t) 40 [] x=M at*;have dy:=I7 (R:=R) (t:=t) 40 x;generalize Bp R t 40 x=hg at*;generalize Cq R t x=dz at*;obtain⟨sz,bp⟩:=Zx ((Ag R t x).size);have bZ:=Zh bp;rw [<-bp] at bV;clear bp;obtain⟨cR,bq⟩:=Zx (OJ R t x);have b3:=Zh bq;rw [<-bq] at bm;clear bq;have dA:((x:Int)==0)=false:=by simp;omega
 go_enter func21,ntmps21;go_wp2_with fail;refine cL.mono ?_;rintro e w1 ⟨rfl,rfl⟩;go_wp2_with fail;rw [<-bW.1,<-bW.2];refine bQ.mono ?_;rintro e w2 ⟨v9,rfl,br,I⟩;have al:=DR;have b4:=Zh (λW (aR:Below w2.heap.size w2 W)=>KG (B8 br aR) (Nat.lt_of_lt_of_le (Nat.lt_of_le_of_lt (Nat.zero_le _) bX) (Nat.le_trans I.size aR.size)) (by omega));have a9:=Zh (cQ.below I);have b5:=λX:Au (λ_=>False) w2=>X.cell (a9.at' (i:=0) rfl) (λh=>h)
 have b8:=λX:Au (λ_=>False) w2=>X.cell (a9.at' (i:=1) rfl) (λh=>h)
 have b9:=Zh br;have cb:Hid (O.heap.size<=w2.heap.size):=Zh I.size;clear I br bQ;go_wp2;refine Aw (λw' => ∃X:Au (λ_=>False) w2,w' =X.W) [.r 0, .a 1, .r 2, .r 3, .r 4, .r 5, .r 6, .r 7, .a 8, .r 9, .a 10, .r 11, .r 12] (Ay _ _) ?_;refine AE ?_;go_simp;refine AK _ rfl (λaV aS=> ?_);go_wp2_with fail;refine(b4 _ (Ac w2)).mono ?_;rintro e dB ⟨bs,rfl,a1,cc⟩;have af:=Zh ((Ac w2).trans cc);have cd:=Zh a1;clear cc a1 b4;go_wp2;refine aS _ _ (Af af) ?_;clear aS aV
 cases bs
 case true=>
  refine AE ?_;go_simp;refine Ek _ rfl rfl ?_;go_simp;refine Ek _ rfl rfl ?_;go_simp;refine Ek _ rfl rfl ?_;go_simp;refine Ek _ rfl rfl ?_;go_simp;refine Ek _ rfl rfl ?_;go_simp;refine AK _ rfl (λaV aS=> ?_);go_wp2;refine aS _ _ (Af af) ?_;clear aS aV;refine Ek _ rfl rfl ?_;go_simp;refine AK _ rfl (λaV aS=> ?_);go_wp2;refine aS _ _ (Af af) ?_;clear aS aV b5 b8;refine Ek _ rfl rfl ?_;go_simp;refine AE ?_;go_simp;refine AO ?_;have cT:=Zh (al.trans (af.mono al.size));go_wp2;go_ret;exact⟨8,rfl,⟨.inr rfl,λh=>(by cases h),λ_ _ ba _=>(by have:=cd.out (List.nodup_append.1 ba).1;cases this),λ_=>rfl⟩,cT⟩
 iterate 6 (refine AE ?_;go_simp)
 clear b5 b8;refine AK _ rfl (λaV aS=> ?_);go_wp2_with fail;refine(bR _ (al.trans (af.mono al.size))).mono ?_;rintro e dC ⟨rfl,V⟩;have ax:=Jt;clear V af;go_wp2;refine aS _ _ (Af ax) ?_;clear aS aV;refine AE ?_;go_simp;refine AK _ rfl (λaV aS=> ?_);go_wp2_with fail;refine(bm _ (al.trans (ax.mono al.size))).mono ?_;rintro e w3 ⟨rfl,U⟩;have ah:=QK;clear U ax;go_wp2;refine aS _ _ (Af ah) ?_;clear aS aV
 iterate 2 (refine AE ?_;go_simp)
 refine AO ?_;have aT:=Ym;have ce:=Zh (B8 b9 ah);have cU:=Zh (a9.below ah);have cV:Hid (O.heap.size<=w3.heap.size):=Zh (Nat.le_trans cb ah.size);clear a9 ah b9 cb al bR bm cd
 cases cR
 . go_wp2
   go_ret;exact⟨8,rfl,⟨.inr rfl,λh=>(by cases h),λh1=>(by rw [<-b3.out] at h1;cases h1),λ_=>rfl⟩,aT⟩
 . go_wp2_with fail
   refine(bo w3 aT).mono ?_;rintro e w4 ⟨v10,rfl,bu,ag⟩;obtain⟨dD,dE,rfl⟩:=Ae bu;have cf:=Ygr;have cW:=Zh (B8 ce ag);have cg:=Zh (cU.below ag);have cX:Hid (O.heap.size<=w4.heap.size):=Zh (Nat.le_trans cV ag.size);have cY:=Zh bu;have bb:Hid (∀k,v9.ownBlock=some k->O.heap.size<=k/\k<w3.heap.size):=Zh (λk bv=>BM ce.out bv);clear ag bu bo;obtain⟨bw,bz⟩:=Zx v9.ownBlock;rw [<-bz] at bb;have cZ:=Zh bz;clear bz;go_wp2
   go_loopw [9,51] (λv0 bA wr=> ∃(vv:Value) (j:Nat),vv=v0/\j<=L.length/\bA= .int .i64 j/\Hid (∀i,i<j->MY R L i)/\Hid (wr.ownsRow O.heap.size 23 1 vv (M++JX (L.take j)).length (AG (M++JX (L.take j)))/\Rw w4 wr bw vv.ownBlock)) (λ_ bA _=>L.length-(intOf bA).toNat)
   case atStart=>exact⟨_,0,rfl,Nat.zero_le _,rfl,Zh (λi hi=>absurd hi (Nat.not_lt_zero _)),Zh ⟨by rw [show M++JX (L.take 0)=M by simp [JX]];exact cW.out,by rw [cZ.out];exact Rw.below (Below.refl _ _) _⟩⟩
   case round=>
    obtain⟨vv,j,rfl,dF,rfl,az,aU⟩:=hrel;have am:=Zh (cf.trans (aU.2.low cf.size (λk bv=>Nat.le_trans ac.size (bb k bv).1)));have ci:Hid (O.heap.size<=wr.heap.size):=Zh (Nat.le_trans cX aU.2.1.size);have c8:some ao≠bw:=(λe=>by have:=(bb ao e.symm).1;omega);have bB:Hid (An wr ao 96 [.pointer (some ⟨s,0,none⟩), .int .i64 t]):=Zh (cg.block (aU.2.1.block ao cg.lt c8));obtain⟨an,bc⟩:=Zx (M++JX (L.take j));have dG:an.length<=17563715:=by
     rw [bc,List.length_append,Yw,List.length_take];omega
    rw [<-bc] at aU;have cj:=Zh bc;clear bc;by_cases aY:j<L.length
    ·
     as_aux_lemma=>
     obtain⟨g10,c9,dH,dI,bd⟩:=Nk cY rfl (by omega);subst c9;have bC:some g10≠bw:=(λe=>by have:=(bb g10 e.symm).2;omega);obtain⟨Z,a3⟩:=Zx (L[j].1);obtain⟨ab,a4⟩:=Zx (L[j].2);have f1:=aU.2.cell (bd j aY).1 bC;have f2:=aU.2.cell (bd j aY).2 bC;rw [<-a3] at f1;rw [<-a4] at f2;have da:Z<18446744073709551616:=(by rw [a3];exact(a8 _ (List.getElem_mem aY)).1);have db:ab<18446744073709551616:=(by rw [a4];exact(a8 _ (List.getElem_mem aY)).2);have aP:Hid (M++JX (L.take (j+1))=an++ [Z,ab]):=Zh (by rw [List.take_succ_eq_append_getElem aY,Wp,cj.out,a3,a4,List.append_assoc]);have dc:Hid (L.getD j (0,0)=(Z,ab)):=Zh (by rw [a3,a4];simp [aY]);obtain⟨bD,a5⟩:=Zx (wr.alloc (Obj.cells #[.int .u64 Z, .int .u64 ab] 31));obtain⟨dd,be⟩:=Zx wr.heap.size;have Eo:An bD dd 31 [.int .u64 Z, .int .u64 ab]:=(by rw [a5,be];exact An.new wr _ _);have ai:Below wr.heap.size wr bD:=(by rw [a5];exact(Below.refl _ wr).alloc (Nat.le_refl _) _);have aX:=Ygs;have bE:=Zh (λm (hm:m<L.length)=>aU.2.cell (bd m hm).1 bC);have ck:=Zh aU.1;have cl:=Zh aU.2;have bF:=Zh ai;have cn:=Zh Eo;have bG:=Zh (And.intro a5 be);obtain⟨co,s1⟩:=A2 Eo;rw [a5,be] at co s1;have cp:=Zh (bS bD aX Z da);clear a3 a4 bd aU a5 be ai Eo;go_wp2_with fail;rw [<-bG.1,<-bG.2];refine cp.mono ?_;rintro e cr ⟨rfl,aZ⟩;have bf:=cn.below aZ;have de:=bf.at' (i:=1) rfl;have df:=bf.at' (i:=0) rfl;have cu:=Zh (bS cr (aX.trans (aZ.mono aX.size)) ab db);have bH:=Zh aZ;have cv:=Zh bf;clear aZ cp co s1 bf;go_wp2_with fail;refine cu.mono ?_;rintro e a2 ⟨rfl,bI⟩;have aQ:=Zh (cv.below bI);have a0:=bF.trans ((bH.trans (bI.mono bH.size)).mono bF.size);have aj:=Zh (am.trans (a0.mono am.size));have aG:=Zh (B8 ck a0);have aK:=Zh (cl.trans (Rw.below a0 _));have aH:Hid (O.heap.size<=a2.heap.size):=Zh (Nat.le_trans ci a0.size);have cw:=Zh (bB.below a0);have dg:=Zh (λm (hm:m<L.length)=>(a0.cell (p:=⟨g10,m*2,none⟩) (Al (bE m hm))).trans (bE m hm));clear a0 bI cu bH bF cv cn bG df de ck cl bE bB;obtain⟨k1,aB⟩:=Zx (BH R Z);obtain⟨bJ,aC⟩:=Zx (C8 R Z);obtain⟨bK,aM⟩:=Zx (C8 R ab);rw [<-aB,<-aC];generalize BH R ab=k2 at*;rw [<-aM];have dJ:=Qf;have bg:Hid (MY R L j↔bJ=0/\bK=0/\(j=0\/Tx.cmp (BH R (L.getD (j-1) (0,0)).1) k1<0)):=Zh (by unfold MY;rw [dc.out,aC,aM,aB]);clear aB aC aM;have bL:Hid (¬MY R L j-> ∃er:Nat,(Ending.returned (.int .i64 (8:Int))= .returned (.int .i64 er))/\Se R t x L M er):=Zh (λaR=>⟨8,rfl, .inr rfl,λh=>(by cases h),λ_ bM=>absurd (bM j aY) aR,λ_=>rfl⟩);by_cases cx:bJ=0
     . subst cx
       by_cases cy:bK=0
       . subst cy
         by_cases cz:j=0
         . have aA:Hid (MY R L j):=Zh (bg.2 ⟨rfl,rfl, .inl cz⟩)
           have dh:decide ((j:Int)>0)=false:=decide_eq_false (by omega);go_wp2;refine Ei aw (by kernel_rfl) ?_
           repeat (go_big_quiet_step (fail))
           refine wpQuiet_nil ?_;rintro _ ⟨X,rfl⟩;have ah:=Zh X.h;generalize X.W=ar at*;exact Yak
         . have bh:j-1<L.length:=by omega
           obtain⟨pm,bi⟩:=Zx (L[j-1].1);have di:pm<18446744073709551616:=(by rw [bi];exact(a8 _ (List.getElem_mem bh)).1);have bN:=dg.out (j-1) bh;rw [<-bi] at bN;have dj:Hid ((L.getD (j-1) (0,0)).1=pm):=Zh (by rw [bi];simp [bh]);have cB:=Zh (λX:BL a2=>cM X.W (aj.trans (X.h.mono aj.size)) pm di);have dh:decide ((j:Int)>0)=true:=decide_eq_true (by omega);have dK:decide (0<j)=true:=decide_eq_true (by omega);have cC:(j:Int)-1=((j-1:Nat):Int):=(by omega);have cD:IntKind.i64.wrap ((j-1:Nat):Int)=((j-1:Nat):Int):=(by rw [IntKind.wrap_i64];omega);clear bi;obtain⟨a6,bO⟩:=Zx (BH R pm);rw [<-bO] at cB;have dk:Hid (∀X:BL a2,Calls prog 62 #[.string a6, .string k1] X.W λe w' =>e= .returned (.int .i64 (Tx.cmp a6 k1))/\Below X.W.heap.size X.W w'):=Zh (λX=>(Tx.LG a6 k1 X.W).mono (by rintro e w' ⟨rfl,rfl⟩;exact⟨rfl,Below.refl _ _⟩));have cF:Hid (MY R L j↔Tx.cmp a6 k1<0):=Zh (by rw [bg.out,dj.out,<-bO];exact⟨λh=>h.2.2.resolve_left cz,λh=>⟨rfl,rfl, .inr h⟩⟩);have dl:=(λX:BL a2=>X.cell (cw.at' (i:=0) rfl));have dm:=(λX:BL a2=>X.cell (cw.at' (i:=1) rfl));have cG:=(λX:BL a2=>X.cell bN);clear bO bN;generalize Tx.cmp a6 k1=bP at*;obtain⟨dL,cH⟩:=Zx (j-1);rw [<-cH] at cC cD cG bh;clear cH;go_wp2;refine Ei aw (by kernel_rfl) ?_
           repeat (go_big_quiet_step ((first|(go_at_call 63;exact Ja (cB _))|(go_at_call 62;exact Ja (dk _)))))
           refine wpQuiet_nil ?_;rintro _ ⟨X,rfl⟩;have ah:=Zh X.h;generalize X.W=ar at*;clear dl dm cG cC cD;by_cases cI:bP<0
           . have dn:decide (bP>=0)=false:=decide_eq_false (by omega)
             have aA:Hid (MY R L j):=Zh (cF.2 cI);exact Yak
           . have dn:decide (bP>=0)=true:=decide_eq_true (by omega)
             have au:=Zh (bL (λh=>cI (cF.1 h)));have dp:=Zh (aj.trans (ah.mono aj.size));go_wp2;go_ret;obtain⟨er,h1,bM⟩:=au.out;exact⟨er,h1,bM,dp⟩
       . have d2:((bK:Int) !=0)=true:=by simp;omega
         have au:=Zh (bL (λh=>cy (bg.1 h).2.1));exact Yca
     . have d1:((bJ:Int) !=0)=true:=by simp;omega
       have au:=Zh (bL (λh=>cx (bg.1 h).1));exact Yca
    ·
     as_aux_lemma=>
     obtain rfl:j=L.length:=by omega
     have dq:=Zh (KG aU.1 (Nat.lt_of_lt_of_le (Nat.lt_of_le_of_lt (Nat.zero_le _) bX) ci) (by omega));have dr:Hid (an=M++JX L):=Zh (by rw [cj.out,List.take_length]);clear aU;go_wp2_with fail;refine dq.mono ?_;rintro e ds ⟨bs,rfl,a1,ai⟩;have aX:=Ygs
     cases bs
     . have dt:=Zh (cN ds aX)
       have cJ:=bB.below ai;obtain⟨dM,q1⟩:=A2 cJ;have du:IntKind.u64.wrap (L.length:Nat)=(L.length:Nat):=(by rw [IntKind.wrap_u64];omega);have dN:=bV.out;clear a1 ai cJ;go_wp2_with fail;refine dt.mono ?_;rintro e cr ⟨rfl,aZ⟩;have cK:=Zh (aX.trans (aZ.mono aX.size));clear aZ;by_cases hle:L.length=sz
       . have a7:Hid (Se R t x L M 0):=Zh ⟨.inl rfl,λ_=>⟨az,(by rw [hle];exact bZ.out)⟩,λ_ _ _ _=>rfl,λh1=>(by rw [<-b3.out] at h1;cases h1)⟩
         rw [hle] at du;have dO :(L.length:Int)=(sz:Nat):=(by omega);go_wp2;go_ret;exact⟨0,rfl,a7,cK⟩
       . have a7:Hid (Se R t x L M 8):=Zh ⟨.inr rfl,λh=>(by cases h),λ_ _ _ dv=>absurd (by rw [bZ.out];exact dv) hle,λ_=>rfl⟩
         have dP: ¬((L.length:Int)=(sz:Nat)):=(by omega);have dQ :((L.length:Int)==(sz:Nat))=false:=(by simp;omega);go_wp2;go_ret;exact⟨8,rfl,a7,cK⟩
     . have a7:Hid (Se R t x L M 8):=Zh ⟨.inr rfl,λh=>(by cases h),λ_ _ ba _=>(by rw [<-dr.out] at ba;have:=a1 ba;cases this),λ_=>rfl⟩
       clear a1 ai;go_wp2;go_ret;exact⟨8,rfl,a7,aX⟩
end
