/- A part. -/
import Derived.Test.YtiopopoohglepaaGreatDoorVMa
import Derived.Test.YtiopopoohglepaaGreatDoorVMe
import Derived.WalkMore
set_option linter.all false
set_option maxRecDepth 100000
set_option maxHeartbeats 1000000
namespace Go.Proofs.YtiopopoohglepaaGreatDoor
open Go.Proofs.Tryz
open Go.RowKit Go.Shelf
variable {a f f' mb n p q:Nat}{mem:Nat->Nat}{ps:List Nat}{w:World}
def Ir(ps:List Nat)(f:Nat):Nat:=ps.countP λp=>decide (p<f)
theorem Q3(ps:List Nat)(f:Nat):Ir ps f<=ps.length:=List.countP_le_length
theorem Ua(ps:List Nat)(h:f<=f'):Ir ps f<=Ir ps f' :=by
 unfold Ir;refine List.countP_mono_left λp _ hp=> ?_
 simp at hp ⊢;omega
theorem Tp(ps:List Nat)(h1:f<=p)(d:p<f')(hp:p∈ps):Ir ps f+1<=Ir ps f' :=by
 induction ps with
 |nil=>simp at hp
 |cons a t ih=>
  have hm:=Ua t (show f<=f' by omega);unfold Ir at*;rw [List.countP_cons,List.countP_cons];rcases List.mem_cons.1 hp with rfl|hp
  . rw [decide_eq_false (by omega),decide_eq_true d];simp;omega
  . have:=ih hp
    by_cases ha:a<f
    . rw [decide_eq_true ha,decide_eq_true (show a<f' by omega)];simp;omega
    . rw [decide_eq_false ha];simp;omega
theorem AL(w:World)(k:Nat):Below w.heap.size w (w.drewN k):=⟨rfl,rfl,rfl,Nat.le_refl _,λ_ _=>rfl⟩
theorem AW.drew{d:Nat}{D:DW}(h:AW w a mb D ps q mem):AW (w.drewN d) a mb D ps q mem:=
 h.below (AL w d) (λb I=>h.lt I)
def Ygg{P}(h:P:=by
 have:=(h.drew (d:=d)).own.len Tryz.underlying124 3
 rwa [h.count] at this):=h
def Z0{P}(h:P:=by
 have d1:decide ((n:Int)<1)=false:=by simp;omega
 have d2:decide ((4096:Int)<(n:Int))=false:=by simp;omega
 exact And.intro d1 d2):=h
def Yqn{P}(h:P:=by
 have I:=h.cm;have J:=h.cq;have hN:=Zh (FO h);have hlen: ∀d,(Builtin.len_ #[124] 3 #[.map (some mb)]).run prog (w.drewN d)= .ok (.int .i64 ps.length) (w.drewN d):=λd=>by
  exact Ygg
 exact And.intro I (And.intro J (And.intro hN hlen))):=h
theorem Mw{D:DW}(h:AW w a mb D ps q mem)(n:Nat)(J:1<=n)(O:n<=4096)(U:q<(ps.length+n)*64):
 Calls prog 99 #[.pointer (some ⟨a,0,none⟩), .int .i64 n] w λe w' =>e= .returned (.tuple #[.int .i64 0, .int .i64 3])/\ ∃d,w' =w.drewN d:=by
 obtain⟨_,_,hN,_⟩:=Yqn;have I:=h.room;have V:=h.Dw;rw [h.count] at I;obtain⟨_,_⟩:=Z0;have d3:decide ((q:Int)<((ps.length:Int)+(n:Int))*64)=true:=by simp;omega
 clear h;go_enter func99,ntmps99;go_wp2
 go_step3
 go_wp2_with (go_at_call 114;refine hN.mono ?_;rintro e w' ⟨rfl,rfl⟩)
 go_quiet (fail)
 go_wp2;rw [Exit.noGoto_ret]
 go_ret2
 exact⟨rfl,_,rfl⟩
def Gr(w:World)(D:DW)(w' :World)(D' :DW)(mb:Nat):Prop:=w.grownBy w' (some mb)/\ ∀p g:Nat,Cw D' (p:Nat)=some g->Cw D (p:Nat)=some g\/w.heap.size<=g
theorem Gr.refl(w:World)(D:DW)(mb:Nat):Gr w D w D mb:=⟨⟨rfl,rfl,rfl,Nat.le_refl _,λ_ _ _=>rfl⟩,λ_ _ h=> .inl h⟩
theorem Gr.trans{w1 w2:World}{D D1 d:DW}(h:Gr w D w1 D1 mb)(k:Gr w1 D1 w2 d mb):Gr w D w2 d mb:=by
 refine⟨⟨k.1.os.trans h.1.os,k.1.tape.trans h.1.tape,k.1.output.trans h.1.output,Nat.le_trans h.1.size k.1.size,λi hi I=>(k.1.block i (Nat.lt_of_lt_of_le hi h.1.size) I).trans (h.1.block i hi I)⟩,λp g hp=> ?_⟩;rcases k.2 p g hp with h1|h1
 . exact h.2 p g h1
 . exact .inr (Nat.le_trans h.1.size h1)
def Dk(mem:Nat->Nat)(f j:Nat):Nat->Nat:=λx=>if f<=x/64/\x/64<f+j then 0 else mem x
theorem Sy(mem:Nat->Nat)(f:Nat):Dk mem f 0=mem:=by funext x;unfold Dk;rw [if_neg (by omega)]
theorem Q1(mem:Nat->Nat)(f j:Nat):Dk (Dk mem f j) (f+j) 1=Dk mem f (j+1):=by
 funext x
 unfold Dk;by_cases h1:f+j<=x/64/\x/64<f+j+1
 . rw [if_pos h1,if_pos (by omega)]
 . rw [if_neg h1]
   by_cases d:f<=x/64/\x/64<f+j
   . rw [if_pos d,if_pos (by omega)]
   . rw [if_neg d,if_neg (by omega)]
theorem Fk{D:DW}{v:Value}(h:Ez w mb n D){k:Nat}(d:w.cell? ⟨a,k,none⟩=some v):a≠mb:=by
 rintro rfl;obtain⟨es,clock,I,_⟩:=h;unfold World.cell? at d;simp [I] at d
def Yen{P}(h:P:=by
 exact(World.cell?_of_block (a:=⟨a,0,none⟩) (d a (Al (a:=⟨a,0,none⟩) h.cq) I)).trans h.cq):=h
def Yeo{P}(h:P:=by
 exact(World.cell?_of_block (a:=⟨a,1,none⟩) (d a (Al (a:=⟨a,0,none⟩) h.cq) I)).trans h.cm):=h
theorem AW.Zg{D:DW}(h:AW w a mb D ps q mem)(hp:p∉ps)(an:p<524288)(ao:(ps.length+1)*64<=q){t:TypeId}{w' :World}
 (aq:Ez w' mb n (D.put (.int .i64 p) (.lit (.int .u64 w.heap.size))))
 (ar:(w.alloc (.cells (Array.replicate 64 (.int .u64 0)) t)).mapTurned w' mb):
 AW w' a mb (D.put (.int .i64 p) (.lit (.int .u64 w.heap.size))) (ps++ [p]) q (Dk mem p 1)/\Gr w D w' (D.put (.int .i64 p) (.lit (.int .u64 w.heap.size))) mb:=by
 have az:=h.own.lt;have I:=Fk h.own h.cq;have au:Maps.IsMap D:=World.ownsMap.isMap h.own;have ag:Maps.Tidy D:=World.ownsMap.tidy h.own E7;have aw:=h.N6 hp;have ah:Maps.has D (.int .i64 p)=false:=by
  cases hh:Maps.has D (.int .i64 p) with
  |false=>rfl
  |true=>exact absurd aw (h.full _ hh)
 have U:=ar.grown;have ab:(w.alloc (.cells (Array.replicate 64 (.int .u64 0)) t)).heap.size=w.heap.size+1:=by simp
 have d: ∀k,k<w.heap.size->k≠mb->w'.heap[k]? =w.heap[k]? :=λk J ac=>
  (U.block k (by rw [ab];omega) (by simpa using ac)).trans (Below.heap_alloc w _ k J)
 have ai:w'.heap[w.heap.size]? =some (.cells (Array.replicate 64 (.int .u64 0)) t):=
  (U.block w.heap.size (by rw [ab];omega) (by simp;omega)).trans (World.alloc_heap_new w _)
 have V: ∀x:Int,Cw (D.put (.int .i64 p) (.lit (.int .u64 w.heap.size))) x=if x=(p:Nat) then some w.heap.size else Cw D x:=λx=>We au _ _ _
 refine⟨⟨?_, ?_,aq.tight, ?_, ?_, ?_, ?_, ?_, ?_,h.Dw, ?_, ?_, ?_, ?_, ?_⟩, ?_⟩
 . exact Yen
 . exact Yeo
 . rw [Maps.size_put ag,ah,if_neg (by simp),h.count];exact ao
 . intro x
   rw [V];by_cases hx:x=(p:Nat)
   . rw [if_pos hx]
     exact⟨λ_=>⟨p,by simp,hx⟩,λ_=>by simp⟩
   . rw [if_neg hx,h.Cc x]
     constructor
     . rintro⟨k,J,rfl⟩;exact⟨k,by simp [J],rfl⟩
     . rintro⟨k,J,rfl⟩
       rcases List.mem_append.1 J with h1|h1
       . exact⟨k,h1,rfl⟩
       . simp at h1;subst h1;exact absurd rfl hx
 . rw [List.nodup_append]
   exact⟨h.nodup,by simp,by intro x hx y aj;simp at aj;subst aj;rintro rfl;exact hp hx⟩
 . rw [Maps.size_put ag,ah,if_neg (by simp),h.count];simp
 . intro x hx
   rw [V];by_cases ae:x=(p:Nat)
   . rw [if_pos ae];simp
   . rw [if_neg ae]
     rw [Maps.has_put_other (by simpa using ae)] at hx;exact h.full x hx
 . intro k J
   by_cases al:k= .int .i64 p
   . exact⟨_,al⟩
   . rw [Maps.has_put_other al] at J
     exact h.keys k J
 . intro x hx
   rcases List.mem_append.1 hx with h1|h1
   . exact h.low x h1
   . simp at h1;subst h1;exact an
 . intro x g hg k J
   rw [V] at hg;by_cases hx:(x:Int)=(p:Nat)
   . rw [if_pos hx] at hg
     obtain rfl:x=p:=by omega
     cases hg
     constructor
     . have af:Dk mem x 1 (64*x+k)=0:=by unfold Dk;rw [if_pos (by omega)]
       rw [af];unfold World.cell?;rw [ai];simp only [Option.isSome_none,Bool.false_eq_true,if_false];rw [Array.getElem?_replicate,if_pos J];rfl
     . unfold World.frozen?
       rw [ai];simp
   . rw [if_neg hx] at hg
     have ax:=Al (a:=⟨g,0,none⟩) (h.words x g hg 0 (by omega)).1;have ay:=Fk h.own (h.words x g hg 0 (by omega)).1;have am:=d g ax ay;have af:Dk mem p 1 (64*x+k)=mem (64*x+k):=(by unfold Dk;rw [if_neg (by omega)]);rw [af];exact⟨(World.cell?_of_block (a:=⟨g,k,none⟩) am).trans (h.words x g hg k J).1,(World.frozen?_of_block (a:=⟨g,k,none⟩) am).trans (h.words x g hg k J).2⟩
 . intro x Z g hg O
   rw [V] at hg O;by_cases hx:(x:Int)=(p:Nat)
   . by_cases aa :(Z :Int)=(p:Nat)
     . omega
     . rw [if_pos hx] at hg;rw [if_neg aa] at O
       cases hg
       have:=Al (a:=⟨w.heap.size,0,none⟩) (h.words Z _ O 0 (by omega)).1;exact absurd this (Nat.lt_irrefl _)
   . by_cases aa :(Z :Int)=(p:Nat)
     . rw [if_neg hx] at hg;rw [if_pos aa] at O
       cases O
       have:=Al (a:=⟨w.heap.size,0,none⟩) (h.words x _ hg 0 (by omega)).1;exact absurd this (Nat.lt_irrefl _)
     . rw [if_neg hx] at hg;rw [if_neg aa] at O
       exact h.inj x Z g hg O
 . intro x g hg
   rw [V] at hg;by_cases hx:(x:Int)=(p:Nat)
   . rw [if_pos hx] at hg
     cases hg
     have:=Al (a:=⟨a,0,none⟩) h.cq;exact Nat.ne_of_gt this
   . rw [if_neg hx] at hg
     exact h.off x g hg
 . intro x;unfold Dk;split;omega;exact h.word x
 . refine⟨⟨U.os,U.tape,U.output,Nat.le_trans (by rw [ab];omega) U.size,λk J ac=>d k J (by simpa using ac)⟩,λx g hg=> ?_⟩
   rw [V] at hg;by_cases hx:(x:Int)=(p:Nat)
   . rw [if_pos hx] at hg
     cases hg
     exact .inr (Nat.le_refl _)
   . rw [if_neg hx] at hg
     exact .inl hg
def Yei{P}(h:P:=by
 go_roundw
 case rel=>exact⟨j+1,by omega,by go_num,_,O.1,I.trans O.2⟩
 case measure=>simp [intOf];omega):=h
def EW{P}(h:P:=by
 have d:=Zh J;have I:=Zh ab;have O:=Zh Z;exact And.intro d (And.intro I O)):=h
theorem Pw{D:DW}(h:AW w a mb D ps q mem)(n:Nat)(aL:1<=n)(ar:n<=63)(aM:(ps.length+n)*64<=q):
 Calls prog 99 #[.pointer (some ⟨a,0,none⟩), .int .i64 n] w λe w' => ∃f D',e= .returned (.tuple #[.int .i64 (f:Nat), .int .i64 0])/\(∀i,i<n->f+i∉ps)/\f+n<=258200/\AW w' a mb D' (ps++List.range' f n) q (Dk mem f n)/\Gr w D w' D' mb:=by
 obtain⟨au,aw,hN,hlen⟩:=Yqn;have aN:=h.Dw;obtain⟨d1,d2⟩:=Z0;have d3:decide ((q:Int)<((ps.length:Int)+(n:Int))*64)=false:=by simp;omega
 have ax:=Zh h;clear h;go_enter func99,ntmps99;go_wp2
 go_step3
 go_wp2_with (go_at_call 114;refine hN.mono ?_;rintro e w' ⟨rfl,rfl⟩)
 go_quiet (fail)
 clear d1 d2 d3;have aa:=Zh (ax.drew (d:=nq));have ag :=aa.cm;have ac:=aa.own;obtain⟨w1,ah⟩:=Zx (w.drewN nq);rw [<-ah] at aa ag ac ⊢;have ay:=Zh ah;clear ah hlen au aw hN;go_wp2
 go_step3
 go_wp2
 go_loopw [6] (λae wr=> ∃f:Nat,f<=n*Ir ps f/\ae= .int .i64 f/\wr=w1) (λae _=>ps.length+1-Ir ps (intOf ae).toNat)
 case atStart=>exact⟨0,by omega,rfl,rfl⟩
 case round=>
  obtain⟨f,az,rfl,aA⟩:=hrel;subst aA;have aB:=Q3 ps f;go_wp2;obtain⟨V,rfl⟩: ∃V:World,V=wr:=⟨_,rfl⟩
  go_loopw [34,6] (λai ae aC=> ∃k:Nat,k<=n/\ai= .int .i64 k/\ae= .int .i64 f/\aC=V/\Hid (∀i,i<k->f+i∉ps)) (λai _ _=>n-(intOf ai).toNat)
  case atStart=>exact⟨0,by omega,rfl,rfl,by trivial,Zh (by intro i hi;omega)⟩
  case round=>
   obtain⟨k,aO,rfl,rfl,aD,aj⟩:=hrel;subst aD;have aE:ps.length<=4096:=(by omega);have aP:f<=63*4096:=Nat.le_trans az (Nat.mul_le_mul ar (Nat.le_trans aB aE));by_cases aQ:k<n
   . by_cases J:f+k∈ps
     . obtain⟨g,hg⟩:=aa.UR J
       have Z:=Tp ps (show f<=f+k by omega) (show f+k<f+(k+1) by omega) J;have aR:=Q3 ps (f+(k+1));have ab:f+(k+1)<=n*Ir ps (f+(k+1)):=by
        have:n*(Ir ps f+1)<=n*Ir ps (f+(k+1)):=Nat.mul_le_mul_left n Z;rw [Nat.mul_add] at this;omega
       have al:=Zh hg;obtain⟨ao,aF,aG⟩:=EW;clear hg J ab Z;go_wp2_with (at_lookup;refine EM _ rfl _ _ rfl mb _ D rfl ac ((f:Int)+(k:Int)) rfl (by omega) (by omega) ?_;rw [show(f:Int)+(k:Int)=((f+k:Nat):Int) by push_cast;rfl,al.out];dsimp only [S4]);go_roundw
       case rel=>exact⟨f+(k+1),aF,by go_num,by trivial⟩
       case measure=>
        have:=aG.out;simp only [intOf];rw [show((f:Int)+((k:Int)+1)).toNat=f+(k+1) by omega,Int.toNat_natCast];omega
     . have hg:=aa.N6 J
       have al:=Zh hg;have ao:=Zh J;clear hg J;go_wp2_with (at_lookup;refine EM _ rfl _ _ rfl mb _ D rfl ac ((f:Int)+(k:Int)) rfl (by omega) (by omega) ?_;rw [show(f:Int)+(k:Int)=((f+k:Nat):Int) by push_cast;rfl,al.out];dsimp only [S4]);go_roundw
       case rel=>exact⟨k+1,by omega,by go_num,by trivial,by trivial,Zh (by
        intro i hi;rcases Nat.lt_succ_iff_lt_or_eq.1 hi with h1|rfl
        . exact aj.out i h1
        . exact ao.out)⟩
       case measure=>simp [intOf];omega
   . obtain rfl:k=n:=by omega
     obtain⟨V,rfl⟩: ∃V:World,V=wr:=⟨_,rfl⟩;go_wp2
     go_loopw [52] (λam aq=> ∃j:Nat,j<=k/\am= .int .i64 j/\ ∃D',AW aq a mb D' (ps++List.range' f j) q (Dk mem f j)/\Gr V D aq D' mb) (λam _=>k-(intOf am).toNat)
     case atStart=>exact⟨0,by omega,rfl,D,by rw [Sy];simpa using aa.out,Gr.refl _ _ _⟩
     case round=>
      obtain⟨j,aS,rfl,D',U,af⟩:=hrel;by_cases aH:j<k
      . have hm:=U.own
        have aT:=U.cm;have aI:Maps.size D' <maxLen:=(by have:=U.room;have:=U.Dw;unfold maxLen;omega);have an:=Zh U;have I:=Zh af;clear U af ag ac;go_wp2_with (at_mapUpdate;(refine wpList_mapUpdate_in _ rfl _ _ _ 124 rfl 3 193 E7 Tryz.underlying124 F9 mb _ D' rfl (hm.alloc _) aI _ _ (.int .i64 ((f+j:Nat):Int)) rfl rfl ?key (.lit (.int .u64 (wr.heap.size:Nat))) [] rfl ?_;(case key=>exact QL (p:=((f+j:Nat):Int)) (by omega) (by omega));intro w1 aJ aK))
        have hp:f+j∉ps++List.range' f j:=by
         intro hh;rcases List.mem_append.1 hh with h1|h1
         . exact aj.out j aH h1
         . rw [List.mem_range'_1] at h1;omega
        have O:=an.Zg hp (by omega) (by rw [List.length_append,List.length_range'];omega) aJ aK;rw [Q1,List.append_assoc,<-List.range'_1_concat] at O;exact Yei
      . obtain rfl:j=k:=by omega
        have an:=Zh U;have I:=Zh af;clear U af ag ac;go_wp2;rw [Exit.noGoto_ret]
        go_ret2
        refine⟨f,D',rfl,aj,by omega,an, ?_⟩;have hw:=ay.out;subst hw;exact Gr.trans (w1:=w.drewN nq) (D1:=D) ⟨⟨rfl,rfl,rfl,Nat.le_refl _,λ_ _ _=>rfl⟩,λ_ _ h=> .inl h⟩ I.out
