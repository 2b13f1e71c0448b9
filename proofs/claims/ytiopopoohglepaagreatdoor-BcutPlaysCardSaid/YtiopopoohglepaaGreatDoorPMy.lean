/- A part. -/
import Derived.Test.YtiopopoohglepaaGreatDoorPMx
import Derived.Deep.Cut
set_option linter.all false
set_option maxRecDepth 100000
set_option maxHeartbeats 8000000
namespace Go.Proofs.YtiopopoohglepaaGreatDoor
open Go.Proofs.Tryz
open Go.RowKit Go.Shelf
variable {a t x:Nat}{top:Bool}
theorem Wd{z:Int}{S m:Nat}(h:IntKind.u64.wrap z=(S:Nat))(hm:m<18446744073709551616):IntKind.u64.wrap (wrap64 (z+wrap64 (m:Nat)))=((S+m)%18446744073709551616:Nat):=by
 rw [IntKind.wrap_u64] at*;unfold wrap64;omega
section
variable {s N:Nat} {R:Zr} {nn:Nat}
theorem UD(h:Bk R t x≠0):Ce R t a top x=false:=by
 cases a<;>(unfold Ce;rw [if_pos h])
theorem U6(h:(Af R t x).keys.length<cond top 1 (t-1)):Ce R t a top x=false:=by
 cases a<;>(unfold Ce;split<;>first|rfl|exact if_pos h)
theorem Tz(h: ¬((Af R t x).kids= []↔a=0)):Ce R t a top x=false:=by
 cases a with
 |zero=>
  unfold Ce
  split
  . rfl
  . split
    . rfl
    . exact if_neg (λI=>h ⟨λ_=>rfl,λ_=>I⟩)
 |succ a=>
  unfold Ce
  split
  . rfl
  . split
    . rfl
    . exact if_pos (Classical.byContradiction λI=>h ⟨λJ=>absurd J I,λJ=>by cases J⟩)
theorem Xo(h0:Bk R t x=0)(h1: ¬(Af R t x).keys.length<cond top 1 (t-1))(J:(Af R t x).kids= []↔a=0):
 Ce R t a top x=((Af R t x).kids.all (λy=>Ce R t (a-1) false y)&&decide ((Af R t x).size=DO R t (Af R t x).kids (Af R t x).keys.length)):=by
 cases a with
 |zero=>
  have I:=J.2 rfl;unfold Ce;rw [if_neg (λh=>h h0),if_neg h1];simp only [I,if_true,List.all_nil,Bool.true_and]
 |succ a=>
  have I:(Af R t x).kids≠ []:=λh=>by have:=J.1 h;cases this
  conv=>lhs;unfold Ce
  rw [if_neg (λh=>h h0),if_neg h1];simp only [if_neg I,Nat.add_sub_cancel]
theorem UH(t:Nat)(al:BN.A0 t): ∀(a:Nat),a<4611686018427387904-> ∀(w:World) (h:Rd N w s R nn) (top:Bool) (x:Nat) (hx:x<18446744073709551616),
 Calls prog 60 #[.agg #[.pointer (some ⟨s,0,none⟩), .int .i64 t], .int .u64 x, .bool top, .int .i64 a] w λe w' =>e= .returned (.bool (Ce R t a top x))/\Below w.heap.size w w' :=by
 intro a
 induction a using Nat.strongRecOn with
 |_ a ih=>
  intro ha w h top x hx;obtain⟨O,U⟩:=Zx (w.alloc (Obj.cells #[.pointer (some ⟨s,0,none⟩), .int .i64 t] 96));have J:=EI;obtain⟨ag,ac⟩:=Zx w.heap.size;have aW:=YF;obtain⟨aq,aO⟩:=K7;have aE:=Zh aW;have aX:=ZE;have aP:=Zh h;have a9:=Zh ih;have aT:=Zh al;have ba:2<=t/\t<=16:=⟨al.1,al.2⟩;obtain⟨bI,bJ⟩:=ba;clear U ac aW h J ih al;go_enter func60,ntmps60;obtain⟨aY,aZ⟩:=AX aE.out;rw [aO.1,aO.2] at aY aZ;go_wp2_with fail;rw [<-aO.1,<-aO.2];refine aX.mono ?_;rintro e w2 ⟨v1,v2,v3,rfl,Z,ay⟩;obtain⟨aA,q1,rfl⟩:=Ae Z.r1;obtain⟨aD,aw,rfl⟩:=Ae Z.r2;obtain⟨ax,au,rfl⟩:=Ae Z.r3;obtain⟨n,aj⟩:=Zx (Af R t x);rw [<-aj] at Z;rw [<-aj];obtain⟨ai,an⟩:=Zx (w2.alloc (Obj.cells #[.slice aA n.keys.length q1, .slice aD n.Ab.length aw, .slice ax n.kids.length au, .int .u64 n.size] 100));obtain⟨ao,ar⟩:=Zx w2.heap.size;obtain⟨aF,aG⟩:=Yt;obtain⟨aB,aU,bc,bd⟩:=Yjv;obtain⟨aQ,aH⟩:=Oo;obtain⟨f40,f41⟩:=AX aU.out;have f90:=aG.at' (i:=0) rfl;have f92:=aG.at' (i:=2) rfl;clear aj ay aF Z an ar aG aY aZ aX;by_cases he:Bk R t x=0
  . rw [decide_eq_true he]
    have hw:=BR (aP.below aB) aT he;rw [<-aH.out] at hw;obtain⟨aC,be,bf,wc,a0⟩:=hw;have bK:n.kids.length<=33:=by
     exact Yef
    have bL:n.keys.length<=33:=(by have:=aC.1;omega);have bg:=Zh wc;have bh:=Zh he;clear aC be bf wc he;obtain⟨L,aR⟩: ∃L:Nat,L=cond top 1 (t-1):=⟨_,rfl⟩;have a1:=Zh aR;go_upto_region 2 with fail;rw [<-aQ.1,<-aQ.2];go_upto_if 24 with fail;go_cut [11] from 16 (λbi wc=>bi= .int .i64 L/\wc=ai)
    case first=>
     cases top
     . go_wp2_with fail
       go_meet
       case rel=>exact⟨by rw [aR];congr 1;show(t:Int)-1=((t-1:Nat):Int);omega,rfl⟩
     . go_wp2_with fail
       go_meet
       case rel=>exact⟨by rw [aR];rfl,rfl⟩
    case rest=>
     obtain⟨rfl,rfl⟩:=hcut;clear aR;by_cases a2:n.keys.length<L
     . have ab:Hid (Ce R t a top x=false):=Zh (U6 (by rw [<-aH.out,<-a1.out];exact a2))
       have dl:decide ((n.keys.length:Int)<(L:Int))=true:=decide_eq_true (by omega);go_wp2;go_ret;exact⟨by rw [ab.out];rfl,aB⟩
     . have dl:decide ((n.keys.length:Int)<(L:Int))=false:=decide_eq_false (by omega)
       by_cases az:n.kids= []↔a=0
       . have bj:(((n.kids.length:Int)==0)==((a:Int)==0))=true:=by
          have h1:(n.kids.length:Int)=0↔(a:Int)=0:=by
           rw [<-List.length_eq_zero_iff] at az;omega
          have aJ:((n.kids.length:Int)==0)=((a:Int)==0):=(by rw [Bool.eq_iff_iff,beq_iff_eq,beq_iff_eq];exact h1);rw [aJ,beq_self_eq_true]
         have a3:=Zh (Xo (top:=top) bh (by rw [<-aH.out,<-a1.out];exact a2) (by rw [<-aH.out];exact az));have bk:Hid (∀y,(Af R t y).size<18446744073709551616):=Zh λy=>by
          by_cases a4:Bk R t y=0
          . exact(BR (aP.below aB) aT a4).2.2.2.2
          . rw [Nr a4];show 0<_;decide
         have bm:=Zh az;clear az;go_wp2
         go_loopw [12,49] (λbo aV wr=> ∃(j:Nat) (z:Int),j<=n.kids.length/\aV= .int .i64 j/\bo= .int .i64 z/\Hid (IntKind.u64.wrap z=(DO R t (n.kids.take j) n.keys.length:Nat))/\Hid ((n.kids.take j).all (λy=>Ce R t (a-1) false y)=true)/\Hid (Below wc.heap.size wc wr)) (λ_ aV _=>n.kids.length-(intOf aV).toNat)
         case atStart=>exact⟨0,(n.keys.length:Nat),Nat.zero_le _,rfl,rfl,Zh (by rw [IntKind.wrap_u64];show(n.keys.length:Int)%18446744073709551616=(n.keys.length:Int);omega),Zh rfl,Zh (Below.refl _ _)⟩
         case round=>
          obtain⟨j,z,bM,rfl,rfl,a5,a6,ae⟩:=hrel;have aM:=aU.below ae.out;obtain⟨bp,bq⟩:=AX aM;have a7:=bc.below ae.out;have bN:=a7.at' (i:=3) rfl;have ah:=Zh (aB.trans (ae.mono aB.size));clear aM a7;by_cases aK:j<n.kids.length
          . obtain⟨b,o,br,bO,a8⟩:=AK.num (F:=λ_=>False) (by obtain⟨bP,bQ,bs,h1⟩:=A5 (F:=λ_=>False) bd.r3 (λ_ h=>h.elim);cases bs;exact h1) aK
            have bu:=a8 wr ae.out;have aS:=bg.out j aK;have bR:1<=a:=by
             rcases Nat.eq_zero_or_pos a with aL|aL
             . have:=bm.2 aL
               rw [this] at aK;exact absurd aK (Nat.not_lt_zero _)
             . exact aL
            have bv:(a:Int)-1=((a-1:Nat):Int):=(by omega);obtain⟨y,aN⟩: ∃y,n.kids[j]=y:=⟨_,rfl⟩;rw [aN] at bu aS;have bw:Hid (y∈n.kids):=Zh (by rw [<-aN];exact List.getElem_mem aK);have bz:=Zh (a9 (a-1) (by omega) (by omega) wr (aP.below ah) false y aS);have a0:=Zh (λW (bA:Below wr.heap.size wr W)=>E6 ((aP.below ah).below bA) t aT y aS);have bB:Hid (IntKind.u64.wrap (wrap64 (z+Cq R t y))=(DO R t (n.kids.take (j+1)) n.keys.length:Nat)):=Zh (by
             rw [N2 R t n.kids n.keys.length j aK,aN];exact Wd a5 (bk y))
            have bC:Hid (Ce R t (a-1) false y=true->(n.kids.take (j+1)).all (λy=>Ce R t (a-1) false y)=true):=Zh (λaL=>by
             rw [List.take_succ_eq_append_getElem aK,List.all_append,a6.out,aN];simp [aL])
            have bD:Hid (Ce R t (a-1) false y=false->Ce R t a top x=false):=Zh (λaL=>by
             rw [a3.out,<-aH.out];have:n.kids.all (λy=>Ce R t (a-1) false y)=false:=by
              rw [List.all_eq_false];exact⟨y,bw,by rw [aL];decide⟩
             rw [this,Bool.false_and])
            subst br;clear aN a8 aS;generalize Ce R t (a-1) false y=bb at*;go_wp2_with fail
            (try rw [bv])
            refine bz.mono ?_;rintro e bE ⟨rfl,I⟩;have af:=Dt;have bF:=ZX;have aM:=aU.below af.out;obtain⟨bp,bq⟩:=AX aM;have bG:=Zh (a0 bE I);clear aM I
            cases bb
            . go_wp2
              go_ret;exact⟨by rw [bD.out (by simp)];rfl,bF⟩
            . go_wp2_with fail
              refine bG.mono ?_;rintro e w6 ⟨rfl,aa⟩;have bH:=K8;clear aa;generalize Cq R t y=bS at*;go_wp2;go_roundw
              case rel=>exact⟨j+1,_,by omega,by go_num,rfl,bB,Zh (bC (by simp)),bH⟩
              case measure=>simp [intOf];omega
          . obtain rfl:j=n.kids.length:=by omega
            have ab:Hid (((n.size:Int)==IntKind.u64.wrap z)=Ce R t a top x):=Zh (by
             have h1:=a5.out;have aJ:=a6.out;rw [List.take_length] at h1 aJ;rw [a3.out,<-aH.out,aJ,Bool.true_and,h1,Bool.eq_iff_iff,beq_iff_eq,decide_eq_true_eq];exact⟨λh=>by exact_mod_cast h,λh=>by exact_mod_cast h⟩)
            go_wp2;go_ret;exact⟨by rw [<-ab.out];rfl,ah⟩
       . have ab:Hid (Ce R t a top x=false):=Zh (Tz (by rw [<-aH.out];exact az))
         have bj:(((n.kids.length:Int)==0)==((a:Int)==0))=false:=by
          have h1: ¬((n.kids.length:Int)=0↔(a:Int)=0):=by
           rw [<-List.length_eq_zero_iff] at az;omega
          rw [Bool.eq_false_iff];intro aJ;rw [beq_iff_eq,Bool.eq_iff_iff,beq_iff_eq,beq_iff_eq] at aJ;exact h1 aJ
         exact Yet
  . have ab:Hid (Ce R t a top x=false):=Zh (UD he)
    rw [decide_eq_false he];go_upto_region 2 with fail;rw [<-aQ.1,<-aQ.2]
    cases top
    . go_wp2
      go_ret;exact⟨by rw [ab.out];rfl,aB⟩
    . go_wp2
      go_ret;exact⟨by rw [ab.out];rfl,aB⟩
end
theorem Tryz.P8:Tryz.prog.underlying 88=some (.slice 31):=by kernel_rfl
theorem Tryz.NL:(Tryz.prog.info? 31).map (λi=>(i.zero,i.size,i.bytes))=some (some (.agg #[.int .u64 0, .int .u64 0]),2,16):=by kernel_rfl
def EK(l:List (Nat × Nat)):List Value:=l.flatMap λp=> [.int .u64 (p.1:Nat), .int .u64 (p.2:Nat)]
theorem TV(l:List (Nat × Nat))(p:Nat × Nat):EK (l++ [p])=EK l++ [.int .u64 p.1, .int .u64 p.2]:=by simp [EK]
theorem PW: ∀(l:List (Nat × Nat)) (j:Nat) (h:j<l.length),(EK l)[j*2]? =some (.int .u64 (l[j].1:Nat))/\(EK l)[j*2+1]? =some (.int .u64 (l[j].2:Nat))
 |p::l,0,_=>⟨rfl,rfl⟩
 |p::l,j+1,h=>by
  have I:=PW l j (by simpa using h);have e:EK (p::l)= [.int .u64 p.1, .int .u64 p.2]++EK l:=rfl;rw [e];refine⟨?_, ?_⟩
  . rw [List.getElem?_append_right (by simp;omega),show(j+1)*2- [Value.int .u64 p.1,Value.int .u64 p.2].length=j*2 by simp;omega]
    exact I.1
  . rw [List.getElem?_append_right (by simp;omega),show(j+1)*2+1- [Value.int .u64 p.1,Value.int .u64 p.2].length=j*2+1 by simp;omega]
    exact I.2
structure Lw(w w' :World)(r r' :Option Nat)(bl:Nat):Prop where
 os:w'.os=w.os
 tape:w'.tape=w.tape
 output:w'.output=w.output
 size:w.heap.size<=w'.heap.size
 keep: ∀k,k<w.heap.size->some k≠r->k≠bl->w'.heap[k]? =w.heap[k]?
 row:r' =r\/ ∀k,r' =some k->w.heap.size<=k
section
variable {w w1 w2:World} {r r1 r2:Option Nat} {bl:Nat}
theorem Lw.trans(h:Lw w w1 r r1 bl)(g:Lw w1 w2 r1 r2 bl):Lw w w2 r r2 bl where
 os:=g.os.trans h.os
 tape:=g.tape.trans h.tape
 output:=g.output.trans h.output
 size:=Nat.le_trans h.size g.size
 keep:=λk I O U=>(g.keep k (Nat.lt_of_lt_of_le I h.size) (λe=>by
  rcases h.row with J|J
  . exact O (e.trans J)
  . have:=J k e.symm;omega) U).trans (h.keep k I O U)
 row:=by
  rcases g.row with g2|g2
  . rw [g2];exact h.row
  . exact .inr λk I=>Nat.le_trans h.size (g2 k I)
theorem Lw.below(h:Below w.heap.size w w1)(r:Option Nat)(bl:Nat):Lw w w1 r r bl:=⟨h.os,h.tape,h.output,h.size,λk I _ _=>h.block k I, .inl rfl⟩
theorem Lw.rw(h:Rw w w1 r r1)(bl:Nat):Lw w w1 r r1 bl:=⟨h.1.os,h.1.tape,h.1.output,h.1.size,λk I J _=>h.1.block k I J,h.2⟩
theorem Lw.low(h:Lw w w1 r r1 bl){B:Nat}(J:B<=w.heap.size)(I: ∀k,r=some k->B<=k)(O:B<=bl):Below B w w1:=⟨h.os,h.tape,h.output,h.size,λk U=>h.keep k (by omega) (λe=>by have:=I k e.symm;omega) (by omega)⟩
theorem Lw.cell(h:Lw w w1 r r1 bl){p:Addr}{v:Value}(I:w.cell? p=some v)(J:some p.block≠r)(O:p.block≠bl):w1.cell? p=some v:=(World.cell?_of_block (h.keep p.block (Am I) J O)).trans I
theorem Lw.set(b i:Nat)(v:Value)(r:Option Nat):Lw w (w.setCell ⟨b,i,none⟩ v) r r b:=⟨rfl,rfl,rfl,by simp [World.setCell],λk J _ I=>Below.heap_setCell _ ⟨b,i,none⟩ _ k I, .inl rfl⟩
end
section
variable {R:Zr} 
theorem I5(J: ∀y,Bk R t y=0->(Af R t y).keys.length<=33): ∀(f:Nat) (o:List (Nat × Nat) × Nat) (h:Nat),(AO R t f o h).1.length+33*(AO R t f o h).2<=o.1.length+33*o.2
 |0,o,h=>by unfold AO;exact Nat.le_refl _
 |f+1,o,h=>by
  unfold AO
  split
  . exact Nat.le_refl _
  . next O=>
    have h0:Bk R t h=0:=(Classical.byContradiction λI=>O (.inl I));have Z:o.2≠0:=(λI=>O (.inr I));have U:=I5 J f;have V: ∀(m i:Nat) (o:List (Nat × Nat) × Nat),(AO.lsFrom (Af R t h) (AO R t f) m i o).1.length+33*(AO.lsFrom (Af R t h) (AO R t f) m i o).2<=o.1.length+m+33*o.2:=by
     intro m
     induction m with
     |zero=>
      intro i o;unfold AO.lsFrom
      split
      . exact Nat.le_refl _
      . exact U o _
     |succ m ihm=>
      intro i o;unfold AO.lsFrom;refine Nat.le_trans (ihm (i+1) _) ?_;unfold AO.lsStep;simp only [List.length_append,List.length_cons,List.length_nil]
      split
      . omega
      . have:=U o ((Af R t h).kids.getD i 0);omega
    have h1:=V (Af R t h).keys.length 0 (o.1,o.2-1);have aa:=J h h0;simp only at h1;omega
end
