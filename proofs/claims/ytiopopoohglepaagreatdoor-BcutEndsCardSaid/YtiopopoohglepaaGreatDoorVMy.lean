/- A part. -/
import Derived.Test.YtiopopoohglepaaGreatDoorVMx
import Derived.Deep.Cut
set_option linter.all false
set_option maxRecDepth 100000
set_option maxHeartbeats 8000000
namespace Go.Proofs.YtiopopoohglepaaGreatDoor
open Go.Proofs.Tryz
open Go.RowKit Go.Shelf
variable {a t x:Nat}{top:Bool}
theorem VP{z:Int}{S m:Nat}(h:IntKind.u64.wrap z=(S:Nat))(hm:m<18446744073709551616):IntKind.u64.wrap (wrap64 (z+wrap64 (m:Nat)))=((S+m)%18446744073709551616:Nat):=by
 rw [IntKind.wrap_u64] at*;unfold wrap64;omega
section
variable {s N:Nat} {R:Zr} {nn:Nat}
theorem Ui(h:Bm R t x≠0):Ce R t a top x=false:=by
 cases a<;>(unfold Ce;rw [if_pos h])
theorem UI(h:(Ag R t x).keys.length<cond top 1 (t-1)):Ce R t a top x=false:=by
 cases a<;>(unfold Ce;split<;>first|rfl|exact if_pos h)
theorem Td(h: ¬((Ag R t x).kids= []↔a=0)):Ce R t a top x=false:=by
 cases a with
 |zero=>
  unfold Ce
  split
  . rfl
  . split
    . rfl
    . exact if_neg (λd=>h ⟨λ_=>rfl,λ_=>d⟩)
 |succ a=>
  unfold Ce
  split
  . rfl
  . split
    . rfl
    . exact if_pos (Classical.byContradiction λd=>h ⟨λI=>absurd I d,λI=>by cases I⟩)
theorem WU(h0:Bm R t x=0)(h1: ¬(Ag R t x).keys.length<cond top 1 (t-1))(I:(Ag R t x).kids= []↔a=0):
 Ce R t a top x=((Ag R t x).kids.all (λy=>Ce R t (a-1) false y)&&decide ((Ag R t x).size=DM R t (Ag R t x).kids (Ag R t x).keys.length)):=by
 cases a with
 |zero=>
  have d:=I.2 rfl;unfold Ce;rw [if_neg (λh=>h h0),if_neg h1];simp only [d,if_true,List.all_nil,Bool.true_and]
 |succ a=>
  have d:(Ag R t x).kids≠ []:=λh=>by have:=I.1 h;cases this
  conv=>lhs;unfold Ce
  rw [if_neg (λh=>h h0),if_neg h1];simp only [if_neg d,Nat.add_sub_cancel]
theorem Um(t:Nat)(al:BN.A1 t): ∀(a:Nat),a<4611686018427387904-> ∀(w:World) (h:Rd N w s R nn) (top:Bool) (x:Nat) (hx:x<18446744073709551616),
 Calls prog 60 #[.agg #[.pointer (some ⟨s,0,none⟩), .int .i64 t], .int .u64 x, .bool top, .int .i64 a] w λe w' =>e= .returned (.bool (Ce R t a top x))/\Below w.heap.size w w' :=by
 intro a
 induction a using Nat.strongRecOn with
 |_ a ih=>
  intro ha w h top x hx;obtain⟨O,ae⟩:=Zx (w.alloc (Obj.cells #[.pointer (some ⟨s,0,none⟩), .int .i64 t] 96));have J:=G5;obtain⟨ao,aa⟩:=Zx w.heap.size;have aV:=X5;obtain⟨ax,aN⟩:=LJ;have aF:=Zh aV;have aW:=Yx;have aO:=Zh h;have a8:=Zh ih;have aS:=Zh al;have a9:2<=t/\t<=16:=⟨al.1,al.2⟩;obtain⟨bH,bI⟩:=a9;clear ae aa aV h J ih al;go_enter func60,ntmps60;obtain⟨aX,aY⟩:=A2 aF.out;rw [aN.1,aN.2] at aX aY;go_wp2_with fail;rw [<-aN.1,<-aN.2];refine aW.mono ?_;rintro e w2 ⟨v1,v2,v3,rfl,ah,aA⟩;obtain⟨ay,q1,rfl⟩:=Ae ah.r1;obtain⟨az,au,rfl⟩:=Ae ah.r2;obtain⟨ar,am,rfl⟩:=Ae ah.r3;obtain⟨n,aw⟩:=Zx (Ag R t x);rw [<-aw] at ah;rw [<-aw];obtain⟨aj,an⟩:=Zx (w2.alloc (Obj.cells #[.slice ay n.keys.length q1, .slice az n.Ab.length au, .slice ar n.kids.length am, .int .u64 n.size] 100));obtain⟨ai,aD⟩:=Zx w2.heap.size;obtain⟨aE,aH⟩:=Yk;obtain⟨ab,aT,ba,bc⟩:=Yjs;obtain⟨aP,aC⟩:=OC;obtain⟨f40,f41⟩:=A2 aT.out;have f90:=aH.at' (i:=0) rfl;have f92:=aH.at' (i:=2) rfl;clear aw aA aE ah an aD aH aX aY aW;by_cases he:Bm R t x=0
  . rw [decide_eq_true he]
    have hw:=BR (aO.below ab) aS he;rw [<-aC.out] at hw;obtain⟨aB,bd,be,wc,aZ⟩:=hw;have bJ:n.kids.length<=33:=by
     exact Z5
    have bK:n.keys.length<=33:=(by have:=aB.1;omega);have bf:=Zh wc;have bg:=Zh he;clear aB bd be wc he;obtain⟨L,aQ⟩: ∃L:Nat,L=cond top 1 (t-1):=⟨_,rfl⟩;have a0:=Zh aQ;go_upto_region 2 with fail;rw [<-aP.1,<-aP.2];go_upto_if 24 with fail;go_cut [11] from 16 (λbh wc=>bh= .int .i64 L/\wc=aj)
    case first=>
     cases top
     . go_wp2_with fail
       go_meet
       case rel=>exact⟨by rw [aQ];congr 1;show(t:Int)-1=((t-1:Nat):Int);omega,rfl⟩
     . go_wp2_with fail
       go_meet
       case rel=>exact⟨by rw [aQ];rfl,rfl⟩
    case rest=>
     obtain⟨rfl,rfl⟩:=hcut;clear aQ;by_cases a1:n.keys.length<L
     . have d:Hid (Ce R t a top x=false):=Zh (UI (by rw [<-aC.out,<-a0.out];exact a1))
       have dl:decide ((n.keys.length:Int)<(L:Int))=true:=decide_eq_true (by omega);go_wp2;go_ret;exact⟨by rw [d.out];rfl,ab⟩
     . have dl:decide ((n.keys.length:Int)<(L:Int))=false:=decide_eq_false (by omega)
       by_cases Z:n.kids= []↔a=0
       . have bi:(((n.kids.length:Int)==0)==((a:Int)==0))=true:=by
          have h1:(n.kids.length:Int)=0↔(a:Int)=0:=by
           rw [<-List.length_eq_zero_iff] at Z;omega
          have aG:((n.kids.length:Int)==0)=((a:Int)==0):=(by rw [Bool.eq_iff_iff,beq_iff_eq,beq_iff_eq];exact h1);rw [aG,beq_self_eq_true]
         have a2:=Zh (WU (top:=top) bg (by rw [<-aC.out,<-a0.out];exact a1) (by rw [<-aC.out];exact Z));have bj:Hid (∀y,(Ag R t y).size<18446744073709551616):=Zh λy=>by
          by_cases a3:Bm R t y=0
          . exact(BR (aO.below ab) aS a3).2.2.2.2
          . rw [No a3];show 0<_;decide
         have bk:=Zh Z;clear Z;go_wp2
         go_loopw [12,49] (λbm aU wr=> ∃(j:Nat) (z:Int),j<=n.kids.length/\aU= .int .i64 j/\bm= .int .i64 z/\Hid (IntKind.u64.wrap z=(DM R t (n.kids.take j) n.keys.length:Nat))/\Hid ((n.kids.take j).all (λy=>Ce R t (a-1) false y)=true)/\Hid (Below wc.heap.size wc wr)) (λ_ aU _=>n.kids.length-(intOf aU).toNat)
         case atStart=>exact⟨0,(n.keys.length:Nat),Nat.zero_le _,rfl,rfl,Zh (by rw [IntKind.wrap_u64];show(n.keys.length:Int)%18446744073709551616=(n.keys.length:Int);omega),Zh rfl,Zh (Below.refl _ _)⟩
         case round=>
          obtain⟨j,z,bL,rfl,rfl,a4,a5,ac⟩:=hrel;have aL:=aT.below ac.out;obtain⟨bo,bp⟩:=A2 aL;have a6:=ba.below ac.out;have bM:=a6.at' (i:=3) rfl;have ag:=Zh (ab.trans (ac.mono ab.size));clear aL a6;by_cases aJ:j<n.kids.length
          . obtain⟨b,o,bq,bN,a7⟩:=AJ.num (F:=λ_=>False) (by obtain⟨bO,bP,br,h1⟩:=A5 (F:=λ_=>False) bc.r3 (λ_ h=>h.elim);cases br;exact h1) aJ
            have bs:=a7 wr ac.out;have aR:=bf.out j aJ;have bQ:1<=a:=by
             rcases Nat.eq_zero_or_pos a with aK|aK
             . have:=bk.2 aK
               rw [this] at aJ;exact absurd aJ (Nat.not_lt_zero _)
             . exact aK
            have bu:(a:Int)-1=((a-1:Nat):Int):=(by omega);obtain⟨y,aM⟩: ∃y,n.kids[j]=y:=⟨_,rfl⟩;rw [aM] at bs aR;have bv:Hid (y∈n.kids):=Zh (by rw [<-aM];exact List.getElem_mem aJ);have bw:=Zh (a8 (a-1) (by omega) (by omega) wr (aO.below ag) false y aR);have aZ:=Zh (λW (bz:Below wr.heap.size wr W)=>E4 ((aO.below ag).below bz) t aS y aR);have bA:Hid (IntKind.u64.wrap (wrap64 (z+Cq R t y))=(DM R t (n.kids.take (j+1)) n.keys.length:Nat)):=Zh (by
             rw [NZ R t n.kids n.keys.length j aJ,aM];exact VP a4 (bj y))
            have bB:Hid (Ce R t (a-1) false y=true->(n.kids.take (j+1)).all (λy=>Ce R t (a-1) false y)=true):=Zh (λaK=>by
             rw [List.take_succ_eq_append_getElem aJ,List.all_append,a5.out,aM];simp [aK])
            have bC:Hid (Ce R t (a-1) false y=false->Ce R t a top x=false):=Zh (λaK=>by
             rw [a2.out,<-aC.out];have:n.kids.all (λy=>Ce R t (a-1) false y)=false:=by
              rw [List.all_eq_false];exact⟨y,bv,by rw [aK];decide⟩
             rw [this,Bool.false_and])
            subst bq;clear aM a7 aR;generalize Ce R t (a-1) false y=bb at*;go_wp2_with fail
            (try rw [bu])
            refine bw.mono ?_;rintro e bD ⟨rfl,I⟩;have af:=DR;have bE:=ZB;have aL:=aT.below af.out;obtain⟨bo,bp⟩:=A2 aL;have bF:=Zh (aZ bD I);clear aL I
            cases bb
            . go_wp2
              go_ret;exact⟨by rw [bC.out (by simp)];rfl,bE⟩
            . go_wp2_with fail
              refine bF.mono ?_;rintro e bR ⟨rfl,V⟩;have bG:=Jt;clear V;generalize Cq R t y=bS at*;go_wp2;go_roundw
              case rel=>exact⟨j+1,_,by omega,by go_num,rfl,bA,Zh (bB (by simp)),bG⟩
              case measure=>simp [intOf];omega
          . obtain rfl:j=n.kids.length:=by omega
            have d:Hid (((n.size:Int)==IntKind.u64.wrap z)=Ce R t a top x):=Zh (by
             have h1:=a4.out;have aG:=a5.out;rw [List.take_length] at h1 aG;rw [a2.out,<-aC.out,aG,Bool.true_and,h1,Bool.eq_iff_iff,beq_iff_eq,decide_eq_true_eq];exact⟨λh=>by exact_mod_cast h,λh=>by exact_mod_cast h⟩)
            go_wp2;go_ret;exact⟨by rw [<-d.out];rfl,ag⟩
       . have d:Hid (Ce R t a top x=false):=Zh (Td (by rw [<-aC.out];exact Z))
         have bi:(((n.kids.length:Int)==0)==((a:Int)==0))=false:=by
          have h1: ¬((n.kids.length:Int)=0↔(a:Int)=0):=by
           rw [<-List.length_eq_zero_iff] at Z;omega
          rw [Bool.eq_false_iff];intro aG;rw [beq_iff_eq,Bool.eq_iff_iff,beq_iff_eq,beq_iff_eq] at aG;exact h1 aG
         exact Yep
  . have d:Hid (Ce R t a top x=false):=Zh (Ui he)
    rw [decide_eq_false he];go_upto_region 2 with fail;rw [<-aP.1,<-aP.2]
    cases top
    . go_wp2
      go_ret;exact⟨by rw [d.out];rfl,ab⟩
    . go_wp2
      go_ret;exact⟨by rw [d.out];rfl,ab⟩
end
theorem Tryz.P0:Tryz.prog.underlying 88=some (.slice 31):=by kernel_rfl
theorem Tryz.NI:(Tryz.prog.info? 31).map (λi=>(i.zero,i.size,i.bytes))=some (some (.agg #[.int .u64 0, .int .u64 0]),2,16):=by kernel_rfl
def EI(l:List (Nat × Nat)):List Value:=l.flatMap λp=> [.int .u64 (p.1:Nat), .int .u64 (p.2:Nat)]
theorem TD(l:List (Nat × Nat))(p:Nat × Nat):EI (l++ [p])=EI l++ [.int .u64 p.1, .int .u64 p.2]:=by simp [EI]
theorem PN: ∀(l:List (Nat × Nat)) (j:Nat) (h:j<l.length),(EI l)[j*2]? =some (.int .u64 (l[j].1:Nat))/\(EI l)[j*2+1]? =some (.int .u64 (l[j].2:Nat))
 |p::l,0,_=>⟨rfl,rfl⟩
 |p::l,j+1,h=>by
  have d:=PN l j (by simpa using h);have e:EI (p::l)= [.int .u64 p.1, .int .u64 p.2]++EI l:=rfl;rw [e];refine⟨?_, ?_⟩
  . rw [List.getElem?_append_right (by simp;omega),show(j+1)*2- [Value.int .u64 p.1,Value.int .u64 p.2].length=j*2 by simp;omega]
    exact d.1
  . rw [List.getElem?_append_right (by simp;omega),show(j+1)*2+1- [Value.int .u64 p.1,Value.int .u64 p.2].length=j*2+1 by simp;omega]
    exact d.2
structure Lw(w w' :World)(r r' :Option Nat)(bl:Nat):Prop where
 os:w'.os=w.os
 tape:w'.tape=w.tape
 output:w'.output=w.output
 size:w.heap.size<=w'.heap.size
 keep: ∀k,k<w.heap.size->some k≠r->k≠bl->w'.heap[k]? =w.heap[k]?
 row:r' =r\/ ∀k,r' =some k->w.heap.size<=k
section
variable {w w1 w2:World} {r r1 r2:Option Nat} {bl:Nat}
theorem Lw.trans(h:Lw w w1 r r1 bl)(g:Lw w1 w2 r1 r2 bl):Lw w w2 r r2 bl where
 os:=g.os.trans h.os
 tape:=g.tape.trans h.tape
 output:=g.output.trans h.output
 size:=Nat.le_trans h.size g.size
 keep:=λk d J O=>(g.keep k (Nat.lt_of_lt_of_le d h.size) (λe=>by
  rcases h.row with I|I
  . exact J (e.trans I)
  . have:=I k e.symm;omega) O).trans (h.keep k d J O)
 row:=by
  rcases g.row with g2|g2
  . rw [g2];exact h.row
  . exact .inr λk d=>Nat.le_trans h.size (g2 k d)
theorem Lw.below(h:Below w.heap.size w w1)(r:Option Nat)(bl:Nat):Lw w w1 r r bl:=⟨h.os,h.tape,h.output,h.size,λk d _ _=>h.block k d, .inl rfl⟩
theorem Lw.rw(h:Rw w w1 r r1)(bl:Nat):Lw w w1 r r1 bl:=⟨h.1.os,h.1.tape,h.1.output,h.1.size,λk d I _=>h.1.block k d I,h.2⟩
theorem Lw.low(h:Lw w w1 r r1 bl){B:Nat}(I:B<=w.heap.size)(d: ∀k,r=some k->B<=k)(J:B<=bl):Below B w w1:=⟨h.os,h.tape,h.output,h.size,λk O=>h.keep k (by omega) (λe=>by have:=d k e.symm;omega) (by omega)⟩
theorem Lw.cell(h:Lw w w1 r r1 bl){p:Addr}{v:Value}(d:w.cell? p=some v)(I:some p.block≠r)(J:p.block≠bl):w1.cell? p=some v:=(World.cell?_of_block (h.keep p.block (Al d) I J)).trans d
theorem Lw.set(b i:Nat)(v:Value)(r:Option Nat):Lw w (w.setCell ⟨b,i,none⟩ v) r r b:=⟨rfl,rfl,rfl,by simp [World.setCell],λk I _ d=>Below.heap_setCell _ ⟨b,i,none⟩ _ k d, .inl rfl⟩
end
section
variable {R:Zr} 
theorem I8(I: ∀y,Bm R t y=0->(Ag R t y).keys.length<=33): ∀(f:Nat) (o:List (Nat × Nat) × Nat) (h:Nat),(AN R t f o h).1.length+33*(AN R t f o h).2<=o.1.length+33*o.2
 |0,o,h=>by unfold AN;exact Nat.le_refl _
 |f+1,o,h=>by
  unfold AN
  split
  . exact Nat.le_refl _
  . next J=>
    have h0:Bm R t h=0:=(Classical.byContradiction λd=>J (.inl d));have V:o.2≠0:=(λd=>J (.inr d));have O:=I8 I f;have U: ∀(m i:Nat) (o:List (Nat × Nat) × Nat),(AN.lsFrom (Ag R t h) (AN R t f) m i o).1.length+33*(AN.lsFrom (Ag R t h) (AN R t f) m i o).2<=o.1.length+m+33*o.2:=by
     intro m
     induction m with
     |zero=>
      intro i o;unfold AN.lsFrom
      split
      . exact Nat.le_refl _
      . exact O o _
     |succ m ihm=>
      intro i o;unfold AN.lsFrom;refine Nat.le_trans (ihm (i+1) _) ?_;unfold AN.lsStep;simp only [List.length_append,List.length_cons,List.length_nil]
      split
      . omega
      . have:=O o ((Ag R t h).kids.getD i 0);omega
    have h1:=U (Ag R t h).keys.length 0 (o.1,o.2-1);have Z:=I h h0;simp only at h1;omega
end
