/- A part. -/
import Derived.Test.YtiopopoohglepaaGreatDoorPMu
import Derived.Deep.Onto
set_option linter.all false
set_option maxRecDepth 100000
set_option maxHeartbeats 16000000
namespace Go.Proofs.YtiopopoohglepaaGreatDoor
open Go.Proofs.Tryz
open Go.RowKit Go.Shelf
variable {B N n nn sz:Nat}{e:TypeId}{v:Value}{w w' w1:World}{xs:List Value}
theorem Tryz.BH:Tryz.prog.underlying 46=some (.slice 23):=by kernel_rfl
theorem Tryz.CZ:(Tryz.prog.info? 23).map (λi=>(i.zero,i.size,i.bytes))=some (some (.int .u64 0),1,8):=by kernel_rfl
theorem OU{wr:World}{tmp:Obj}(I:Below N w1 wr)(hN:N<=wr.heap.size)(hg:(wr.alloc tmp).grownBy w' v.ownBlock)(J: ∀r,v.ownBlock=some r->N<=r):Below N w1 w' :=
 ⟨hg.os.trans I.os,hg.tape.trans I.tape,hg.output.trans I.output,Nat.le_trans I.size (Nat.le_trans (by simp) hg.size),λk O=>by
  have h1:k<wr.heap.size:=by omega
  refine(hg.block k (by simp;omega) (λe=> ?_)).trans ((Below.heap_alloc wr tmp k h1).trans (I.block k O));have:=J k e.symm;omega⟩
theorem JA{W:World}(h:W.ownsRow N e 1 v n xs)(r:Nat)(I:v.ownBlock=some r):N<=r:=by
 rcases h.2 with ⟨rfl,_⟩|⟨g,cap,cur,rfl,J,_⟩
 . simp [Value.ownBlock] at I
 . have:g=r:=by simpa [Value.ownBlock] using I
   omega
section
variable  {s:Nat} {F:Nat->Prop} {R:Zr} {H:List Nat} {P q most last G:Nat}
theorem Yo(h:Ah w s F R H P q most last G):
 Calls prog 18 #[.pointer (some ⟨s,0,none⟩)] w λe w' => ∃(v:Value) (O:List Nat),e= .returned v/\O.Perm H/\w'.ownsRow w.heap.size 23 1 v O.length (O.map λx:Nat=>Value.int .u64 (x:Int))/\Below w.heap.size w w' :=by
 obtain⟨a,ha,t,v,L,mem,sl,Fh,h⟩:=h;obtain⟨i0,hi,aj,al,am⟩:=info_parts Tryz.CZ;have hN:=Zh (Gd h);have aH:=h.ch;have an:=Zh h;have ao:=Zh (X0 h.heap);have aq:=Zh h.perm;have ar:Hid ((blocks L).length<=31*4096):=Zh (by
  obtain⟨⟨mb,D,k1,rfl⟩,aI,aJ⟩:=h.heap;have h1:=k1.sl.room;have aK:=k1.sl.DA;rw [k1.sl.count] at h1;have aL:=Np (L:=L);have aM:=MB L;omega)
 clear h;go_enter func18,ntmps18;go_wp2_with fail;refine hN.mono ?_;rintro e w' ⟨rfl,rfl⟩;go_wp2_with fail;refine ao.mono ?_;rintro e w1 ⟨aN,rfl,U,V⟩;obtain⟨A,c,rfl⟩:=Bs U;have au:=Zh U;have Z:=Zh V;have aw:=Zh (an.below V);have aO:=ar.out;clear U V;generalize af:blocks L=bl at*;have ax:=Zh af;clear af;go_wp2
 go_loopw [16,3] (λaa vv wr=> ∃k:Nat,k<=bl.length/\aa= .int .i64 k/\Hid (wr.ownsRow w1.heap.size 23 1 vv k ((bl.take k).map λb=>Value.int .u64 (mem b.1:Int)))/\Hid (Below w1.heap.size w1 wr)) (λaa _ _=>bl.length-(intOf aa).toNat)
 case atStart=>exact⟨0,by omega,rfl,Zh (by simpa using World.ownsRow_nil _ _ _ _),Zh (Below.refl _ _)⟩
 case round=>
  obtain⟨k,aP,rfl,J,I⟩:=hrel;by_cases ab:k<bl.length
  . obtain⟨g,ay,ag,aQ,az,ah⟩:=Ed au (i:=k) (u:= .int .i64 ((bl[k].1:Nat):Int)) (by simp [rowsOf,ab])
    obtain⟨rfl,rfl⟩:A=some ⟨g,0,none⟩/\c=ay :=by simpa using ag
    have aR:wr.cell? ⟨g,k,none⟩=some (.int .i64 ((bl[k].1:Nat):Int)):=(I.cell (p:=⟨g,k,none⟩) az).trans ah;have ac:=Zh (aw.below I);have aS:=ac.ca;have ae:bl[k]∈blocks L:=(by rw [ax.out];exact List.getElem_mem ab);have aA:=Zh (NM ac.heap ae bl[k].1 (Nat.le_refl _) (by have:=C4 ac.heap.lay ae;omega));have aB:=I.size;have aC:Hid (((bl.take k).map λb=>Value.int .u64 (mem b.1:Int))++ [Value.int .u64 (mem bl[k].1:Int)]=(bl.take (k+1)).map λb=>Value.int .u64 (mem b.1:Int)):=Zh (by rw [List.take_succ_eq_append_getElem ab,List.map_append];rfl);clear ah ag ae;generalize aD:bl[k].1=x at*;clear aD;go_wp2_with fail;refine aA.mono ?_;rintro e w2 ⟨rfl,rfl⟩;have hlen:k<=31*4096:=(by omega);go_wp2_with (at_builtin;refine wpList_append_own_at _ rfl _ _ 46 rfl w1.heap.size 23 i0 (.int .u64 0) 1 8 Tryz.BH hi aj al am rfl (by decide) _ _ _ rfl (J.alloc _) ⟨wr.heap.size,0,none⟩ 1 1 [.int .u64 (mem x:Int)] rfl rfl (cell_one_new _ _ _) (by simp [Value.oneCell']) (by unfold maxLen;omega) (by omega) (by simp;omega) ?_;intro v' w3 ai aE _ aT;rw [aC.out] at ai;have aF:=OU I aB aE (λr aG=>JA J r aG));go_roundw
    case rel=>exact⟨k+1,by omega,by go_num,Zh ai,Zh aF⟩
    case measure=>simp [intOf];omega
  . obtain rfl:k=bl.length:=by omega
    go_wp2;go_ret;rw [List.take_length] at J;refine⟨_,bl.map λb=>mem b.1,rfl,aq.symm, ?_,Z.trans (I.mono Z.size)⟩;rw [List.length_map,List.map_map];exact J.mono Z.size
end
def Rw(w w' :World)(r r' :Option Nat):Prop:=w.grownBy w' r/\(r' =r\/ ∀k,r' =some k->w.heap.size<=k)
theorem Rw.below(h:Below w.heap.size w w')(r:Option Nat):Rw w w' r r:=⟨⟨h.os,h.tape,h.output,h.size,λk I _=>h.block k I⟩, .inl rfl⟩
theorem Rw.trans{w2:World}{r r1 r2:Option Nat}(h:Rw w w1 r r1)(g:Rw w1 w2 r1 r2):Rw w w2 r r2:=by
 refine⟨⟨g.1.os.trans h.1.os,g.1.tape.trans h.1.tape,g.1.output.trans h.1.output,Nat.le_trans h.1.size g.1.size,λk I O=>(g.1.block k (Nat.lt_of_lt_of_le I h.1.size) (λe=> ?_)).trans (h.1.block k I O)⟩, ?_⟩
 . rcases h.2 with J|J
   . exact O (e.trans J)
   . have:=J k e.symm;omega
 . rcases g.2 with g2|g2
   . rw [g2];exact h.2
   . exact .inr λk I=>Nat.le_trans h.1.size (g2 k I)
theorem Rw.cell{r J :Option Nat}(h:Rw w w' r J){p:Addr}(I:w.cell? p=some v)(O:some p.block≠r):w'.cell? p=some v:=(World.cell?_of_block (h.1.block p.block (Am I) O)).trans I
theorem Rw.low{r I :Option Nat}(h:Rw w w' r I)(O:B<=w.heap.size)(J: ∀k,r=some k->B<=k):Below B w w' :=⟨h.1.os,h.1.tape,h.1.output,h.1.size,λk U=>h.1.block k (by omega) (λe=>by have:=J k e.symm;omega)⟩
theorem Rd.rw{s:Nat}{R:Zr}{r I :Option Nat}(h:Rd N w s R nn)(g:Rw w w' r I)(hN:N<=w.heap.size)(J: ∀k,r=some k->N<=k):Rd N w' s R nn:=h.kb (KB.GN (g.low hN J) (Nat.le_refl _)) λ_ O=>O
theorem Eo(h:w.ownsRow B e sz v n xs)(J: ∀k,v.ownBlock=some k->w'.heap[k]? =w.heap[k]?):w'.ownsRow B e sz v n xs:=by
 refine⟨h.1, ?_⟩;rcases h.2 with I|⟨g,cap,cur,I,O,U,V⟩
 . exact .inl I
 . refine .inr ⟨g,cap,cur,I,O, ?_,V⟩
   rw [J g (by rw [I];rfl)];exact U
theorem Br(h:w.ownsRow B e sz v n xs): ∀k,v.ownBlock=some k->k<w.heap.size:=λk I=>by
 rcases h.2 with ⟨J,_⟩|⟨g,cap,cur,J,U,O,V⟩
 . rw [J] at I;cases I
 . rw [J] at I
   obtain rfl:g=k:=by simpa [Value.ownBlock] using I
   exact(Array.getElem?_eq_some_iff.1 O).1
theorem B6(h:w.ownsRow B e sz v n xs)(I:Below w.heap.size w w'):w'.ownsRow B e sz v n xs:=Eo h λk J=>I.block k (Br h k J)
theorem AS.ge{v1 v2 v3:Value}{l1 l2 l3:List Nat}(h:AS w B v1 l1 v2 l2 v3 l3): ∀k,v3.ownBlock=some k->B<=k:=λk I=>(BM h.r3 I).1
theorem IB{R:Zr}{t most:Nat}: ∀(f:Nat) (out:List Nat) (h:Nat),out.length<=(Bc R t most f out h).length/\(Bc R t most f out h).length<=max out.length most
 |0,out,h=>by unfold Bc;omega
 |f+1,out,h=>by
  unfold Bc
  split
  . omega
  . next J=>
    have I: ∀(l:List Nat) (o:List Nat),o.length<=(l.foldl (Bc R t most f) o).length/\(l.foldl (Bc R t most f) o).length<=max o.length most:=by
     intro l
     induction l with
     |nil=>intro o;simp only [List.foldl_nil];omega
     |cons x l ih=>
      intro o;rw [List.foldl_cons];have h1:=IB (R:=R) (t:=t) (most:=most) f o x;have O:=ih (Bc R t most f o x);omega
    have:=I (Af R t h).kids (out++ [h]);rw [List.length_append,List.length_singleton] at this;omega
def MS(N:Nat)(w:World)(r:Option Nat)(l:List Nat)(e:Ending)(w' :World):Prop:=
 ∃v',e= .returned v' /\w'.ownsRow N 23 1 v' l.length (AF l)/\Rw w w' r v'.ownBlock
section
variable {s:Nat} {R:Zr} 
def Ybj{P}(h:P:=by
 generalize (Af R t x).keys.length=n1 at*;generalize (Af R t x).Ab.length=n2 at*;generalize (Af R t x).kids.length=n3 at*;generalize (Af R t x).size=n4 at*;clear az aa ay Z
 cases decide (Bk R t x=0) with
 |true=>
  go_wp2;go_ret;rw [ah.out];exact ae.out
 |false=>
  go_wp2;go_ret;rw [ah.out];exact ae.out):=h
def Yef{P}(h:P:=by
 rcases aC.2.2 with V|V
 . rw [V];simp
 . have:=aC.1;omega):=h
def Yfc{P}(h:P:=by
 exact .inr λk I=>by rw [V] at I;simp at I;omega):=h
def Yt{P}(h:P:=by
 have aF:Below w2.heap.size w2 ai:=by rw [an];exact(Below.refl _ _).alloc (Nat.le_refl _) _
 have aG:An ai ao 100 [.slice aA n.keys.length q1, .slice aD n.Ab.length aw, .slice ax n.kids.length au, .int .u64 n.size]:=by rw [an,ar];exact An.new w2 _ _
 exact And.intro aF aG):=h
def YF{P}(h:P:=by
 have am:An O ag 96 [.pointer (some ⟨s,0,none⟩), .int .i64 t]:=by rw [U,ac];exact An.new w _ _
 exact am):=h
def Yjv{P}(h:P:=by
 have I:=Zh (aq.trans ((ay.trans (aF.mono ay.size)).mono aq.size));have J:=Zh ((aE.below ay).below aF);have O:=Zh aG;have U:=Zh (Z.below aF);exact And.intro I (And.intro J (And.intro O U))):=h
def Ykj{P}(h:P:=by
 have az:=aq.trans (ay.mono aq.size);have aa:=az.alloc az.size (Obj.cells #[Value.slice aA (Af R t x).keys.length q1,Value.slice aD (Af R t x).Ab.length aw,Value.slice ax (Af R t x).kids.length au,Value.int IntKind.u64 ((Af R t x).size:Nat)] 100);exact And.intro az aa):=h
def ZE{P}(h:P:=by
 have I:=Zh (DS (h.below J) t al x hx);exact I):=h
def Rf{P}(h:P:=by
 have aE:=Zh am;have J:=Zh I;have O:=Zh h;exact And.intro aE (And.intro J O)):=h
def Yqc{P}(h:P:=by
 have I:w.heap.size<=ao:=by have:=aq.size;have:=ay.size;omega
 exact I):=h
theorem Sm(t:Nat)(al:BN.A0 t)(most:Nat)(hm:most<=262145): ∀(f:Nat),f<=40-> ∀(w:World) (h:Rd N w s R nn) (hN:N<=w.heap.size) (x:Nat) (hx:x<18446744073709551616) (out:List Nat) (v:Value) (aB:w.ownsRow N 23 1 v out.length (AF out)) (a2:out.length<=262145),
 Calls prog 78 #[.agg #[.pointer (some ⟨s,0,none⟩), .int .i64 t],v, .int .u64 x, .int .i64 most, .int .i64 ((40-f:Nat):Int)] w (MS N w v.ownBlock (Bc R t most f out x)):=by
 intro f
 induction f with
 |zero=>
  intro _ w h hN x hx out v aB a2;obtain⟨A,c,rfl⟩:=Bs aB;have J:=XP;have aU:=ZE;have aq:=Zh J;have aL:=Zh aB;have d40:((40-0:Nat):Int)=40:=rfl;rw [d40];clear d40 h J aB;go_enter func78,ntmps78;go_wp2_with fail;refine aU.mono ?_;rintro e w2 ⟨v1,v2,v3,rfl,Z,ay⟩;obtain⟨aA,q1,rfl⟩:=Ae Z.r1;obtain⟨aD,aw,rfl⟩:=Ae Z.r2;obtain⟨ax,au,rfl⟩:=Ae Z.r3;obtain⟨az,aa⟩:=Ykj;have ae:Hid (MS N w (Value.slice A out.length c).ownBlock out (.returned (.slice A out.length c)) (w2.alloc (Obj.cells #[Value.slice aA (Af R t x).keys.length q1,Value.slice aD (Af R t x).Ab.length aw,Value.slice ax (Af R t x).kids.length au,Value.int IntKind.u64 ((Af R t x).size:Nat)] 100))):=Zh ⟨_,rfl,B6 aL aa,Rw.below aa _⟩;have ah:Hid (Bc R t most 0 out x=out):=Zh rfl;exact Ybj
 |succ f ih=>
  intro bU w h hN x hx out v aB a2;obtain⟨A,c,rfl⟩:=Bs aB;obtain⟨i0,hi,br,bs,bu⟩:=info_parts Tryz.CZ;obtain⟨O,U⟩:=Zx (w.alloc (Obj.cells #[.pointer (some ⟨s,0,none⟩), .int .i64 t] 96));have J:=EI;obtain⟨ag,ac⟩:=Zx w.heap.size;have am:=YF;have I:=DS (h.below J) t al x hx;obtain⟨d,hd⟩:=Zx (40-(f+1));have bV:d<40:=by omega
  rw [<-hd];obtain⟨aq,aP⟩:=K7;obtain⟨aE,aU,a3⟩:=Rf;have aL:=Zh aB;have bv:=Zh hd;have bw:=Zh ih;have g5:w.heap.size<=ag:=by omega
  clear U ac am I h aB J hd ih;have a4:Hid (Bc R t most (f+1) out x=if Bk R t x≠0\/most<=out.length then out else (Af R t x).kids.foldl (Bc R t most f) (out++ [x])):=Zh (by conv=>lhs;unfold Bc)
  go_enter func78,ntmps78;have d40:((d:Int)==40)=false:=by simp;omega
  obtain⟨a5,a6⟩:=AX aE.out;rw [aP.1,aP.2] at a5 a6;go_wp2_with fail;rw [<-aP.1,<-aP.2];refine aU.mono ?_;rintro e w2 ⟨v1,v2,v3,rfl,Z,ay⟩;obtain⟨aA,q1,rfl⟩:=Ae Z.r1;obtain⟨aD,aw,rfl⟩:=Ae Z.r2;obtain⟨ax,au,rfl⟩:=Ae Z.r3;obtain⟨n,aj⟩:=Zx (Af R t x);rw [<-aj] at Z;rw [<-aj];obtain⟨ai,an⟩:=Zx (w2.alloc (Obj.cells #[.slice aA n.keys.length q1, .slice aD n.Ab.length aw, .slice ax n.kids.length au, .int .u64 n.size] 100));obtain⟨ao,ar⟩:=Zx w2.heap.size;obtain⟨aF,aG⟩:=Yt;obtain⟨aJ,a7,bz,a8⟩:=Yjv;obtain⟨aQ,a9⟩:=Oo;have ba:=Zh (B6 aL aJ);have bW:=Yqc;have bb:Hid (Bk R t x≠0\/most<=out.length->MS N w (Value.slice A out.length c).ownBlock (Bc R t most (f+1) out x) (.returned (.slice A out.length c)) ai):=Zh (λh=>by
   rw [a4.out,if_pos h];exact⟨_,rfl,ba,Rw.below aJ _⟩)
  clear aj ay aF Z an ar aG;by_cases he:Bk R t x=0
  . rw [decide_eq_true he]
    have hw:=BR (a3.below aJ) al he;rw [<-a9.out] at hw;obtain⟨aC,bA,bB,wc,bX⟩:=hw;have bY:n.kids.length<=33:=by
     have:=al.2;exact Yef
    have bC:=Zh wc;have bD:=Zh he;clear aC bA bB wc he;by_cases bc:most<=out.length
    . have dl:decide ((out.length:Int)>=(most:Int))=true:=decide_eq_true (by omega)
      go_wp2;rw [<-aQ.1];go_ret;exact bb.out (.inr bc)
    . have dl:decide ((out.length:Int)>=(most:Int))=false:=decide_eq_false (by omega)
      have bE:Hid (Bc R t most (f+1) out x=n.kids.foldl (Bc R t most f) (out++ [x])):=Zh (by rw [a4.out,if_neg (by rintro(V|V);exact V bD.out;exact bc V),a9.out]);have bd:N<=ai.heap.size:=Nat.le_trans hN aJ.size;go_upto_region 4 with (fail);rw [<-aQ.1,<-aQ.2];go_upto_region 5 with (at_builtin;refine wpList_append_own_at _ rfl _ _ 46 rfl N 23 i0 (.int .u64 0) 1 8 Tryz.BH hi br bs bu rfl (by decide) _ _ _ rfl (ba.alloc _) ⟨ai.heap.size,0,none⟩ 1 1 [.int .u64 (x:Int)] rfl rfl (cell_one_new _ _ _) (by simp [Value.oneCell']) (by unfold maxLen;omega) (by omega) (by simp;omega) ?_;intro v' w4 aM aK _ be);have aM :w4.ownsRow N 23 1 v' (out++ [x]).length (AF (out++ [x])):=(by rw [Hw,List.length_append];exact aM);obtain⟨aH,aR⟩:=Zx (out++ [x]);rw [<-aR] at aM;have bf:Rw ai w4 (Value.slice A out.length c).ownBlock v'.ownBlock:=by
       refine⟨⟨aK.os,aK.tape,aK.output,Nat.le_trans (by simp) aK.size,λk af aj=>(aK.block k (by simp;omega) aj).trans (Below.heap_alloc ai _ k af)⟩, ?_⟩;rcases be with V|V
       . exact .inl V
       . exact Yfc
      have bF:=Zh aM;have aV:=Zh bf;have bZ:aH.length<=262145:=(by rw [aR];simp;omega);have bG:=Zh aR;clear aM bf aK be aR;obtain⟨aN,aS⟩:=Zx ((Value.slice A out.length c).ownBlock);have aO:Hid (∀k,aN=some k->k<w.heap.size/\N<=k):=Zh (by rw [aS];exact λk af=>⟨Br aL k af,JA aL k af⟩);rw [<-aS] at aV;have bg:=Zh aS;have bH:Hid (∀k,ax=some k->w.heap.size<=k.block):=Zh (λk af=>Nat.le_trans aq.size (a8.ge k.block (by rw [af];rfl)));clear aS;rw [<-bg.out];have bI:Hid (∀v2 w2 l,l=n.kids.length->w2.ownsRow N 23 1 v2 ((n.kids.take l).foldl (Bc R t most f) aH).length (AF ((n.kids.take l).foldl (Bc R t most f) aH))->Rw ai w2 aN v2.ownBlock->MS N w aN (Bc R t most (f+1) out x) (.returned v2) w2):=Zh (λv2 w2 l bJ h1 bK=>by
       subst bJ;rw [List.take_length] at h1;rw [bE.out,<-bG.out];exact⟨v2,rfl,h1,(Rw.below aJ aN).trans bK⟩)
      have b3:w4.cell? ⟨ao,2,none⟩=some (.slice ax n.kids.length au):=aV.cell (bz.at' (i:=2) rfl) (λV=>by have:=(aO ao V.symm).1;omega);go_wp2
      go_loopw [1,41] (λvv aW wr=> ∃k:Nat,k<=n.kids.length/\aW= .int .i64 k/\Hid (wr.ownsRow N 23 1 vv ((n.kids.take k).foldl (Bc R t most f) aH).length (AF ((n.kids.take k).foldl (Bc R t most f) aH))/\Rw ai wr aN vv.ownBlock)) (λ_ aW _=>n.kids.length-(intOf aW).toNat)
      case atStart=>exact⟨0,Nat.zero_le _,rfl,Zh ⟨bF,aV⟩⟩
      case round=>
       obtain⟨k,af,rfl,ab⟩:=hrel;by_cases aX:k<n.kids.length
       . obtain⟨b,o,bh,b4,bi⟩:=AK.num (F:=λ_=>False) (by obtain⟨b5,b8,bL,h1⟩:=A5 (F:=λ_=>False) a8.r3 (λ_ h=>h.elim);cases bL;exact h1) aX
         have b9:w.heap.size<=b:=bH.out _ bh;have bM:=ab.2.cell (bi ai (Below.refl _ _)) (λV=>by have:=(aO b V.symm).1;omega);have bj:=bC.out k aX;obtain⟨y,aY⟩: ∃y,n.kids[k]=y:=⟨_,rfl⟩;rw [aY] at bM bj;have bk:Hid ((n.kids.take (k+1)).foldl (Bc R t most f) aH=Bc R t most f ((n.kids.take k).foldl (Bc R t most f) aH) y):=Zh (by rw [List.take_succ_eq_append_getElem aX,List.foldl_append,aY];rfl);have a5:=ab.2.cell (a7.at' (i:=0) rfl) (λV=>by have:=(aO ag V.symm).1;omega);have a6:=ab.2.cell (a7.at' (i:=1) rfl) (λV=>by have:=(aO ag V.symm).1;omega);have bm:=(a3.below aJ).rw ab.2 bd (λk af=>(aO k af).2);have bN:N<=wr.heap.size:=Nat.le_trans bd ab.2.1.size;have hlen:=IB (R:=R) (t:=t) (most:=most);obtain⟨bo,aT⟩:=Zx ((n.kids.take k).foldl (Bc R t most f) aH);have bO:bo.length<=262145:=by
          have bP: ∀(l o:List Nat),o.length<=262145->(l.foldl (Bc R t most f) o).length<=262145:=by
           intro l
           induction l with
           |nil=>exact λo h=>h
           |cons a l ih=>intro o h;rw [List.foldl_cons];exact ih _ (by have:=(hlen f o a).2;omega)
          rw [aT];exact bP _ _ (by omega)
         rw [<-aT] at bk;have aZ:=ab.1;rw [<-aT] at aZ;have a0:=bw.out (by omega) wr bm bN y bj bo _ aZ bO;rw [show 40-f=d+1 by rw [bv.out];omega] at a0;have bQ:=Zh ab.2;have bR:=Zh a0;subst bh;clear ab aZ a0 bi hlen aY aT bm;go_wp2_with fail;refine bR.mono ?_;rintro e cb ⟨v5,rfl,bp,bq⟩;have bS:=Zh (And.intro bp (bQ.trans bq));clear bp bq;go_wp2;go_roundw
         case rel=>exact⟨k+1,by omega,by go_num,by rw [bk.out];exact bS⟩
         case measure=>simp [intOf];omega
       . obtain rfl:k=n.kids.length:=by omega
         have a1:=bI.out _ _ _ rfl ab.1 ab.2;rw [bg.out] at a1;have bT:=Zh a1;clear a1;go_wp2;go_ret;exact bT.out
  . rw [decide_eq_false he]
    go_wp2;rw [<-aQ.1];go_ret;exact bb.out (.inl he)
theorem Lu{t:Nat}(h:nn<=262144):BF nn t<=262145:=by
 unfold BF;have:=Nat.div_le_self nn (6*t);omega
def Ymd{P}(h:P:=by
 have Z:An O b7 96 [.pointer (some ⟨s,0,none⟩), .int .i64 t]:=by rw [U,ac];exact An.new w _ _
 have I:=Zh (λW (J:Below w.heap.size w W)=>Va (h.below J) t V);exact And.intro Z I):=h
def Yqa{P}(h:P:=by
 have h:=h.here;have hle:=h.le;have hA:=Zh (GQ h V);exact And.intro h (And.intro hle hA)):=h
theorem JM(h:Rd N w s R nn)(t:Nat)(V:BN.A0 t)(x:Nat)(hx:x<18446744073709551616):
 Calls prog 39 #[.pointer (some ⟨s,0,none⟩), .int .i64 t, .int .u64 x] w λe w' => ∃v',e= .returned v' /\w'.ownsRow w.heap.size 23 1 v' (Bc R t (BF nn t) 40 [] x).length (AF (Bc R t (BF nn t) 40 [] x))/\Below w.heap.size w w' :=by
 obtain⟨h,hle,hA⟩:=Yqa;obtain⟨O,U⟩:=Zx (w.alloc (Obj.cells #[.pointer (some ⟨s,0,none⟩), .int .i64 t] 96));have J:=EI;obtain⟨b7,ac⟩:=Zx w.heap.size;obtain⟨Z,aq⟩:=Ymd;have ah:=Zh (λW (ai:Below w.heap.size w W)=>Sm t V (BF nn t) (Lu hle) 40 (Nat.le_refl _) W (h.below ai) ai.size x hx [] (.slice none 0 0) (World.ownsRow_nil _ _ _ _) (by simp));rw [show((40-40:Nat):Int)=0 from rfl] at ah;generalize Bc R t (BF nn t) 40 [] x=l at*;generalize BF nn t=m at*;obtain⟨aj,al⟩:=K7;obtain⟨c0,c1⟩:=Ymv;clear U ac J Z h hle;go_enter func39,ntmps39;go_wp2_with fail;refine hA.mono ?_;rintro e w1 ⟨rfl,rfl⟩;go_wp2;rw [<-al.1,<-al.2];refine As (λw' => ∃X:Au (λ_=>False) O,w' =X.W) [.r 0, .r 1, .r 2, .a 3, .a 4, .r 5] (Ay _ _) ?_
 iterate 3 (refine AH ?_;go_simp)
 clear c0 c1;have ae:=Zh (aj.trans ((Ac O).mono aj.size));refine AI _ rfl (λar am=> ?_);go_wp2_with fail;refine(aq _ ae).mono ?_;rintro e w2 ⟨rfl,I⟩;have aa:=Dt;have ab:=Zh ((Ac O).trans I);clear I;go_wp2;refine am _ _ (Ag ab) ?_;clear am ar;refine AI _ rfl (λau an=> ?_);go_wp2_with fail;refine(ah _ aa).mono ?_;rintro e w3 ⟨v',rfl,ao,af⟩;have aw:=Zh (ab.trans ((af.low (Nat.le_refl _) (λk ag=>by cases ag)).mono ab.size));have ax:=Zh (aa.trans ((af.low (Nat.le_refl _) (λk ag=>by cases ag)).mono aa.size));have ay:=Zh ao;clear ao af;go_wp2;refine an _ _ (Ag aw) ?_;clear an au;refine AH ?_;go_simp;refine AP ?_;go_wp2;go_ret;exact⟨_,rfl,ay,ax⟩
end
section
variable {s:Nat} {R:Zr} 
theorem I4{R:Zr}{t:Nat}: ∀(f x:Nat),Bo R t f x<=f
 |0,_=>Nat.le_refl _
 |f+1,x=>by
  unfold Bo
  split
  . omega
  . split
    . omega
    . have:=I4 (R:=R) (t:=t) f ((Af R t x).kids.getD 0 0);omega
theorem QN(h:Rd N w s R nn)(t:Nat)(aH:BN.A0 t)(x:Nat)(hx:x<18446744073709551616):
 Calls prog 61 #[.pointer (some ⟨s,0,none⟩), .int .i64 t, .int .u64 x] w λe w' =>e= .returned (.int .i64 (Bo R t 40 x:Nat))/\Below w.heap.size w w' :=by
 have hA:=Zh (GQ h aH);have aK:=Zh h;have ab:Hid (∀(m:Nat) W,Bo R t 40 x=m->Below w.heap.size w W->(Ending.returned (.int .i64 (m:Nat))=Ending.returned (.int .i64 (Bo R t 40 x:Nat))/\Below w.heap.size w W)):=Zh (λm W h1 aO=>⟨by rw [h1],aO⟩);obtain⟨D,aq⟩:=Zx (Bo R t 40 x);have Z:=Zh aq;clear h aq;go_enter func61,ntmps61;go_wp2_with fail;refine hA.mono ?_;rintro e w1 ⟨rfl,rfl⟩;go_wp2
 go_loopw [2,7] (λaR ac wr=> ∃(i ae :Nat),i<=40/\ae <18446744073709551616/\aR= .int .u64 (ae :Nat)/\ac= .int .i64 i/\Hid (D=Bo R t (40-i) ae +i)/\Hid (Below w.heap.size w wr)) (λ_ ac _=>40-(intOf ac).toNat)
 case atStart=>exact⟨0,x,by omega,hx,rfl,rfl,Z,Zh (Below.refl _ _)⟩
 case round=>
  obtain⟨i,y,hi,aX,rfl,rfl,hd,aI⟩:=hrel;have ay:=Yna;go_wp2_with fail;refine ay.mono ?_;rintro e w2 ⟨v1,v2,v3,rfl,am,af⟩;obtain⟨aA,q1,rfl⟩:=Ae am.r1;obtain⟨aD,aw,rfl⟩:=Ae am.r2;obtain⟨ax,au,rfl⟩:=Ae am.r3;obtain⟨n,aj⟩:=Zx (Af R t y);rw [<-aj] at am;rw [<-aj];obtain⟨ai,an⟩:=Zx (w2.alloc (Obj.cells #[.slice aA n.keys.length q1, .slice aD n.Ab.length aw, .slice ax n.kids.length au, .int .u64 n.size] 100));obtain⟨ao,ar⟩:=Zx w2.heap.size;obtain⟨aJ,aQ⟩:=Yt;have O:=Zh (aI.trans ((af.trans (aJ.mono af.size)).mono aI.size));obtain⟨az,aS⟩:=Zm;obtain⟨I,aB⟩:=Oo;clear aj af aJ am an ar aQ aI ay;by_cases he:Bk R t y=0
  . rw [decide_eq_true he]
    have hw:=BR (aK.below O) aH he;rw [<-aB.out] at hw;obtain⟨aC,aT,aU,wc,a0⟩:=hw;have a1:n.kids.length<=33:=by
     have:=aH.2;exact Yef
    have aV:=Zh wc;have aW:=Zh he;clear aC aT aU wc he;by_cases ah:i=40
    . have d40:((i:Int)==40)=true:=by rw [ah];rfl
      have U:=Zh (ab i ai (by rw [<-Z.out,hd.out,ah];simp [Bo]) O);clear ah;go_wp2;rw [<-I.1];go_ret;exact U.out
    . have d40:((i:Int)==40)=false:=by simp;omega
      obtain⟨m,hm⟩: ∃m,40-i=m+1:=⟨39-i,by omega⟩;have J:D=(if n.kids= [] then 1 else Bo R t m (n.kids.getD 0 0)+1)+i:=by
       rw [hd.out,hm]
       conv=>lhs;unfold Bo
       rw [if_neg (λh=>h aW.out),<-aB.out]
      by_cases ag:n.kids= []
      . rw [if_pos ag] at J
        have d0:((n.kids.length:Int)==0)=true:=(by rw [ag];rfl);have c2:=az.at' (i:=2) rfl;rw [I.1,I.2] at c2;have U:=Zh (ab (i+1) ai (by rw [<-Z.out,J];omega) O);clear J ag hm;go_wp2;rw [<-I.1];go_ret;exact U.out
      . rw [if_neg ag] at J
        have al:=VT;have d0:((n.kids.length:Int)==0)=false:=(by simp;omega);have c2:=az.at' (i:=2) rfl;obtain⟨b,o,aY,a2,aL⟩:=AK.num (F:=λ_=>False) (by obtain⟨a3,a4,aZ,h1⟩:=A5 (F:=λ_=>False) aS.r3 (λ_ h=>h.elim);cases aZ;exact h1) al;have aa:=aL ai (Below.refl _ _);have aM:=aV.out 0 al;rw [show n.kids.getD 0 0=n.kids[0] by simp [al]] at J;obtain⟨z,aN⟩: ∃z,n.kids[0]=z:=⟨_,rfl⟩;rw [aN] at aa aM J;have hrel:Hid (D=Bo R t (40-(i+1)) z+(i+1)):=Zh (by rw [J,show 40-(i+1)=m by omega];omega);have aa:ai.cell? ⟨b,o,none⟩=some (.int .u64 (z:Nat)):=aa;subst aY;rw [I.1,I.2] at c2;rw [I.1] at aa;clear J hm aN aL ag;go_wp2;rw [<-I.1];go_roundw
        case rel=>exact⟨i+1,z,by omega,aM,rfl,by go_num,hrel,O⟩
        case measure=>simp [intOf];omega
  . rw [decide_eq_false he]
    have U:=Zh (ab i ai (by
     rw [<-Z.out,hd.out]
     cases a5:40-i with
     |zero=>simp [Bo]
     |succ m=>unfold Bo;rw [if_pos he];omega) O)
    clear he;go_wp2;rw [<-I.1];go_ret;exact U.out
end
section
variable (R:Zr) (t:Nat)
end
namespace Bt
section
variable {R:Zr} {t:Nat}
end
end Bt
section
variable {s N:Nat} {R:Zr} {nn:Nat}
end
theorem J1: ∀{p:List Bool},p.all id=true->CN p=p.length
 | [],_=>rfl
 |b::p,h=>by
  simp only [List.all_cons,id,Bool.and_eq_true] at h;unfold CN;rw [if_pos h.2,if_pos h.1];rfl
theorem Sc(b:Bool)(p:List Bool):CN p<=CN (b::p):=by
 conv=>rhs;unfold CN
 split
 . next h=>rw [J1 h];omega
 . exact Nat.le_refl _
namespace Bt
structure Vl(R R' :Zr)(t a lo:Nat)(s:Sb)(it:It)(used:List Nat)(up:Option (Nat × Nat × Nat))(full:Bool):Prop where
 frame: ∀z,z∉s.ns->z∉used->R' z=R z
 IJ: ∀z,Rec R t z->Rec R' t z
 stays:up=none->full=false/\ ∃ns',At R' t a lo ⟨s.h,BL s.Aa it,ns'⟩/\ ∀x,ns'.count x=s.ns.count x+used.count x
 split: ∀mk mv r,up=some (mk,mv,r)->full=true/\ ∃(L Q:Sb) (m:It),mk=m.kh/\mv=m.vh/\L.h=s.h/\Q.h=r/\At R' t a (t-1) L/\At R' t a (t-1) Q/\BL s.Aa it=L.Aa++m::Q.Aa/\ ∀x,L.ns.count x+Q.ns.count x=s.ns.count x+used.count x
section
variable {R R1:Zr} {t a lo:Nat}
theorem Tb(ac:BN.A0 t){s:Sb}{it:It}{st:List Nat}(h:At R t 0 lo s)(hp:(BL s.Aa it).length=s.Aa.length+1)(hm:((Ar s.Aa).DC (AE (AJ s.Aa) it.k) it.kh it.vh).more=Ar (BL s.Aa it))(ar:1<=lo\/True)
 (ae: ∀x∈st,x≠0/\x∉s.ns/\Rec R t x) (af:s.Aa.length=2*t-1->1<=st.length):
 ∃R' used st' up,B4 R t s.h st (Ar (BL s.Aa it))=(R',st',up)/\st=used++st' /\used.length=(if 2*t-1<=s.Aa.length then 1 else 0)/\Vl R R' t 0 lo s it used up (decide (2*t-1<=s.Aa.length)):=by
 obtain⟨t1,t2⟩:=ac;obtain⟨h1,au,U⟩:=h;have aw:s.Aa.length<=2*t-1:=by have:=U.2.1;simpa [Ar] using this
 have V:Rec R t s.h:=⟨_,U.1,BN.B0 _ _⟩;have hlen:(Ar (BL s.Aa it)).keys.length=s.Aa.length+1:=by simp [Ar,hp]
 by_cases J:2*t-1<=s.Aa.length
 . have he:s.Aa.length=2*t-1:=by omega
   obtain⟨x,st',rfl⟩: ∃x st',st=x::st' :=by
    cases st with
    |nil=>exact absurd (af he) (by simp)
    |cons x st' =>exact⟨x,st',rfl⟩
   obtain⟨ax,ag,ah⟩:=ae x (by simp);have ai:x≠s.h:=(λe=>ag (by rw [h1,e];simp));obtain⟨A,m,B,Z,hA,ay⟩: ∃A m B,BL s.Aa it=A++m::B/\A.length=t/\B.length=t-1:=by
    have aj:t<(BL s.Aa it).length:=(by omega);refine⟨(BL s.Aa it).take t,(BL s.Aa it)[t],(BL s.Aa it).drop (t+1), ?_,by rw [List.length_take];omega,by rw [List.length_drop];omega⟩;have:=List.take_append_drop t (BL s.Aa it);rw [List.drop_eq_getElem_cons aj] at this;exact this.symm
   obtain⟨g1,g2,g3,g4⟩:=P1 (R:=R) (t:=t) (m:=m) (B:=B) hA (by omega);rw [Z] at hlen ⊢;have O:=JB (st:=st') V ah (n:=Ar (A++m::B)) (by omega) (left:=Ar A) (right:=Ar B) (by rw [g1];exact g2) g1 (Co (by omega)) (Co (by omega));rw [g3,g4] at O;have al:(Ar A).Fits t:=Co (by omega);have am:(Ar B).Fits t:=Co (by omega);have an:t-1<=A.length:=(by omega);have ao:t-1<=B.length:=(by omega);refine⟨_,[x],st',_,O,rfl,by rw [if_pos J];rfl,⟨λz I aa=> ?_,λz I=>EG (EG I),(λe=>by cases e),λmk mv r e=> ?_⟩⟩
   . rw [Aw (λe=>aa (by rw [e];simp)),Aw (λe=>I (by rw [h1,e];simp))]
   . simp only [Option.some.injEq,Prod.mk.injEq] at e
     obtain⟨rfl,rfl,rfl⟩:=e;refine⟨decide_eq_true J,⟨s.h,A,[s.h]⟩,⟨x,B,[x]⟩,m,rfl,rfl,rfl,rfl,⟨rfl,an,(Aw (Ne.symm ai)).trans (AT _ _ _),al⟩,⟨rfl,ao,AT _ _ _,am⟩,Z,λy=>by rw [h1]⟩
 . have ab:(Ar (BL s.Aa it)).Fits t:=Co (by omega)
   have aq:lo<=(BL s.Aa it).length:=(by omega);have O:=JH (st:=st) V (n:=Ar (BL s.Aa it)) ab (by omega);refine⟨_,[],st,_,O,rfl,by rw [if_neg J];rfl,⟨λz I aa=> ?_,λz I=>EG I,λ_=>⟨decide_eq_false J,[s.h],⟨rfl,aq,AT _ _ _,ab⟩,λy=>by rw [h1];simp⟩,λmk mv r e=>by cases e⟩⟩;rw [Aw (λe=>I (by rw [h1,e];simp))]
end
end Bt
namespace Bt
variable {ak av f h k r x y:Nat}{n:BN}{st st1:List Nat}
section
variable {R R1:Zr} {t a lo:Nat}
theorem CP{s:Sb}(h:At R t a lo s)(hx:x∉s.ns):At (AQ R x (some (n.wd t))) t a lo s:=h.congr λz I=>Aw λe=>hx (by rw [<-e];exact I)
theorem At.sizeOf(I:BN.A0 t){s:Sb}(h:At R t a lo s):(Af R t s.h).size=s.Aa.length:=(h.get I).2
theorem Kx(U:BN.A0 t){c:Sb}{l:List Lk}(V:Rec R1 t h)(h1:l.length<=2*t-1)(h0:0∉(c.h::l.map (·.2.h)))(Z:At R1 t a (t-1) c)(aa: ∀p∈l,At R1 t a (t-1) p.2)(J:h∉Ax c l)(ab:lo<=l.length):
 B4 R1 t h st (Al c l)=(AQ R1 h (some ((Al c l).wd t)),st,none)/\At (AQ R1 h (some ((Al c l).wd t))) t (a+1) lo ⟨h,Aj c l,h::Ax c l⟩:=by
 have O:=CC h1 h0;have ac:=(DP c l).1;have t1:=U.1;refine⟨JH V O (by omega),c,l,rfl,rfl,ab,⟨AT _ _ _,O⟩,CP Z λI=>J (List.mem_append.2 (.inl I)),λp hp=>CP (aa p hp) λI=>J (C7 hp I)⟩
theorem QV(U:BN.A0 t){c:Sb}{l:List Lk}(Z:Rec R1 t h)(aa:Rec R1 t x)(h1:l.length=2*t)(h0:0∉(c.h::l.map (·.2.h)))(ab:At R1 t a (t-1) c)(O: ∀p∈l,At R1 t a (t-1) p.2)(J:h∉Ax c l)(hx:x∉Ax c l)(ac:x≠h)(ae:(Aj c l).length<18446744073709551616):
 ∃(A:List Lk) (m:It) (d:Sb) (B:List Lk),l=A++(m,d)::B/\
  B4 R1 t h (x::st) (Al c l)=(AQ (AQ R1 h (some ((Al c A).wd t))) x (some ((Al d B).wd t)),st,some (m.kh,m.vh,x))/\
  At (AQ (AQ R1 h (some ((Al c A).wd t))) x (some ((Al d B).wd t))) t (a+1) (t-1) ⟨h,Aj c A,h::Ax c A⟩/\At (AQ (AQ R1 h (some ((Al c A).wd t))) x (some ((Al d B).wd t))) t (a+1) (t-1) ⟨x,Aj d B,x::Ax d B⟩:=by
 have t1:=U.1;obtain⟨A,m,d,B,rfl,hA,af,-,-⟩:=ZY (l:=l) (t:=t) (by omega);have ag:B.length=t-1:=by rw [af,h1];omega
 have hd:At R1 t a (t-1) d:=O (m,d) (by simp);obtain⟨g1,g2,g3,g4⟩:=O0 (R:=R1) (t:=t) (c:=c) (m:=m) (d:=d) (B:=B) hA (hd.sizeOf U) (λp hp=>(O p (by simp [hp])).sizeOf U) ae;rw [Em] at J hx;rw [List.mem_append,not_or] at J hx;have f1:(Al c A).Fits t:=CC (by omega) λh=>h0 (by
  rcases List.mem_cons.1 h with h|h
  . rw [h];simp
  . simp only [List.map_append,List.mem_cons,List.mem_append];exact .inr (.inl h))
 have f2:(Al d B).Fits t:=CC (by omega) λh=>h0 (by
  simp only [List.map_append,List.map_cons,List.mem_cons,List.mem_append];rcases List.mem_cons.1 h with h|h
  . exact .inr (.inr (.inl h))
  . exact .inr (.inr (.inr h)))
 have V:=JB (st:=st) Z aa (n:=Al c (A++(m,d)::B)) (by rw [(DP c _).1];omega) (left:=Al c A) (right:=Al d B) (by rw [g1];exact g2) g1 f1 f2;rw [g3,g4] at V;refine⟨A,m,d,B,rfl,V,⟨c,A,rfl,rfl,by omega,⟨(Aw (Ne.symm ac)).trans (AT _ _ _),f1⟩, ?_,λp hp=> ?_⟩,⟨d,B,rfl,rfl,by omega,⟨AT _ _ _,f2⟩, ?_,λp hp=> ?_⟩⟩
 . exact CP (CP ab λI=>J.1 (List.mem_append.2 (.inl I))) λI=>hx.1 (List.mem_append.2 (.inl I))
 . exact CP (CP (O p (by simp [hp])) λI=>J.1 (C7 hp I)) λI=>hx.1 (C7 hp I)
 . exact CP (CP hd λI=>J.2 (List.mem_append.2 (.inl I))) λI=>hx.2 (List.mem_append.2 (.inl I))
 . exact CP (CP (O p (by simp [hp])) λI=>J.2 (C7 hp I)) λI=>hx.2 (C7 hp I)
theorem Di{key:ByteArray}(I:Af R t x=n)(J:Bk R t x=0)(O:DL R n.keys key=k):
 Ca R t key (f+1) x=decide (2*t-1<=n.keys.length)::if n.kids= [] then [] else Ca R t key f (n.kids.getD k 0):=by
 subst I O
 conv=>lhs;unfold Ca
 rw [if_neg (by rw [J];simp)]
theorem Ua{key:ByteArray}(I:Af R t x=n)(J:Bk R t x=0)(O:DL R n.keys key=k)(h0:n.kids= []):D6 t key ak av (f+1) R st x=B4 R t x st (n.DC k ak av).more:=by
 subst I O
 conv=>lhs;unfold D6
 rw [if_neg (by rw [J];simp),if_pos h0]
def Yga{P}(h:P:=by
 subst V U J
 conv=>lhs;unfold D6
 rw [if_neg (by rw [I];simp),if_neg h0,O]):=h
theorem TI{key:ByteArray}(V:Af R t x=n)(I:Bk R t x=0)(U:DL R n.keys key=k)(h0:n.kids≠ [])(J:n.kids.getD k 0=y)(O:D6 t key ak av f R st y=(R1,st1,none)):D6 t key ak av (f+1) R st x=B4 R1 t x st1 n.more:=by
 exact Yga
theorem Ys{key:ByteArray}{p q:Nat}(V:Af R t x=n)(I:Bk R t x=0)(U:DL R n.keys key=k)(h0:n.kids≠ [])(J:n.kids.getD k 0=y)(O:D6 t key ak av f R st y=(R1,st1,some (p,q,r))):D6 t key ak av (f+1) R st x=B4 R1 t x st1 ((n.DC k p q).FZ (k+1) r).more:=by
 exact Yga
theorem Rp{l:List Nat}(h:x∈l.take k++r::l.drop k):x=r\/x∈l:=by
 exact Ycz
theorem Ib: ∀{c:Sb} {l:List Lk} {k:Nat},k<=l.length->(Ax c l).Nodup->(Ap c l k).ns.Nodup
 |c,l,0,_,h=>by
  have I:Ap c l 0=c:=by cases l<;>rfl
  rw [I];exact(List.nodup_append.1 h).1
 |c,[],k+1,h,_=>absurd h (by simp)
 |c,p::l,k+1,h,hn=>by
  rw [BB] at hn;exact Ib (c:=p.2) (l:=l) (k:=k) (by simpa using h) (List.nodup_append.1 hn).2.1
theorem At.Fp: ∀{a lo:Nat} {s:Sb},At R t a lo s-> ∀x∈s.ns,Rec R t x
 |0,lo,s,h,x,hx=>by
  rw [h.1,List.mem_singleton] at hx;rw [hx];exact⟨_,h.2.2.1,BN.B0 _ _⟩
 |a+1,lo,s,h,x,hx=>by
  obtain⟨c,l,h1,I,V,J,O,U⟩:=h;rw [I] at hx;rcases List.mem_cons.1 hx with rfl|hx
  . exact⟨_,J.1,BN.B0 _ _⟩
  . rcases List.mem_append.1 hx with hx|hx
    . exact At.Fp O x hx
    . obtain⟨p,hp,hx⟩:=List.mem_flatMap.1 hx
      exact At.Fp (U p hp) x hx
theorem At.FH{s:Sb}(h:At R t a lo s)(h0:R 0=none):0∉s.ns:=λhm=>by
 obtain⟨ws,e,_⟩:=h.Fp 0 hm;rw [h0] at e
 cases e
def Yda{P}(h:P:=by
 show(c.h::l.map (·.2.h)).getD k 0=_
 rw [List.getD_eq_getElem?_getD,ER c l k J];rfl):=h
def Yfx{P}(h:P:=by
 rw [<-List.count_eq_zero,O,List.count_eq_zero.2 ae,List.count_eq_zero.2 ac]):=h
def Yjo{P}(h:P:=by
 have J:=HQ I;have O: ∀i∈l.map (·.1),i.At R:=λi hi=>hA i (keys_in hi)
 exact And.intro J O):=h
def Ypu{P}(h:P:=by
 have I:Q.h≠0:=λe=>V.FH ab (by rw [<-e];exact DE V)
 exact I):=h
def Yrd{P}(h:P:=by
 have J:=U.le;have I:=Hy k Z aa;have O:(Al c l).kids.getD k 0=(Ap c l k).h:=by
  exact Yda
 exact And.intro J (And.intro I O)):=h
theorem T4(aq:BN.A0 t)(it:It): ∀(a lo f:Nat) (s:Sb) (st:List Nat) (R:Zr),At R t a lo s->R 0=none->s.ns.Nodup->(∀i∈s.Aa,i.At R)->AZ (AJ s.Aa)->Bb s.Aa it.k=none->a<f->s.Aa.length+1<18446744073709551616->
 (∀x∈st,x≠0/\x∉s.ns/\Rec R t x)->st.Nodup->CN (Ca R t it.k f s.h)<=st.length->
 ∃R' used st' up,D6 t it.k it.kh it.vh f R st s.h=(R',st',up)/\st=used++st' /\used.length=CN (Ca R t it.k f s.h)/\Vl R R' t a lo s it used up ((Ca R t it.k f s.h).all id):=by
 intro a
 induction a with
 |zero=>
  intro lo f s st R h aB aK hA I az a6 aC al aD ag;obtain⟨f,rfl⟩: ∃g,f=g+1:=⟨f-1,by omega⟩;obtain⟨ar,au⟩:=h.2.2.get aq;have an:=BZ (key:=it.k) hA I;have aL:Ca R t it.k (f+1) s.h= [decide (2*t-1<=s.Aa.length)]:=by
   rw [Di ar au an,if_pos (show(Ar s.Aa).kids= [] from rfl)];simp [Ar]
  rw [aL] at ag ⊢;rw [Ua ar au an rfl];have hlen:=E8 s.Aa it;have hm:((Ar s.Aa).DC (AE (AJ s.Aa) it.k) it.kh it.vh).more=Ar (BL s.Aa it):=by
   refine N8 ?_ ?_ rfl ?_ ?_
   . show(s.Aa.map (·.kh)).take _++it.kh::(s.Aa.map (·.kh)).drop _=(BL s.Aa it).map (·.kh)
     unfold BL;exact Zo
   . show(s.Aa.map (·.vh)).take _++it.vh::(s.Aa.map (·.vh)).drop _=(BL s.Aa it).map (·.vh)
     unfold BL;exact Zo
   . exact hlen.symm
   . show(BL s.Aa it).length<_
     omega
  rw [hm];have a7:CN [decide (2*t-1<=s.Aa.length)]=if 2*t-1<=s.Aa.length then 1 else 0:=by
   unfold CN;by_cases a8:2*t-1<=s.Aa.length<;>simp [a8]
  have a9: [decide (2*t-1<=s.Aa.length)].all id=decide (2*t-1<=s.Aa.length):=by simp
  rw [a7] at ag ⊢;rw [a9];exact Tb aq h hlen hm (.inr trivial) al (λe=>by rw [if_pos (by omega)] at ag;exact ag)
 |succ a ih=>
  intro lo f s st R h aB aK hA I az a6 aC al aD ag;obtain⟨f,rfl⟩: ∃g,f=g+1:=⟨f-1,by omega⟩;have aT:=h.FH aB;obtain⟨c,l,h1,aA,bv,aE,Z,aa⟩:=h;obtain⟨ar,au⟩:=aE.get aq;obtain⟨ah,bw,bz⟩:=s;dsimp only at h1 aA aE hA I az aC aK al ag ar au aT ⊢;subst h1 aA;obtain⟨ae,nn⟩:=List.nodup_cons.1 aK;have t1:=aq.1;obtain⟨aU,ba⟩:=Yjo;have U:=N3 (key:=it.k) aU;have an:=BZ (key:=it.k) ba aU;rw [List.map_map] at an;generalize AE (AJ (l.map (·.1))) it.k=k at U an;obtain⟨J,bb,aM⟩:=Yrd;have aF:(Al c l).kids≠ []:=by simp [Al]
  have aL:Ca R t it.k (f+1) ah=decide (2*t-1<=l.length)::Ca R t it.k f (Ap c l k).h:=by
   rw [Di ar au an,if_neg aF,aM,(DP c l).1]
  rw [aL] at ag ⊢;have bc: ∀aV :k<l.length,l[k].1.k≠it.k:=λaV e=>by
   rw [U.here I aV e] at az;cases az
  have bd:Bb (Ap c l k).Aa it.k=none:=by rw [<-U.gone I bc];exact az
  have aW:BL (Aj c l) it=pre c l k++(BL (Ap c l k).Aa it++rest (l.drop k)):=by
   conv=>lhs;rw [Bu c l k J]
   exact R5 (U.pre I) (U.post I)
  have bA:=Rx (c:=c) J;have aX:=aE.2;have bB:l.length<=2*t-1:=by have:=aX.1;rwa [(DP c l).1] at this
  have aY:0∉(c.h::l.map (·.2.h)):=by
   rcases aX.2.2 with h|h
   . exact absurd h aF
   . exact h.2
  obtain⟨R1,used,st1,up,g1,g2,g3,g4⟩:=ih (t-1) f (Ap c l k) st R bb aB (Ib J nn) (λi hi=>hA i (Hg J hi)) (DJ J I) bd (by omega) (by omega)
   (λx hx=>⟨(al x hx).1,λhm=>(al x hx).2.1 (List.mem_cons_of_mem _ (D4 J hm)),(al x hx).2.2⟩) aD (Nat.le_trans (Sc _ _) ag)
  generalize Ca R t it.k f (Ap c l k).h=p at g3 g4 ag ⊢;have aN: ∀x∈used,x∈st:=λx hx=>by rw [g2];exact List.mem_append.2 (.inl hx)
  have aZ: ∀z,z∈Ax c l->z∉(Ap c l k).ns->R1 z=R z:=λz af ai=>g4.frame z ai λbe=>(al z (aN z be)).2.1 (List.mem_cons_of_mem _ af)
  have aO:Rec R1 t ah:=g4.IJ _ ⟨_,aE.1,BN.B0 _ _⟩;have ac:ah∉used:=λhm=>(al _ (aN _ hm)).2.1 (by simp)
  have ab:R1 0=none:=(g4.frame 0 (λhm=>aT (List.mem_cons_of_mem _ (D4 J hm))) (λhm=>(al 0 (aN 0 hm)).1 rfl)).trans aB;have aP: ∀z,z∉ah::Ax c l->z∉used->R1 z=R z:=λz af ai=>g4.frame z (λhm=>af (List.mem_cons_of_mem _ (D4 J hm))) ai
  have bf:(decide (2*t-1<=l.length)::p).all id=(decide (2*t-1<=l.length)&&p.all id):=by simp
  rw [bf]
  cases up with
  |none=>
   obtain⟨q1,ao,bg,bh⟩:=g4.stays rfl;have aG:=Qa (c:=c) (l:=l) (k:=k) (s:=⟨(Ap c l k).h,BL (Ap c l k).Aa it,ao⟩) J rfl (E8 _ _) aC;have aj:=Gl (a:=a) (lo:=t-1) J nn Z aa aZ bg;have O: ∀x,(Ax (AM c l k ⟨(Ap c l k).h,BL (Ap c l k).Aa it,ao⟩).1 (AM c l k ⟨(Ap c l k).h,BL (Ap c l k).Aa it,ao⟩).2).count x=(Ax c l).count x+used.count x:=λx=>by
    have h1:=Gi c l k ⟨(Ap c l k).h,BL (Ap c l k).Aa it,ao⟩ x J;have aA:=bh x;dsimp only at h1 aA;omega
   have hlen:=CU c l k ⟨(Ap c l k).h,BL (Ap c l k).Aa it,ao⟩ J;have aw:=EZ c l k ⟨(Ap c l k).h,BL (Ap c l k).Aa it,ao⟩ J rfl;have ax:=Ex c l k ⟨(Ap c l k).h,BL (Ap c l k).Aa it,ao⟩ J;rw [TI ar au an aF aM g1,aG.1];generalize AM c l k ⟨(Ap c l k).h,BL (Ap c l k).Aa it,ao⟩=aQ at aj O hlen aw ax ⊢;obtain⟨am,l'⟩:=aQ;dsimp only at aj O hlen aw ax ⊢;have aH :ah∉Ax am l' :=by
    exact Yfx
   obtain⟨b1,b2⟩:=Kx (lo:=lo) (st:=st1) aq aO (by omega) (by rw [aw];exact aY) aj.1 aj.2 aH (by omega);refine⟨_,used,st1,none,b1,g2, ?_,⟨λz af ai=> ?_,λz af=>EG (g4.IJ z af),λ_=>⟨by rw [q1,Bool.and_false],ah::Ax am l', ?_,λx=> ?_⟩,λmk mv r e=>by cases e⟩⟩
   . rw [g3]
     conv=>rhs;unfold CN
     rw [if_neg (by rw [q1];simp)]
   . rw [Aw (λe=>af (by rw [e];simp)),aP z af ai]
   . rw [aW,<-ax];exact b2
   . simp only [List.count_cons,O];omega
  |some u=>
   obtain⟨mk,mv,r⟩:=u;obtain⟨q1,L,Q,m,rfl,rfl,a0,rfl,bi,V,a1,bj⟩:=g4.split _ _ _ rfl;have bk:L.Aa.length+1+Q.Aa.length=(Ap c l k).Aa.length+1:=by
    have aI:=congrArg List.length a1;rw [E8] at aI;simp only [List.length_append,List.length_cons] at aI;omega
   have aG:=TR (c:=c) (l:=l) (k:=k) (s:=L) (m:=m) (r:=Q) J a0 bk aC;have aj:=SB (a:=a) (lo:=t-1) (m:=m) J nn Z aa aZ bi V;have O: ∀x,(Ax (Cg c l k L m Q).1 (Cg c l k L m Q).2).count x=(Ax c l).count x+used.count x:=λx=>by
    have h1:=SU c l k L m Q x J;have aA:=bj x;omega
   have hlen:=PY c l k L m Q J;have aw:=M3 c l k L m Q J a0;have ax:=Ly c l k L m Q J;have bm:=Ypu;rw [Ys ar au an aF aM g1,aG.1];have a2:=aG.2;generalize Cg c l k L m Q=aQ at aj O hlen aw ax a2 ⊢;obtain⟨am,l'⟩:=aQ;dsimp only at aj O hlen aw ax a2 ⊢;have aH :ah∉Ax am l' :=by
    exact Yfx
   have a3 :0∉(am.h::l'.map (·.2.h)):=λhm=>by
    rw [aw] at hm;rcases Rp hm with h|h
    . exact bm h.symm
    . exact aY h
   have a4:BL (Aj c l) it=Aj am l' :=(by rw [aW,a1,ax]);have aR:=J1 q1;by_cases aJ:2*t-1<=l.length
   . have aS:CN (decide (2*t-1<=l.length)::p)=p.length+1:=by
      conv=>lhs;unfold CN
      rw [if_pos q1,if_pos (decide_eq_true aJ)]
     rw [aS] at ag ⊢;obtain⟨x,ay,rfl⟩: ∃x ay,st1=x::ay:=by
      cases st1 with
      |nil=>
       rw [g2,List.append_nil,g3,aR] at ag;omega
      |cons x ay=>exact⟨x,ay,rfl⟩
     have bo:x∈st:=(by rw [g2];simp);obtain⟨bC,a5,bp⟩:=al x bo;have bq:x∉used:=λhm=>by
      rw [g2] at aD;exact(List.nodup_append.1 aD).2.2 x hm x (by simp) rfl
     have br:x≠ah:=(λe=>a5 (by rw [e];simp));have bs:x∉Ax am l' :=by
      rw [<-List.count_eq_zero,O,List.count_eq_zero.2 (λhm=>a5 (List.mem_cons_of_mem _ hm)),List.count_eq_zero.2 bq]
     obtain⟨A,m',d,B,rfl,b1,b2,bu⟩:=QV (st:=ay) aq aO (g4.IJ x bp) (by omega) a3 aj.1 aj.2 aH bs br (by omega);refine⟨_,used++ [x],ay,_,b1,by rw [g2];simp,by rw [List.length_append,g3,aR];rfl,⟨λz af ai=> ?_,λz af=>EG (EG (g4.IJ z af)),(λe=>by cases e),λmk mv r e=> ?_⟩⟩
     . rw [List.mem_append,List.mem_singleton,not_or] at ai
       rw [Aw ai.2,Aw (λe=>af (by rw [e];simp)),aP z af ai.1]
     . simp only [Option.some.injEq,Prod.mk.injEq] at e
       obtain⟨rfl,rfl,rfl⟩:=e;refine⟨by rw [q1,decide_eq_true aJ];rfl,⟨ah,Aj am A,ah::Ax am A⟩,⟨x,Aj d B,x::Ax d B⟩,m',rfl,rfl,rfl,rfl,b2,bu, ?_,λy=> ?_⟩
       . rw [a4,CW]
       . have aI:=O y
         rw [Em,List.count_append] at aI;simp only [List.count_cons,List.count_append,List.count_nil];omega
   . have aS:CN (decide (2*t-1<=l.length)::p)=p.length:=by
      conv=>lhs;unfold CN
      rw [if_pos q1,decide_eq_false aJ];rfl
     rw [aS];obtain⟨b1,b2⟩:=Kx (lo:=lo) (st:=st1) aq aO (by omega) a3 aj.1 aj.2 aH (by omega);refine⟨_,used,st1,none,b1,g2,by rw [g3,aR],⟨λz af ai=> ?_,λz af=>EG (g4.IJ z af),λ_=>⟨by rw [decide_eq_false aJ];rfl,ah::Ax am l', ?_,λx=> ?_⟩,λmk mv r e=>by cases e⟩⟩
     . rw [Aw (λe=>af (by rw [e];simp)),aP z af ai]
     . rw [a4];exact b2
     . simp only [List.count_cons,O];omega
end
end Bt
def IU(p:List Bool):Nat:=CN p+(if p.all id then 1 else 0)
def CA(R:Zr)(t:Nat)(key:ByteArray)(root:Nat):Nat:=if root=0 then 1 else IU (Ca R t key 40 root)
def ED(R:Zr)(t a b:Nat):Nat:=((Af R t a).size+(Af R t b).size+1)%18446744073709551616
def DU(t:Nat)(key:ByteArray)(ak av:Nat)(R:Zr)(st:List Nat)(root:Nat):(Zr) × List Nat × Nat:=
 if root=0 then DI R t st ⟨[ak],[av],[],1⟩
 else binUp t root (D6 t key ak av 40 R st root)
where
 binUp (t root:Nat) (p:(Zr) × List Nat × Option (Nat × Nat × Nat)):(Zr) × List Nat × Nat:=
  match p.2.2 with
  |none=>(p.1,p.2.1,root)
  |some (a,b,r)=>DI p.1 t p.2.1 ⟨[a],[b],[root,r],ED p.1 t root r⟩
theorem It.At.Eh {R R1:Zr}{i:It}(h:i.At R)(e: ∀z,R z≠none->R1 z=R z):i.At R1:=
 h.congr λz I=>e z (by
  simp only [It.hs,List.mem_cons,List.mem_singleton,List.not_mem_nil,or_false] at I;rcases I with rfl|rfl
  . rw [h.kt];simp
  . rw [h.vt];simp)
namespace Bt
variable {hg root:Nat}{Aa:List It}{ns st:List Nat}
def Tree(R:Zr)(t root:Nat)(Aa:List It)(ns:List Nat)(hg:Nat):Prop:=
 (root=0/\Aa= []/\ns= []/\hg=0)\/ ∃a,hg=a+1/\At R t a 1 ⟨root,Aa,ns⟩
structure Own(R:Zr)(Aa:List It)(ns:List Nat):Prop where
 at' : ∀i∈Aa,i.At R
 CY:AZ (AJ Aa)
 nodup:(ns++Aa.flatMap It.hs).Nodup
section
variable {R R1:Zr} {t a lo:Nat}
theorem At.YW(I:BN.A0 t): ∀{a lo:Nat} {s:Sb},At R t a lo s->(lo+1)*t^a<=s.Aa.length+1
 |0,lo,s,h=>by have:=h.2.1;simp;exact this
 |a+1,lo,s,h=>by
  obtain⟨c,l,h1,U,ag,ah,V,Z⟩:=h;have t1:=I.1;have J:=At.YW I V;have aa:=λp hp=>At.YW I (Z p hp)
  have ab: ∀(q:Nat) (l:List Lk),(∀p∈l,q<=p.2.Aa.length+1)->l.length*q<=(l.flatMap λp=>p.2.Aa).length+l.length:=by
   intro q l
   induction l with
   |nil=>intro _;simp
   |cons p l ih=>
    intro h;have h1:=h p (by simp);have U:=ih (λq ac=>h q (by simp [ac]));simp only [List.flatMap_cons,List.length_append,List.length_cons,Nat.succ_mul];omega
  have O:=ab _ l aa;have ae:=IK c l;rw [h1,ae,List.length_append];rw [show t-1+1=t by omega] at J O;have e:(lo+1)*t^(a+1)=(lo+1)*(t*t^a):=by rw [Nat.pow_succ,Nat.mul_comm (t^a) t]
  rw [e];generalize t*t^a=q at J O;have af:(lo+1)*q<=(l.length+1)*q:=Nat.mul_le_mul_right q (by omega);rw [Nat.succ_mul l.length q] at af;omega
theorem At.high(J:BN.A0 t){s:Sb}(h:At R t a 1 s)(U:s.Aa.length<549755813888):a<40:=by
 have h1:=h.YW J;have V:2^a<=t^a:=Nat.pow_le_pow_left J.1 a;rcases Nat.lt_or_ge a 40 with I|I
 . exact I
 . have O:2^40<=2^a:=Nat.pow_le_pow_right (by omega) I
   have e:(2:Nat)^40=1099511627776:=(by decide);rw [e] at O;omega
theorem At.Eh {s:Sb}(h:At R t a lo s)(e: ∀z,R z≠none->R1 z=R z):At R1 t a lo s:=
 h.congr λx hx=>e x (by obtain⟨ws,h1,_⟩:=h.Fp x hx;rw [h1];simp)
theorem S4(O:BN.A0 t)(e: ∀z,R z≠none->R1 z=R z)(key:ByteArray): ∀(a lo f:Nat) (s:Sb),At R t a lo s->(∀i∈s.Aa,i.At R)->AZ (AJ s.Aa)->a<f->Ca R1 t key f s.h=Ca R t key f s.h:=by
 intro a
 induction a with
 |zero=>
  intro lo f s h hA I ai;obtain⟨f,rfl⟩: ∃g,f=g+1:=⟨f-1,by omega⟩;obtain⟨ab,ac⟩:=h.2.2.get O;obtain⟨ae,af⟩:=(h.Eh e).2.2.get O;rw [Di ab ac (BZ hA I),Di ae af (BZ (λi hi=>(hA i hi).Eh e) I),if_pos (show(Ar s.Aa).kids= [] from rfl)];rfl
 |succ a ih=>
  intro lo f s h hA I ai;obtain⟨f,rfl⟩: ∃g,f=g+1:=⟨f-1,by omega⟩;obtain⟨c,l,h1,aq,ar,V,Z,aa⟩:=h;have aj :KP R1 t s.h (Al c l):=⟨(e _ (by rw [V.1];simp)).trans V.1,V.2⟩;obtain⟨ab,ac⟩:=V.get O;obtain⟨ae,af⟩:=aj.get O;rw [h1] at hA I;obtain⟨al,am,U,ag⟩:=Zw;have ah :=BZ (R:=R1) (key:=key) (λi hi=>(am i hi).Eh e) al;rw [List.map_map] at ag ah;generalize AE (AJ (l.map (·.1))) key=k at U ag ah;obtain⟨J,an,ao⟩:=Yrd;rw [Di ab ac ag,Di ae af ah,ao,ih (t-1) f (Ap c l k) an (λi hi=>hA i (Hg J hi)) (DJ J I) (by omega)]
structure DB(R R1:Zr)(t:Nat)(st:List Nat):Prop where
 new: ∀x∈st,R x=none/\x≠0/\Rec R1 t x
 nodup:st.Nodup
 old: ∀z,z∉st->R1 z=R z
theorem DB.ext(f:DB R R1 t st): ∀z,R z≠none->R1 z=R z:=λz I=>f.old z λhm=>I (f.new z hm).1
theorem Wi{key:ByteArray}(ac:BN.A0 t): ∀(a lo f:Nat) (s:Sb),At R t a lo s->(∀i∈s.Aa,i.At R)->AZ (AJ s.Aa)->a<f->(Ca R t key f s.h).length=a+1:=by
 intro a
 induction a with
 |zero=>
  intro lo f s h hA I ae;obtain⟨f,rfl⟩: ∃g,f=g+1:=⟨f-1,by omega⟩;obtain⟨O,V⟩:=h.2.2.get ac;rw [Di O V (BZ hA I),if_pos (show(Ar s.Aa).kids= [] from rfl)];rfl
 |succ a ih=>
  intro lo f s h hA I ae;obtain⟨f,rfl⟩: ∃g,f=g+1:=⟨f-1,by omega⟩;obtain⟨c,l,h1,ai,aj,af,Z,aa⟩:=h;obtain⟨O,V⟩:=af.get ac;rw [h1] at hA I;obtain⟨_,_,U,ab⟩:=Zw;rw [List.map_map] at ab;generalize AE (AJ (l.map (·.1))) key=k at U ab;obtain⟨J,ag,ah⟩:=Yrd;rw [Di O V ab,if_neg (show¬(Al c l).kids= [] by simp [Al]),ah,List.length_cons,ih (t-1) f (Ap c l k) ag (λi hi=>hA i (Hg J hi)) (DJ J I) (by omega)]
theorem O2: ∀(p:List Bool),CN p<=p.length
 | []=>Nat.le_refl _
 |b::p=>by
  unfold CN;have:=O2 p
  split
  . split<;>simp
  . simp;omega
theorem Sq(p:List Bool):IU p<=p.length+1:=by
 unfold IU;have:=O2 p
 split<;>omega
def Ype{P}(h:P:=by
 have h0:root≠0:=λe=>h.FH I (by have:=DE h;rw [<-e];exact this)
 exact h0):=h
theorem Tree.Aae(J:BN.A0 t)(h:Tree R t root Aa ns hg)(I:R 0=none)(O:Own R Aa ns)(U:Aa.length<549755813888)(key:ByteArray):CA R t key root<=hg+1:=by
 unfold CA;rcases h with ⟨rfl,_,_,rfl⟩|⟨a,rfl,h⟩
 . rw [if_pos rfl];omega
 . have h0:=Ype
   rw [if_neg h0];have:=Sq (Ca R t key 40 root);have V:(Ca R t key 40 root).length=a+1:=Wi J a 1 40 ⟨root,Aa,ns⟩ h O.at' O.CY (h.high J U);omega
def Yeh{P}(h:P:=by
 have I:=J x;have V:=List.count_pos_iff.2 hm;rw [List.count_eq_zero.2 O,List.count_eq_zero.2 U] at I;omega):=h
theorem T3(ac:BN.A0 t)(it:It)(h:Tree R t root Aa ns hg)(I:R 0=none)(ae:Own R Aa ns)(aB:Bb Aa it.k=none)(aC:Aa.length<549755813888)
 (Z:DB R R1 t st) (aa:st.length=CA R t it.k root):
 ∃R' now ah aD,DU t it.k it.kh it.vh R1 st root=(R',[],now)/\Tree R' t now (BL Aa it) ah aD /\(∀x,ah.count x=ns.count x+st.count x)/\(∀z,z∉ns->z∉st->R' z=R z):=by
 have au:R1 0=none:=(Z.old 0 λhm=>(Z.new 0 hm).2.1 rfl).trans I;rcases h with ⟨rfl,rfl,rfl,rfl⟩|⟨a,rfl,h⟩
 . unfold CA at aa
   rw [if_pos rfl] at aa;obtain⟨x,rfl⟩: ∃x,st= [x]:=List.length_eq_one_iff.1 aa;obtain⟨aE,O,ws,aj,al⟩:=Z.new x (by simp);have af:(Ar [it]).Fits t:=Co (by have:=ac.1;simp;omega);have e:DU t it.k it.kh it.vh R1 [x] 0=(AQ R1 x (some ((Ar [it]).wd t)),[],x):=by
    unfold DU;rw [if_pos rfl]
    show(Bp R1 t x (Ar [it]),[],x)=_
    rw [B8 af aj al]
   refine⟨_,x,[x],1,e, .inr ⟨0,rfl,rfl, ?_,AT _ _ _,af⟩,λy=> ?_,λz _ ag=> ?_⟩
   . show 1<=(BL [] it).length
     rw [E8];exact Nat.le_add_left _ _
   . simp
   . rw [Aw (by simpa using ag),Z.old z ag]
 . have h0:=Ype
   have ha:=h.high ac aC;have aw: ∀x∈ns,R x≠none:=(λx hx=>by obtain⟨ws,h1,_⟩:=h.Fp x hx;rw [h1];simp);have am: ∀x∈st,x≠0/\x∉ns/\Rec R1 t x:=(λx hx=>⟨(Z.new x hx).2.1,λhm=>aw x hm (Z.new x hx).1,(Z.new x hx).2.2⟩);unfold CA at aa;rw [if_neg h0] at aa;have an:=S4 ac Z.ext it.k a 1 40 ⟨root,Aa,ns⟩ h ae.at' ae.CY ha;dsimp only at an;have aF:CN (Ca R1 t it.k 40 root)<=st.length:=(by rw [an,aa];unfold IU;omega);obtain⟨R2,used,st',up,g1,g2,g3,g4⟩:=T4 (R:=R1) ac it a 1 40 ⟨root,Aa,ns⟩ st (h.Eh Z.ext) au (List.nodup_append.1 ae.nodup).1 (λi hi=>(ae.at' i hi).Eh Z.ext) ae.CY aB ha (by show Aa.length+1<_;omega) am Z.nodup aF;dsimp only at g1 g2 g3 g4;rw [an] at g3 g4;have hlen:st.length=used.length+st'.length:=(by rw [g2,List.length_append]);have ax: ∀z,z∉ns->z∉st->R2 z=R z:=λz h1 ay=>(g4.frame z h1 λaG=>ay (by rw [g2];simp [aG])).trans (Z.old z ay)
   cases up with
   |none=>
    obtain⟨q1,ah,aH,aI⟩:=g4.stays rfl;have aJ:st' = []:=by
     unfold IU at aa;rw [q1] at aa;simp only [Bool.false_eq_true,if_false,Nat.add_zero] at aa;exact List.eq_nil_of_length_eq_zero (by omega)
    subst aJ;refine⟨R2,root,ah,a+1, ?_, .inr ⟨a,rfl,aH⟩,λx=> ?_,ax⟩
    . unfold DU
      rw [if_neg h0,g1];rfl
    . rw [aI x,g2,List.append_nil]
   |some u=>
    obtain⟨mk,mv,r⟩:=u;obtain⟨q1,L,Q,m,rfl,rfl,ao,rfl,ai,V,aq,J⟩:=g4.split _ _ _ rfl;dsimp only at ao aq J;have aK:st'.length=1:=by
     unfold IU at aa;rw [q1] at aa;simp only [if_true] at aa;omega
    obtain⟨x,rfl⟩: ∃x,st' = [x]:=List.length_eq_one_iff.1 aK;have az:x∈st:=(by rw [g2];simp);obtain⟨aE,O,aj⟩:=am x az;have U:x∉used:=λhm=>by
     have:=Z.nodup;rw [g2] at this;exact(List.nodup_append.1 this).2.2 x hm x (by simp) rfl
    have ab:R2 0=none:=(g4.frame 0 (λhm=>aw 0 hm I) (λhm=>(am 0 (by rw [g2];simp [hm])).1 rfl)).trans au;have aL:L.h≠0:=(λe=>ai.FH ab (by rw [<-e];exact DE ai));have aM:=Ypu;have aN:x∉L.ns:=λhm=>by
     exact Yeh
    have aO:x∉Q.ns:=λhm=>by
     exact Yeh
    have aA:BL Aa it=Aj L [(m,Q)]:=(by rw [aq];simp [Aj,rest]);have ar:=E8 Aa it;have aP:ED R2 t root Q.h=(Aj L [(m,Q)]).length:=by
     unfold ED;rw [<-ao,ai.sizeOf ac,V.sizeOf ac,<-aA,ar];rw [aq] at ar;rw [List.length_append,List.length_cons] at ar;rw [Nat.mod_eq_of_lt (by omega)];omega
    have aQ:(⟨[m.kh],[m.vh],[root,Q.h],ED R2 t root Q.h⟩:BN)=Al L [(m,Q)]:=(by rw [aP,<-ao];rfl);have af:(Al L [(m,Q)]).Fits t:=CC (by have:=ac.1;simp;omega) (by
     simp only [List.map_cons,List.map_nil,List.mem_cons,List.not_mem_nil,or_false,not_or];exact⟨λe=>aL e.symm,λe=>aM e.symm⟩)
    obtain⟨ws,al,aR⟩:=g4.IJ x aj;refine⟨AQ R2 x (some ((Al L [(m,Q)]).wd t)),x,x::Ax L [(m,Q)],a+2, ?_, .inr ⟨a+1,rfl,L,[(m,Q)],aA,rfl,by simp,⟨AT _ _ _,af⟩,CP ai aN,λp hp=> ?_⟩,λy=> ?_,λz aS ag=> ?_⟩
    . unfold DU
      rw [if_neg h0,g1]
      show DI R2 t [x] ⟨[m.kh],[m.vh],[root,Q.h],ED R2 t root Q.h⟩=_
      rw [aQ]
      show(Bp R2 t x _,[],x)=_
      rw [B8 af al aR]
    . rw [List.mem_singleton] at hp
      rw [hp];exact CP V aO
    . have aT:=J y
      rw [g2];simp only [Ax,List.flatMap_cons,List.flatMap_nil,List.append_nil,List.count_cons,List.count_append,List.count_nil];omega
    . rw [Aw (λe=>ag (by rw [e];exact az)),ax z aS ag]
end
end Bt
def D7:List Bool->Nat->Bool->Nat
 | [],full,all=>full+(if all then 1 else 0)
 |b::p,full,all=>if b then D7 p (full+1) all else D7 p 0 false
theorem Le: ∀(p:List Bool) (full:Nat) (all:Bool),D7 p full all=if p.all id then full+p.length+(if all then 1 else 0) else CN p
 | [],full,all=>by simp [D7]
 |b::p,full,all=>by
  cases b with
  |true=>
   show D7 p (full+1) all=_
   rw [Le p];have e:(true::p).all id=p.all id:=(by simp);rw [e];by_cases h:p.all id=true
   . rw [if_pos h,if_pos h,List.length_cons];omega
   . rw [if_neg h,if_neg h]
     conv=>rhs;unfold CN
     rw [if_neg h]
  |false=>
   show D7 p 0 false=_
   rw [Le p];have e: ¬(false::p).all id=true:=(by simp);rw [if_neg e];by_cases h:p.all id=true
   . rw [if_pos h]
     conv=>rhs;unfold CN
     rw [if_pos h];simp
   . rw [if_neg h]
     conv=>rhs;unfold CN
     rw [if_neg h]
theorem QF(p:List Bool):D7 p 0 true=IU p:=by
 rw [Le];unfold IU;by_cases h:p.all id=true
 . rw [if_pos h,if_pos h,J1 h];simp
 . rw [if_neg h,if_neg h];simp
section
variable {s N:Nat} {R:Zr} {nn:Nat}
def Yej{P}(h:P:=by
 rw [aq.out,if_neg ag,show n.kids.getD k 0=n.kids[k] by simp [V],ah,show 40-(i+1)=m by have:=aB.out;omega]):=h
def Yht{P}(h:P:=by
 have I:=Zh (And.intro U J);have ae:=Zh ab;exact And.intro I ae):=h
def Yoc{P}(h:P:=by
 have J:=Zh (λW (I:Below ai.heap.size ai W)=>by have:=ay W I;rw [ah] at this;exact this);exact J):=h
def Yro{P}(h:P:=by
 have I:=VT;have d11:((n.kids.length:Int)==0)=false:=by simp;omega
 have V:k<n.kids.length:=by
  exact Xh
 exact And.intro I (And.intro d11 V)):=h
theorem Tu{w:World}(h:Rd N w s R nn)(bo:A6 R){t:Nat}(aV:BN.A0 t)(x:Nat)(hx:x<18446744073709551616)(key:ByteArray):
 Calls prog 47 #[.agg #[.pointer (some ⟨s,0,none⟩), .int .i64 t], .int .u64 x, .string key] w λe w' =>e= .returned (.int .i64 (CA R t key x:Nat))/\Below w.heap.size w w' :=by
 have aY:=Zh h;have ba:=Zh aV;have t1:=aV.1;have t2:=aV.2;obtain⟨O,U⟩:=Zx (w.alloc (Obj.cells #[.pointer (some ⟨s,0,none⟩), .int .i64 t] 96));have ab:=EI;obtain⟨bp,J⟩:=Zx w.heap.size;have bb:An O bp 96 [.pointer (some ⟨s,0,none⟩), .int .i64 t]:=by rw [U,J];exact An.new w _ _
 obtain⟨aZ,ae⟩:=Yht;have bq:=Zh bb;have aI:Hid (∀(m:Nat) W,CA R t key x=m->Below w.heap.size w W->(Ending.returned (.int .i64 (m:Nat))=Ending.returned (.int .i64 (CA R t key x:Nat))/\Below w.heap.size w W)):=Zh (λm W h1 br=>⟨by rw [h1],br⟩);clear h aV U J bb ab;go_enter func47,ntmps47;by_cases aM:x=0
 . have d0:((x:Int)==0)=true:=by rw [aM];rfl
   have aC:=Zh (aI 1 O (by unfold CA;rw [if_pos aM]) ae);clear aM;go_wp2;rw [<-aZ.1];go_ret;exact aC.out
 . have d0:((x:Int)==0)=false:=by simp;omega
   obtain⟨D,a0⟩:=Zx (CA R t key x);have aK:=Zh a0;have bs:Hid (D=D7 (Ca R t key (40-0) x) 0 true):=Zh (by rw [a0,QF];unfold CA;rw [if_neg aM]);clear aM a0;go_upto_region 3 with (fail);rw [<-aZ.1,<-aZ.2];go_wp2
   go_loopw [1,7,8,15] (λbu bv av a1 wr=> ∃(i a2 full:Nat) (all:Bool),i<=40/\full<=i/\a2 <18446744073709551616/\bu= .int .u64 (a2 :Nat)/\bv= .int .i64 full/\av= .bool all/\a1= .int .i64 i/\Hid (D=D7 (Ca R t key (40-i) a2) full all)/\Hid (Below O.heap.size O wr)) (λ_ _ _ a1 _=>40-(intOf a1).toNat)
   case atStart=>exact⟨0,x,0,true,by omega,by omega,hx,rfl,rfl,rfl,rfl,bs,Zh (Below.refl _ _)⟩
   case round=>
    obtain⟨i,y,full,all,hi,bI,bw,rfl,rfl,rfl,rfl,hd,I⟩:=hrel;have af:=Dt;by_cases bJ:i<40
    . have bc:=Zh (DS (aY.below af) t ba y bw)
      have a3:=Zh (bq.below I);obtain⟨bd,be⟩:=AX a3.out;obtain⟨m,hm⟩: ∃m,40-i=m+1:=⟨39-i,by omega⟩;go_wp2_with fail;refine bc.mono ?_;rintro e w2 ⟨v1,v2,v3,rfl,am,aT⟩;obtain⟨aA,q1,rfl⟩:=Ae am.r1;obtain⟨aD,aw,rfl⟩:=Ae am.r2;obtain⟨ax,au,rfl⟩:=Ae am.r3;obtain⟨n,aj⟩:=Zx (Af R t y);rw [<-aj] at am;rw [<-aj];obtain⟨ai,an⟩:=Zx (w2.alloc (Obj.cells #[.slice aA n.keys.length q1, .slice aD n.Ab.length aw, .slice ax n.kids.length au, .int .u64 n.size] 100));obtain⟨ao,ar⟩:=Zx w2.heap.size;obtain⟨aJ,aQ⟩:=Yt;have aa:=Yln;have z3:=Zh (a3.below aa);have aL:=K8;have al:=Zh (I.trans (aa.mono I.size));obtain⟨aW,bf⟩:=Oo;obtain⟨a4,aP⟩:=Zm;have aB:=Zh hm;clear bd be bc aT am aj an ar aJ aa aQ I a3 af hm;by_cases he:Bk R t y=0
      . rw [decide_eq_true he]
        have hw:=BR (aY.below aL) ba he;rw [<-bf.out] at hw;obtain⟨bz,bg,bA,wc,bB⟩:=hw;obtain⟨g1,g2,aU⟩:=bz;obtain⟨_,_,bi⟩:=Yhp;have aS:=GU (aY.below aL) bo bi t bg key;obtain⟨k,az⟩:=Zx (DL R n.keys key);generalize Gw R n.keys key=bK at*;have bL:=YV;rw [<-az] at aS;have aX:Hid (D=D7 (decide (2*t-1<=n.keys.length)::if n.kids= [] then [] else Ca R t key m (n.kids.getD k 0)) full all):=Zh (by
         rw [hd.out,aB.out]
         conv=>lhs;unfold Ca
         rw [if_neg (λh=>h he),<-bf.out,<-az])
        obtain⟨bj,bh⟩:=Ykc;have bk:=Zh wc;obtain⟨bd,be⟩:=AX z3.out;obtain⟨f0,f1,f2,f3⟩:=C5 a4.out;clear bi aS az g2 aU bg bA wc bB he hd;go_upto_region 8 with (fail);rw [<-aW.1,<-aW.2];by_cases bm:2*t-1<=n.keys.length
        . have d8:decide ((n.keys.length:Int)<2*(t:Int)-1)=false:=decide_eq_false (by omega)
          have aq:Hid (D=D7 (if n.kids= [] then [] else Ca R t key m (n.kids.getD k 0)) (full+1) all):=Zh (by rw [aX.out,decide_eq_true bm];rfl);clear aX;by_cases ag:n.kids= []
          . have bC:n.kids.length=0:=by rw [ag];rfl
            cases all with
            |true=>
             have aC:=Zh (aI (full+1+1) ai (by rw [<-aK.out,aq.out,if_pos ag];rfl) aL);clear ag;go_wp2;go_ret;exact aC.out
            |false=>
             have aC:=Zh (aI (full+1) ai (by rw [<-aK.out,aq.out,if_pos ag];rfl) aL);clear ag;go_wp2;go_ret;exact aC.out
          . obtain⟨bM,d11,V⟩:=Yro
            obtain⟨bD,d3,a5,aN⟩:=A5 (F:=λ_=>False) aP.r3 (λ_ h=>h.elim)
            cases a5
            obtain⟨bE,bF,a6,bG,ay⟩:=aN.num V;have aO:=bk.out k V;obtain⟨aR,ah⟩: ∃a7,n.kids[k]=a7:=⟨_,rfl⟩;rw [ah] at aO;have hrel:Hid (D=D7 (Ca R t key (40-(i+1)) aR) (full+1) all):=Zh (by
             exact Yej)
            have a8:=Yoc;subst a6;clear ag ah ay aN;go_wp2_with fail;refine bj.mono ?_;rintro e w4 ⟨rfl,Z⟩;have bH:=a8.out w4 Z;have f24:=(a4.below Z).at' (i:=2) rfl;have a9:=OZ;clear Z;go_wp2;go_roundw
            case rel=>exact⟨i+1,aR,(full+1),all,by omega,by omega,aO,rfl,by first|rfl|go_num,rfl,by go_num,hrel,a9⟩
            case measure=>simp [intOf];omega
        . have d8:decide ((n.keys.length:Int)<2*(t:Int)-1)=true:=decide_eq_true (by omega)
          have aq:Hid (D=D7 (if n.kids= [] then [] else Ca R t key m (n.kids.getD k 0)) 0 false):=Zh (by rw [aX.out,decide_eq_false bm];rfl);clear aX;by_cases ag:n.kids= []
          . have bC:n.kids.length=0:=by rw [ag];rfl
            have aC:=Zh (aI 0 ai (by rw [<-aK.out,aq.out,if_pos ag];rfl) aL);clear ag;go_wp2;go_ret;exact aC.out
          . obtain⟨_,_,V⟩:=Yro
            obtain⟨bD,d3,a5,aN⟩:=A5 (F:=λ_=>False) aP.r3 (λ_ h=>h.elim)
            cases a5
            obtain⟨bE,bF,a6,bG,ay⟩:=aN.num V;have aO:=bk.out k V;obtain⟨aR,ah⟩: ∃a7,n.kids[k]=a7:=⟨_,rfl⟩;rw [ah] at aO;have hrel:Hid (D=D7 (Ca R t key (40-(i+1)) aR) 0 false):=Zh (by
             exact Yej)
            have a8:=Yoc;subst a6;clear ag ah ay aN;go_wp2_with fail;refine bj.mono ?_;rintro e w4 ⟨rfl,Z⟩;have bH:=a8.out w4 Z;have f24:=(a4.below Z).at' (i:=2) rfl;have a9:=OZ;clear Z;go_wp2;go_roundw
            case rel=>exact⟨i+1,aR,0,false,by omega,by omega,aO,rfl,by first|rfl|go_num,rfl,by go_num,hrel,a9⟩
            case measure=>simp [intOf];omega
      . rw [decide_eq_false he]
        have aH:D=D7 [] full all:=by
         rw [hd.out,aB.out];unfold Ca;rw [if_pos he]
        clear he hd
        cases all with
        |true=>
         have aC:=Zh (aI (full+1) ai (by rw [<-aK.out,aH];rfl) aL);clear aH;go_wp2;rw [<-aW.1];go_ret;exact aC.out
        |false=>
         have aC:=Zh (aI full ai (by rw [<-aK.out,aH];rfl) aL);clear aH;go_wp2;rw [<-aW.1];go_ret;exact aC.out
    . obtain rfl:i=40:=by omega
      have aH:D=D7 [] full all:=(by rw [hd.out];rfl);clear hd
      cases all with
      |true=>
       have aC:=Zh (aI (full+1) wr (by rw [<-aK.out,aH];rfl) af);clear aH;go_wp2;go_ret;exact aC.out
      |false=>
       have aC:=Zh (aI full wr (by rw [<-aK.out,aH];rfl) af);clear aH;go_wp2;go_ret;exact aC.out
end
