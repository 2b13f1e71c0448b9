/- A part. -/
import Derived.Test.YtiopopoohglepaaGreatDoorVMm
import Derived.Deep.Draws
import Derived.OwnWalk
import Derived.Maps.AppendAt
set_option linter.all false
set_option maxRecDepth 100000
namespace Go.Proofs.YtiopopoohglepaaGreatDoor.Tx
open Go.Proofs.Tryz
open Go.RowKit
variable {l l':List Nat}
theorem O4{a b:Bool}(h:a=b):Ending.returned (.bool a)=Ending.returned (.bool b):=by rw [h]
theorem NN{k:IntKind}{a b:Int}(h:a=b):Ending.returned (.int k a)=Ending.returned (.int k b):=by rw [h]
def JA(w:World)(A:Option Addr)(l:List Nat):Prop:=
 l= []\/ ∃b o,A=some ⟨b,o,none⟩/\b<w.heap.size/\ ∀j,j<l.length->w.cell? ⟨b,o+j,none⟩=some (.int .u64 (l[j]?.getD 0:Nat))
theorem AL(w:World)(k:Nat):Below w.heap.size w (w.drewN k):=⟨rfl,rfl,rfl,Nat.le_refl _,λ_ _=>rfl⟩
theorem SX{k:Nat}(h: ∀j,j<k->l[j]?.getD 0=l'[j]?.getD 0)(d:l[k]?.getD 0=l'[k]?.getD 0): ∀j,j<k+1->l[j]?.getD 0=l'[j]?.getD 0:=by
 intro j I;by_cases e:j=k
 . subst e;exact d
 . exact h j (by omega)
theorem WR(d:l.length=l'.length)(h: ∀j,j<l.length->l[j]?.getD 0=l'[j]?.getD 0):l=l' :=by
 refine List.ext_getElem d λj h1 I=> ?_
 have:=h j h1
 simpa [h1,I] using this
theorem Ul(A O :Option Addr)(c aq :Nat)(l l' :List Nat)(w:World)(ar:l.length<=9223372036854775807)(au :l'.length<=9223372036854775807)(h:JA w A l)(U :JA w O l'):
 Calls prog 133 #[.slice A l.length c, .slice O l'.length aq] w λe w' =>e= .returned (.bool (decide (l=l')))/\ ∃k,w' =w.drewN k:=by
 by_cases hlen:l.length=l'.length
 . have aw:=Lib.hid h
   have ax :=Lib.hid U;obtain⟨n,I⟩: ∃n,n=l.length:=⟨_,rfl⟩;have V :n=l'.length:=I.trans hlen;rw [<-I,<-V];rw [<-I] at ar;have J:=Lib.hid I;have Z :=Lib.hid V;clear I V hlen h U au;go_enter func133,ntmps133;go_wp2
   go_loopw [13] (λi wr=> ∃k d:Nat,k<=n/\i= .int .i64 k/\wr=w.drewN d/\Hid (∀j,j<k->l[j]?.getD 0=l'[j]?.getD 0)) (λi _=>n-(intOf i).toNat)
   case atStart=>exact⟨0,0,Nat.zero_le _,rfl,rfl,λj aa=>absurd aa (by omega)⟩
   case round=>
    obtain⟨k,d,aD,rfl,rfl,ab⟩:=hrel;by_cases af:k<n
    . obtain⟨b,o,rfl,-,ag⟩: ∃b o,A=some ⟨b,o,none⟩/\b<w.heap.size/\ ∀j,j<l.length->w.cell? ⟨b,o+j,none⟩=some (.int .u64 (l[j]?.getD 0:Nat)):=by
       rcases aw.out with e|e
       . have:=J.out;rw [e] at this;simp at this;omega
       . exact e
      obtain⟨b',aE,rfl,-,ah⟩: ∃b o,O =some ⟨b,o,none⟩/\b<w.heap.size/\ ∀j,j<l'.length->w.cell? ⟨b,o+j,none⟩=some (.int .u64 (l'[j]?.getD 0:Nat)):=by
       rcases ax.out with e|e
       . have:=Z.out;rw [e] at this;simp at this;omega
       . exact e
      have h1:=ag k (by rw [<-J.out];exact af);have ay:=ah k (by rw [<-Z.out];exact af);have az: ∃x,x=l[k]?.getD 0:=⟨_,rfl⟩;have aA: ∃y,y=l'[k]?.getD 0:=⟨_,rfl⟩;obtain⟨x,hx⟩:=az;obtain⟨y,ac⟩:=aA;rw [<-hx] at h1;rw [<-ac] at ay;have ai:=Lib.hid hx;have aj:=Lib.hid ac;clear hx ac ag ah;have aF:(k:Int)<(n:Int):=(by omega);by_cases ae:x=y
      . have al:((x:Int) !=(y:Int))=false:=by simp [ae]
        go_wp2_with fail
        go_quiet (fail)
        go_wp2;go_roundw
        case rel=>exact⟨k+1,_,by omega,by go_num,rfl,SX ab (by rw [<-ai.out,<-aj.out];exact ae)⟩
        case measure=>simp [intOf];omega
      . have al:((x:Int) !=(y:Int))=true:=by simp;omega
        go_wp2_with fail
        go_quiet (fail)
        go_wp2;go_ret;refine⟨?_,d+nq,by rw [World.drewN_drewN]⟩;have: ¬l=l' :=(λe=>ae (by rw [ai.out,aj.out,e]));simp [this]
    . have am:k=n:=by omega
      have an:l=l' :=WR (by rw [<-J.out,<-Z.out]) (λj aa=>ab j (by rw [am,J.out];exact aa));have aB:=Lib.hid an;clear an ab;subst am;go_wp2;go_ret;exact⟨O4 (decide_eq_true aB.out).symm,d,rfl⟩
 . have ao: ¬l=l' :=λe=>hlen (by rw [e])
   have al:((l.length:Int) !=(l'.length:Int))=true:=(by simp;omega);have aC:=Lib.hid ao;clear ao h U;go_enter func133,ntmps133;go_wp2;go_ret;exact⟨O4 (decide_eq_false aC.out).symm,0,rfl⟩
end Go.Proofs.YtiopopoohglepaaGreatDoor.Tx
namespace Go.Proofs.YtiopopoohglepaaGreatDoor.Tx
open Go.Proofs.Tryz
open Go
def Ov(l:List Nat)(i:Nat):Nat:=(l[1+i/8]?.getD 0)/2^(8*(7-i%8))%256
def D3(l:List Nat)(n:Nat):List UInt8:=(List.range n).map λi=>UInt8.ofNat (Ov l i)
theorem EA(l:List Nat)(n:Nat):(D3 l n).length=n:=by simp [D3]
theorem YQ(l:List Nat)(i:Nat):Ov l i<256:=Nat.mod_lt _ (by omega)
theorem WM(l:List Nat)(n j:Nat)(h:j<n):(D3 l n)[j]? =some (UInt8.ofNat (Ov l j)):=by simp [D3,h]
theorem Uc(l:List Nat)(n:Nat):D3 l (n+1)=D3 l n++ [UInt8.ofNat (Ov l n)]:=by simp [D3,List.range_succ]
theorem MW{f:Nat->Nat}(d: ∀k,f k<256): ∀(n r:Nat),r<n->Fx f n/256^(n-1-r)%256=f r
 |0,_,h=>absurd h (by omega)
 |n+1,r,h=>by
  have J:=d n;by_cases I:r=n
  . subst I
    rw [show r+1-1-r=0 by omega,Nat.pow_zero,Nat.div_one,Fx];omega
  . rw [show n+1-1-r=(n-1-r)+1 by omega,Nat.pow_succ,Nat.mul_comm,<-Nat.div_div_eq_div_mul,Fx,show(Fx f n*256+f n)/256=Fx f n by omega]
    exact MW d n r (by omega)
theorem Afq(r:Nat):(256:Nat)^r=2^(8*r):=by rw [Nat.pow_mul]
theorem Uu(L:List UInt8)(j:Nat)(h:j<8*(many L.length-1)):Ov (A8 L) j=A4 L j:=by
 unfold Ov;rw [Fu L (1+j/8) (by unfold many at *; omega)]
 show Fl L (1+j/8)/2^(8*(7-j%8))%256=_
 unfold Fl wd;rw [if_neg (by omega),<-Afq,show 1+j/8-1=j/8 by omega];have:=MW (f:=λk=>A4 L (8*(j/8)+k)) (λk=>Gl _ _) 8 (j%8) (by omega);rw [show 8-1-j%8=7-j%8 by omega] at this;rw [this,show 8*(j/8)+j%8=j by omega]
theorem OK(L:List UInt8)(j:Nat)(h:j<L.length):UInt8.ofNat (A4 L j)=L[j]:=by
 unfold A4;rw [List.getElem?_eq_getElem h];simp
theorem Rf(L:List UInt8):D3 (A8 L) L.length=L:=by
 refine List.ext_getElem (EA _ _) λj h1 d=> ?_
 have I:=WM (A8 L) L.length j d;rw [List.getElem?_eq_getElem h1] at I;rw [Option.some.inj I,Uu L j (by unfold many;omega),OK L j d]
end Go.Proofs.YtiopopoohglepaaGreatDoor.Tx
namespace Go.Proofs.YtiopopoohglepaaGreatDoor.Tx
open Go.Proofs.Tryz
open Go.RowKit
variable {l:List Nat}
def strOf(l:List Nat)(n:Nat):ByteArray:=⟨(D3 l n).toArray⟩
theorem IK(l:List Nat)(n:Nat):(strOf l n).size=n:=by simp [strOf,ByteArray.size,EA]
theorem SN(l:List Nat)(n:Nat):(strOf l n).data.toList=D3 l n:=rfl
theorem YM:(prog.info? 5).map (λi=>(i.zero,i.size,i.bytes))=some (some (.int .u8 0),1,1):=by kernel_rfl
theorem of_nil(A:Option Addr)(c:Nat)(w:World):
 Calls prog 81 #[.slice A 0 c] w λe w' =>e= .returned (.tuple #[.string ⟨#[]⟩, .int .i64 8])/\w=w' :=by
 go_enter func81,ntmps81;go_wp2
 go_ret2
 exact⟨rfl,rfl⟩
theorem Zb(b o n c x:Nat)(w:World)(d:0<n)(I:n<=9223372036854775807)(J:w.cell? ⟨b,o,none⟩=some (.int .u64 x))(hx:1000<x):
 Calls prog 81 #[.slice (some ⟨b,o,none⟩) n c] w λe w' =>e= .returned (.tuple #[.string ⟨#[]⟩, .int .i64 8])/\w=w' :=by
 have h0:((n:Int)==0)=false:=by simp;omega
 have h1:decide ((1000:Int)<(x:Int))=true:=by simp;omega
 go_enter func81,ntmps81;go_wp2
 go_ret2
 exact⟨rfl,rfl⟩
theorem Xv(b o n c x m:Nat)(w:World)(I:0<n)(J:n<=9223372036854775807)(O:w.cell? ⟨b,o,none⟩=some (.int .u64 x))(hx:x<=1000)(hm:Hid (m=many x))(d:m≠n)(U:m<=200):
 Calls prog 81 #[.slice (some ⟨b,o,none⟩) n c] w λe w' =>e= .returned (.tuple #[.string ⟨#[]⟩, .int .i64 8])/\w=w' :=by
 have h0:((n:Int)==0)=false:=by simp;omega
 have h1:decide ((1000:Int)<(x:Int))=false:=by simp;omega
 have V:((m:Int) !=(n:Int))=true:=by simp;omega
 clear d;go_enter func81,ntmps81;go_wp2_with (go_at_call 132;refine(La x m _ hx hm).mono ?_;rintro e w' ⟨rfl,rfl⟩)
 go_ret2
 exact⟨rfl,rfl⟩
theorem Uh(l:List Nat)(i:Nat):((UInt8.ofNat (Ov l i)).toNat:Int)=(Ov l i:Nat):=by
 have:=YQ l i;simp [UInt8.toNat_ofNat'];omega
theorem Vf(l:List Nat)(n:Nat)(v:Value)(w:World){B:Nat}(h:w.ownsRow B 5 1 v n ((D3 l n).map (λb:UInt8=>Value.int .u8 (b.toNat:Int)))):
 (convert 29 9 v).run prog w= .ok (.string (strOf l n)) w:=by
 rcases h.2 with ⟨rfl,rfl⟩|⟨g,cap,cur,rfl,_,_,_⟩
 . exact run_convert_bytes_nil (P:=prog) w 29 5 Tryz.underlying29 Tryz.underlying5 0 0 9 Tryz.underlying9
 . have d:=EA l n
   have:=run_convert_bytes_back (P:=prog) w 29 9 5 ⟨g,0,none⟩ cap (D3 l n) Tryz.underlying29 Tryz.underlying5 Tryz.underlying9 (λj I=>h.cells (g:=g) rfl j _ (by simp [I]));rw [d] at this;exact this
theorem W9(b o c x m:Nat)(l:List Nat)(w:World)(aJ:l.length<=200)(Z:b<w.heap.size)(af: ∀j,j<l.length->w.cell? ⟨b,o+j,none⟩=some (.int .u64 (l[j]?.getD 0:Nat)))
 (aa: ∀j:Nat,l[j]?.getD 0<18446744073709551616) (hx:x<=1000) (ay:Hid (x=l[0]?.getD 0)) (hm:Hid (m=many x)) (ag:Hid (m=l.length)) (az:0<m) (aK:m<=200):
 Calls prog 81 #[.slice (some ⟨b,o,none⟩) m c] w λe w' =>e= .returned (.tuple (if A8 (D3 l x)=l then #[.string (strOf l x), .int .i64 0] else #[.string ⟨#[]⟩, .int .i64 8]))/\Below w.heap.size w w' :=by
 have aL:w.cell? ⟨b,o,none⟩=some (.int .u64 x):=by have:=af 0 (by rw [<-ag.out];exact az);rw [<-ay.out] at this;exact this
 have al: ∀k,k<x->1+k/8<m:=λk aA=>by rw [hm.out];unfold many;omega
 have am:=Lib.hid af;have an:=Lib.hid al;clear af aa al;have h0:((m:Int)==0)=false:=by simp;omega
 have h1:decide ((1000:Int)<(x:Int))=false:=by simp;omega
 obtain⟨i0,hi,aB,aC,aD⟩:=info_parts YM;go_enter func81,ntmps81;go_wp2_with (go_at_call 132;refine(La x m _ hx hm).mono ?_;rintro e w' ⟨rfl,rfl⟩)
 go_loopw [4,32] (λv i wr=> ∃k:Nat,k<=x/\i= .int .i64 k/\wr.ownsRow w.heap.size 5 1 v k ((D3 l k).map (λb:UInt8=>Value.int .u8 (b.toNat:Int)))/\Below w.heap.size w wr) (λ_ i _=>x-(intOf i).toNat)
 case atStart=>exact⟨0,Nat.zero_le _,rfl,World.ownsRow_nil _ _ _ _,Below.refl _ _⟩
 case round=>
  obtain⟨k,aA,rfl,U,J⟩:=hrel;by_cases aa:k<x
  . have aM:(1+(k:Int)/8)<(m:Int):=by have:=an.out k aa;omega
    have aE:wr.cell? ⟨b,o+(1+k/8),none⟩=some (.int .u64 (l[1+k/8]?.getD 0:Nat)):=(J.cell (p:=⟨b,o+(1+k/8),none⟩) Z).trans (am _ (by rw [<-ag.out];exact an.out k aa));have aF:=J.size;have aG:=Lib.hid J;clear J;go_wp2_with (at_builtin;go_loud (refine wpList_append_own _ rfl _ _ 29 rfl w.heap.size 5 i0 (.int .u8 0) 1 1 Tryz.underlying29 hi aB aC aD rfl (by decide) _ _ _ rfl (U.alloc _) ⟨wr.heap.size,0,none⟩ 1 1 [_] rfl rfl (cell_one_new _ _ _) ?c2 ?c3 ?c4 ?c5 ?_))
    case c2=>intro u hu;simp at hu;subst hu;rfl
    case c3=>unfold maxLen;omega
    case c4=>omega
    case c5=>simp;omega
    intro v' w1 ah ao _;have aq:w1.ownsRow w.heap.size 5 1 v' (k+1) ((D3 l (k+1)).map (λb:UInt8=>Value.int .u8 (b.toNat:Int))):=by
     rw [Uc,List.map_append,List.map_cons,List.map_nil,Uh];have e:((l[1+k/8]?.getD 0:Nat):Int)/2^(8*(7-k%8))%256=(Ov l k:Nat):=(by unfold Ov;push_cast;rfl);rw [e] at ah;exact ah
    have ar:Below w.heap.size w w1:=(aG.alloc aF _).grown ao (by simp;omega) (λg e=>(U.lt g e).1);have aH:=Lib.hid aq;have I:=Lib.hid ar;clear U ah aq ao ar aE;go_wp2;go_roundw
    case rel=>exact⟨k+1,by omega,by go_num,aH,I⟩
    case measure=>simp [intOf];omega
  . obtain rfl:k=x:=by omega
    have aN:=Vf l k u4 wr U;have aI:(strOf l k).size<=1000:=(by rw [IK];exact hx);have I:=Lib.hid J;clear J U;go_wp2_with (go_at_call 89;refine(Oe _ _ aI).mono ?_;rintro e w2 ⟨rfl,ai,ab⟩);have ac:(A8 (D3 l k)).length=many k:=(by rw [C7,EA]);have au:JA w2 (some ⟨wr.heap.size,0,none⟩) (A8 (D3 l k)):= .inr ⟨_,_,rfl,ai.lt,λj V=>by
     rw [ac] at V;have:=ai.cell (i:=j) (by rw [IK];exact V);rw [Nat.zero_add,this,Fu _ _ (by rw [EA];exact V),SN];rfl⟩
    have aw:JA w2 (some ⟨b,o,none⟩) l:= .inr ⟨b,o,rfl,Nat.lt_of_lt_of_le Z (Nat.le_trans I.size ab.size),λj V=>
     (ab.cell (p:=⟨b,o+j,none⟩) (Nat.lt_of_lt_of_le Z I.size)).trans ((I.cell (p:=⟨b,o+j,none⟩) Z).trans (am j V))⟩
    have heq:=Ul (some ⟨wr.heap.size,0,none⟩) (some ⟨b,o,none⟩) (many k) c (A8 (D3 l k)) l w2 (by rw [ac,<-hm.out];omega) (by omega) au aw;rw [ac,<-ag.out] at heq;rw [IK];have ax:=Lib.hid heq;have ae:=Lib.hid (I.trans (ab.mono I.size));clear heq au aw ai ab ac;by_cases O:A8 (D3 l k)=l
    . refine(ax).mono ?_
      rintro e w3 ⟨rfl,d,rfl⟩;rw [decide_eq_true O];have aj:=Lib.hid O;clear O;go_wp2
      go_ret2
      exact⟨by first|rfl|(rw [if_pos aj.out];rfl),ae.trans (AL _ _ |>.mono (Nat.le_trans ae.size (Nat.le_refl _)))⟩
    . refine(ax).mono ?_
      rintro e w3 ⟨rfl,d,rfl⟩;rw [decide_eq_false O];have aj:=Lib.hid O;clear O;go_wp2
      go_ret2
      exact⟨by first|rfl|(rw [if_neg aj.out];rfl),ae.trans (AL _ _ |>.mono (Nat.le_trans ae.size (Nat.le_refl _)))⟩
def Dd(l:List Nat):Prop:=l≠ []/\l[0]?.getD 0<=1000/\many (l[0]?.getD 0)=l.length/\A8 (D3 l (l[0]?.getD 0))=l
instance (l:List Nat):Decidable (Dd l):=by unfold Dd;infer_instance
def HQ(l:List Nat):ByteArray:=strOf l (l[0]?.getD 0)
def GG(l:List Nat):Value:= .tuple (if Dd l then #[.string (HQ l), .int .i64 0] else #[.string ⟨#[]⟩, .int .i64 8])
theorem Kl(h: ¬Dd l):GG l= .tuple #[.string ⟨#[]⟩, .int .i64 8]:=by unfold GG;rw [if_neg h]
theorem Kz(h:Dd l):GG l= .tuple #[.string (HQ l), .int .i64 0]:=by unfold GG;rw [if_pos h]
def Zw(w:World)(l:List Nat)(e:Ending)(w' :World):Prop:=e= .returned (GG l)/\Below w.heap.size w w'
def Yfk{P}(h:P:=by
 exact k1.mono λe w' ⟨he,hw⟩=>⟨by rw [Kl d];exact he,hw▸Below.refl _ _⟩):=h
theorem Jg(A:Option Addr)(c n:Nat)(l:List Nat)(w:World)(aa:n=l.length)(U:l.length<=200)(h:JA w A l)(ab: ∀j:Nat,l[j]?.getD 0<18446744073709551616):
 Calls prog 81 #[.slice A n c] w (Zw w l):=by
 subst aa;by_cases h0:l= []
 . subst h0
   have d: ¬Dd []:=(λe=>e.1 rfl);exact(of_nil A c w).mono λe w' ⟨he,hw⟩=>⟨by rw [Kl d];exact he,hw▸Below.refl _ _⟩
 . obtain⟨b,o,rfl,ac,V⟩:=h.resolve_left h0
   have I:0<l.length:=List.length_pos_iff.2 h0;obtain⟨x,hx⟩: ∃x,x=l[0]?.getD 0:=⟨_,rfl⟩;have Z:w.cell? ⟨b,o,none⟩=some (.int .u64 (x:Nat)):=(by rw [hx];exact V 0 I);by_cases h1:x<=1000
   . by_cases J:many x=l.length
     . have ae: ∀e:Ending,e= .returned (.tuple (if A8 (D3 l x)=l then #[.string (strOf l x), .int .i64 0] else #[.string ⟨#[]⟩, .int .i64 8]))->e= .returned (GG l):=by
        rintro e rfl;by_cases O:A8 (D3 l x)=l
        . rw [if_pos O,Kz ⟨h0,by rw [<-hx];exact h1,by rw [<-hx];exact J,by rw [<-hx];exact O⟩]
          unfold HQ;rw [hx]
        . rw [if_neg O,Kl (λe=>O (by have:=e.2.2.2;rw [<-hx] at this;exact this))]
       have k1:=W9 b o c x l.length l w U ac V ab h1 hx J.symm rfl I U;exact k1.mono λe w' ⟨he,hw⟩=>⟨ae e he,hw⟩
     . have d: ¬Dd l:=λe=>J (by rw [hx];exact e.2.2.1)
       have k1:=Xv b o l.length c x (many x) w I (by omega) Z h1 rfl J (by unfold many;omega);exact Yfk
   . have d: ¬Dd l:=λe=>h1 (by rw [hx];exact e.2.1)
     have k1:=Zb b o l.length c x w I (by omega) Z (by omega);exact Yfk
theorem Er(s:ByteArray):s.data.toList.length=s.size:=Array.length_toList
theorem Uv(s:ByteArray)(h:s.size<=1000)(j:Nat):(A8 s.data.toList)[j]?.getD 0<18446744073709551616:=by
 by_cases d:j<many s.data.toList.length
 . rw [Fu _ _ d]
   exact UP _ _ (by rw [Er];omega)
 . rw [List.getElem?_eq_none (by rw [C7];omega)]
   simp
theorem Ol(s:ByteArray)(q:Nat)(h:q<s.size)(W:World):(Instr.index 9 (.string s) (.int .i64 (q:Int))).run prog W= .ok (.int .u8 (A4 s.data.toList q:Nat)) W:=by
 rw [run_index_string W 9 s .i64 q Tryz.underlying9];have e:s.data[q]? =some (s[q]'h):=Array.getElem?_eq_getElem h;unfold A4;rw [Array.getElem?_toList,e];simp [h]
theorem XM(a b:ByteArray)(w:World):(callFunc 169 #[.string a, .string b]).run prog w= .ok (.value (.int .i64 (Lib.compareBytes a.data.toList b.data.toList))) w:=by
 rw [run_callFunc_extern func169 (by kernel_rfl) (by kernel_rfl) (by kernel_rfl) (e:=Extern.BytealgCompare.compare) (by kernel_rfl),Lib.run_compareString];rfl
theorem XT(a b:ByteArray)(w:World):
 Calls prog 62 #[.string a, .string b] w λe w' =>e= .returned (.int .i64 (Lib.compareBytes a.data.toList b.data.toList))/\w=w' :=by
 have hx:=XM a b;go_enter func62,ntmps62;go_wp2;go_ret;exact⟨rfl,rfl⟩
def Ycv{P}(h:P:=by
 unfold A4 at h;rw [List.getElem?_eq_getElem ha,List.getElem?_eq_getElem d] at h;exact h):=h
theorem YH(a b:List UInt8)(i:Nat)(ha:i<a.length)(d:i<b.length)(h:A4 a i<A4 b i):Lib.compareBytes (a.drop i) (b.drop i)= -1:=by
 rw [List.drop_eq_getElem_cons ha,List.drop_eq_getElem_cons d,Lib.compareBytes];have:a[i]<b[i]:=by
  exact Ycv
 rw [if_pos this]
theorem Zt(a b:List UInt8)(i:Nat)(ha:i<a.length)(d:i<b.length)(h:A4 b i<A4 a i):Lib.compareBytes (a.drop i) (b.drop i)=1:=by
 rw [List.drop_eq_getElem_cons ha,List.drop_eq_getElem_cons d,Lib.compareBytes];have I:b[i].toNat<a[i].toNat:=by
  exact Ycv
 rw [if_neg (λe:a[i]<b[i]=>by have:a[i].toNat<b[i].toNat:=e;omega),if_pos (show b[i]<a[i] from I)]
theorem cmp_eq(a b:List UInt8)(i:Nat)(ha:i<a.length)(d:i<b.length)(h:A4 a i=A4 b i):Lib.compareBytes (a.drop i) (b.drop i)=Lib.compareBytes (a.drop (i+1)) (b.drop (i+1)):=by
 rw [List.drop_eq_getElem_cons ha,List.drop_eq_getElem_cons d,Lib.compareBytes];have I:a[i].toNat=b[i].toNat:=by
  exact Ycv
 rw [if_neg (λe:a[i]<b[i]=>by have:a[i].toNat<b[i].toNat:=e;omega),if_neg (λe:b[i]<a[i]=>by have:b[i].toNat<a[i].toNat:=e;omega)]
theorem SP(a b:List UInt8)(i:Nat)(ha:i<=a.length)(I:i<=b.length)(h:i=a.length\/i=b.length):
 Lib.compareBytes (a.drop i) (b.drop i)=if a.length<b.length then-1 else if b.length<a.length then 1 else 0:=by
 rcases h with h|h
 . subst h
   rw [List.drop_length];by_cases d:a.length<b.length
   . rw [List.drop_eq_getElem_cons d,if_pos d];rfl
   . have:b.length=a.length:=by omega
     rw [<-this,List.drop_length,if_neg (by omega),if_neg (by omega)];rfl
 . subst h
   rw [List.drop_length];by_cases d:b.length<a.length
   . rw [List.drop_eq_getElem_cons d,if_neg (by omega),if_pos d];rfl
   . have:b.length=a.length:=by omega
     rw [this,List.drop_length,if_neg (by omega),if_neg (by omega)];rfl
def Yfn{P}(h:P:=by
 have d:=Lib.hid ke;clear ke I J O;go_wp2;go_ret;exact⟨NN d.symm,_,rfl⟩):=h
theorem Sn(a b:ByteArray)(w:World)(ha:a.size<=9223372036854775807)(aq:b.size<=9223372036854775807):
 Calls prog 113 #[.string a, .string b] w λe w' =>e= .returned (.int .i64 (Lib.compareBytes a.data.toList b.data.toList))/\ ∃d,w' =w.drewN d:=by
 have U:=Lib.hid (Er a);have V:=Lib.hid (Er b);have ar: ∀W,(Builtin.len_ #[9] 3 #[.string a]).run prog W= .ok (.int .i64 a.size) W:=λW=>by
  rw [run_len_string W 9 3 a Tryz.underlying9];rfl
 obtain⟨C,ag⟩: ∃C,C=Lib.compareBytes a.data.toList b.data.toList:=⟨_,rfl⟩;rw [<-ag];have O:=Lib.hid ag;clear ag;go_enter func113,ntmps113;go_wp2
 go_loopw [5] (λi wr=> ∃k d:Nat,k<=a.size/\k<=b.size/\i= .int .i64 k/\wr=w.drewN d/\Hid (C=Lib.compareBytes (a.data.toList.drop k) (b.data.toList.drop k))) (λi _=>a.size-(intOf i).toNat)
 case atStart=>exact⟨0,0,Nat.zero_le _,Nat.zero_le _,rfl,rfl,O⟩
 case round=>
  obtain⟨k,d,au,aw,rfl,rfl,J⟩:=hrel;by_cases h1:k<a.size
  . by_cases ai:k<b.size
    . obtain⟨x,hx⟩: ∃x,x=A4 a.data.toList k:=⟨_,rfl⟩
      obtain⟨y,ah⟩: ∃y,y=A4 b.data.toList k:=⟨_,rfl⟩;have ax: ∀W,(Instr.index 9 (.string a) (.int .i64 (k:Int))).run prog W= .ok (.int .u8 (x:Nat)) W:=(λW=>by rw [hx];exact Ol a k h1 W);have ay: ∀W,(Instr.index 9 (.string b) (.int .i64 (k:Int))).run prog W= .ok (.int .u8 (y:Nat)) W:=(λW=>by rw [ah];exact Ol b k ai W);have ae :k<a.data.toList.length:=(by rw [U.out];exact h1);have af :k<b.data.toList.length:=(by rw [V.out];exact ai);have aa:=(λh=>YH a.data.toList b.data.toList k ae af h);have ab:=(λh=>Zt a.data.toList b.data.toList k ae af h);have ac:=(λh=>cmp_eq a.data.toList b.data.toList k ae af h);rw [<-hx,<-ah] at aa ab ac;rw [<-J.out] at aa ab ac;have aa:=Lib.hid aa;have ab:=Lib.hid ab;have ac:=Lib.hid ac;clear hx ah ae af;rcases Nat.lt_trichotomy x y with Z|Z|Z
      . have aj:decide (x<y)=true:=by simp;omega
        go_wp2_with fail
        go_quiet (fail)
        go_wp2;go_ret;exact⟨NN (aa Z).symm,_,by first|rfl|exact World.drewN_drewN ..⟩
      . have aj:decide (x<y)=false:=by simp;omega
        have am:decide (y<x)=false:=(by simp;omega);have an:=Lib.hid (ac Z);clear Z;go_wp2_with fail
        go_quiet (fail)
        go_wp2_with fail
        go_quiet (fail)
        go_wp2;go_roundw
        case rel=>exact⟨k+1,_,by omega,by omega,by go_num,by first|rfl|exact World.drewN_drewN .. |exact(World.drewN_drewN ..).trans (World.drewN_drewN ..),an⟩
        case measure=>simp [intOf];omega
      . have aj:decide (x<y)=false:=by simp;omega
        have am:decide (y<x)=true:=(by simp;omega);go_wp2_with fail
        go_quiet (fail)
        go_wp2_with fail
        go_quiet (fail)
        go_wp2;go_ret;exact⟨NN (ab Z).symm,_,by first|rfl|exact World.drewN_drewN .. |exact(World.drewN_drewN ..).trans (World.drewN_drewN ..)⟩
    . have I:k=b.size:=by omega
      have ke:=SP a.data.toList b.data.toList k (by rw [U.out];omega) (by rw [V.out];omega) (.inr (by rw [V.out];exact I));rw [U.out,V.out,<-J.out] at ke;have ao:b.size<a.size:=(by omega);rw [if_neg (by omega),if_pos ao] at ke;exact Yfn
  . have I:k=a.size:=by omega
    have ke:=SP a.data.toList b.data.toList k (by rw [U.out];omega) (by rw [V.out];omega) (.inl (by rw [U.out];exact I));rw [U.out,V.out,<-J.out] at ke;by_cases al:a.size<b.size
    focus
     rw [if_pos al] at ke
    rotate_left
    focus
     rw [if_neg al,if_neg (by omega)] at ke
    all_goals
     exact Yfn
theorem GI(s:ByteArray)(hs:s.size<=1000):Dd (A8 s.data.toList)/\HQ (A8 s.data.toList)=s:=by
 have hlen:=Er s;have h0:(A8 s.data.toList)[0]?.getD 0=s.size:=by
  rw [Fu _ _ (by unfold many;omega)];simp [Fl]
 have hu:=Rf s.data.toList;rw [hlen] at hu;refine⟨⟨λe=> ?_,by rw [h0];exact hs,by rw [h0,C7,hlen],by rw [h0,hu]⟩, ?_⟩
 . have:=C7 s.data.toList
   rw [e,hlen] at this;unfold many at this;simp at this;omega
 . unfold HQ strOf
   rw [h0,hu]
theorem JZ(a b:UInt8):a<b↔a.toNat<b.toNat:=Iff.rfl
theorem ZZ{a b:UInt8}(h1: ¬a<b)(d: ¬b<a):a=b:=by
 rw [JZ] at h1 d;exact UInt8.toNat_inj.1 (by omega)
theorem Vr: ∀(a b:List UInt8),Lib.compareBytes a b= -1\/Lib.compareBytes a b=0\/Lib.compareBytes a b=1
 | [],[]=> .inr (.inl rfl)
 | [],_::_=> .inl rfl
 |_::_,[]=> .inr (.inr rfl)
 |a::xs,b::ys=>by
  rw [Lib.compareBytes]
  split
  . exact .inl rfl
  . split
    . exact .inr (.inr rfl)
    . exact Vr xs ys
theorem M7: ∀(a b:List UInt8),Lib.compareBytes a b=0↔a=b
 | [],[]=>by simp [Lib.compareBytes]
 | [],_::_=>by simp [Lib.compareBytes]
 |_::_,[]=>by simp [Lib.compareBytes]
 |a::xs,b::ys=>by
  rw [Lib.compareBytes];by_cases h1:a<b
  . rw [if_pos h1]
    constructor
    . intro h;omega
    . intro h
      injection h with d _;subst d;exact absurd h1 (UInt8.lt_irrefl a)
  . rw [if_neg h1]
    by_cases d:b<a
    . rw [if_pos d]
      constructor
      . intro h;omega
      . intro h
        injection h with h3 _;subst h3;exact absurd d (UInt8.lt_irrefl a)
    . rw [if_neg d,M7 xs ys,ZZ h1 d]
      simp
theorem SI: ∀(a b:List UInt8),Lib.compareBytes b a= -Lib.compareBytes a b
 | [],[]=>by simp [Lib.compareBytes]
 | [],_::_=>by simp [Lib.compareBytes]
 |_::_,[]=>by simp [Lib.compareBytes]
 |a::xs,b::ys=>by
  rw [Lib.compareBytes,Lib.compareBytes];by_cases h1:a<b
  . have d: ¬b<a:=by rw [JZ] at *; omega
    rw [if_neg d,if_pos h1,if_pos h1];rfl
  . by_cases d:b<a
    . rw [if_pos d,if_neg h1,if_pos d]
    . rw [if_neg d,if_neg h1,if_neg h1,if_neg d]
      exact SI xs ys
theorem Pl: ∀(a b c:List UInt8),Lib.compareBytes a b<=0->Lib.compareBytes b c<=0->Lib.compareBytes a c<=0/\(Lib.compareBytes a b<0\/Lib.compareBytes b c<0->Lib.compareBytes a c<0)
 | [],[],c=>by
   intro _ h;exact⟨h,λd=>d.resolve_left (by simp [Lib.compareBytes])⟩
 | [],b::ys,[]=>by intro _ h;simp [Lib.compareBytes] at h
 | [],b::ys,c::zs=>by intro _ _;simp [Lib.compareBytes]
 |a::xs,[],c=>by intro h;simp [Lib.compareBytes] at h
 |a::xs,b::ys,[]=>by intro _ h;simp [Lib.compareBytes] at h
 |a::xs,b::ys,c::zs=>by
  intro h1 d;rw [Lib.compareBytes] at h1 d ⊢;rw [Lib.compareBytes,Lib.compareBytes];simp only [JZ] at*;by_cases U:a.toNat<b.toNat
  . have:a.toNat<c.toNat:=by
     by_cases J:b.toNat<c.toNat
     . omega
     . rw [if_neg J] at d
       by_cases I:c.toNat<b.toNat
       . rw [if_pos I] at d;omega
       . omega
    rw [if_pos this];exact⟨by omega,λ_=>by omega⟩
  . rw [if_neg U] at h1
    by_cases O:b.toNat<a.toNat
    . rw [if_pos O] at h1;omega
    . rw [if_neg O] at h1
      by_cases J:b.toNat<c.toNat
      . rw [if_pos (by omega:a.toNat<c.toNat)]
        exact⟨by omega,λ_=>by omega⟩
      . rw [if_neg J] at d
        by_cases I:c.toNat<b.toNat
        . rw [if_pos I] at d;omega
        . rw [if_neg I] at d
          rw [if_neg (by omega: ¬a.toNat<c.toNat),if_neg (by omega: ¬c.toNat<a.toNat),if_neg U,if_neg O,if_neg J,if_neg I];exact Pl xs ys zs h1 d
def cmp(a b:ByteArray):Int:=Lib.compareBytes a.data.toList b.data.toList
theorem LG(a b:ByteArray)(w:World):Calls prog 62 #[.string a, .string b] w λe w' =>e= .returned (.int .i64 (cmp a b))/\w=w' :=XT a b w
theorem toList_eq(a:ByteArray):a.toList=a.data.toList:=ByteArray.toList_eq a
theorem Xs(a b:ByteArray):(a.toList==b.toList)=(cmp a b==0):=by
 rw [toList_eq,toList_eq,Bool.eq_iff_iff,beq_iff_eq,beq_iff_eq];exact(M7 _ _).symm
end Go.Proofs.YtiopopoohglepaaGreatDoor.Tx
