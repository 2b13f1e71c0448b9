/-
  The seat's own texts, part n: TxEqual, TxPlain2, TxOf, TxAll, TxCompare, TxCb.
-/
import Derived.Test.YthcmecokejemcaaGreatDoorWMm
import Derived.Test.YthcmecokejemcaaGreatDoorChecked
import Derived.WalkKit
import Derived.Below
import Derived.WalkLawsBesides
import Derived.WalkSpells
import Derived.Deep.Draws
import Derived.Lib.Hide
import Derived.OwnWalk
import Derived.Maps.AppendAt
import Derived.Lib.Bytealg
set_option linter.unusedVariables false
namespace Go.Proofs.YthcmecokejemcaaGreatDoor.Tx
open Go.RowKit
theorem ret_bool{a b:Bool}(h:a=b):Ending.returned (.bool a)=Ending.returned (.bool b):=by rw [h]
def U64s(w:World)(A:Option Addr)(l:List Nat):Prop:=
 l= []∨ ∃b o,A=some ⟨b,o,none⟩∧b<w.heap.size∧ ∀j,j<l.length→w.cell? ⟨b,o+j,none⟩=some (.int .u64 (l[j]?.getD 0:Nat))
theorem U64s.below{w w' :World}{A:Option Addr}{l:List Nat}(h:U64s w A l)(hb:Below w.heap.size w w'):U64s w' A l:=by
 rcases h with h|⟨b,o,rfl,hlt,hc⟩
 · exact .inl h
 · exact .inr ⟨b,o,rfl,Nat.lt_of_lt_of_le hlt hb.size,fun j hj=>(hb.cell (p:=⟨b,o+j,none⟩) hlt).trans (hc j hj)⟩
theorem drewN_below(w:World)(k:Nat):Below w.heap.size w (w.drewN k):=⟨rfl,rfl,rfl,Nat.le_refl _,fun _ _=>rfl⟩
theorem list_step{l l' :List Nat}{k:Nat}(h: ∀j,j<k→l[j]?.getD 0=l'[j]?.getD 0)(hk:l[k]?.getD 0=l'[k]?.getD 0): ∀j,j<k+1→l[j]?.getD 0=l'[j]?.getD 0:=by
 intro j hj
 by_cases e:j=k
 · subst e;exact hk
 · exact h j (by omega)
theorem list_all{l l' :List Nat}(hl:l.length=l'.length)(h: ∀j,j<l.length→l[j]?.getD 0=l'[j]?.getD 0):l=l' :=by
 refine List.ext_getElem hl fun j h1 h2=> ?_
 have:=h j h1
 simpa [h1,h2] using this
set_option maxRecDepth 100000 in
theorem equal_any(A A' :Option Addr)(c c' :Nat)(l l' :List Nat)(w:World)(hl:l.length≤9223372036854775807)(hl' :l'.length≤9223372036854775807)(h:U64s w A l)(h' :U64s w A' l'):
 Calls Tryz.prog 88 #[.slice A l.length c, .slice A' l'.length c'] w fun e w' =>e= .returned (.bool (decide (l=l')))∧ ∃k,w' =w.drewN k:=by
 by_cases hlen:l.length=l'.length
 · have hH:=Lib.hid h
   have hH' :=Lib.hid h'
   obtain⟨n,hn⟩: ∃n,n=l.length:=⟨_,rfl⟩
   have hn' :n=l'.length:=hn.trans hlen
   rw [←hn,←hn']
   rw [←hn] at hl
   have hnH:=Lib.hid hn
   have hnH' :=Lib.hid hn'
   clear hn hn' hlen h h' hl'
   go_enter Tryz.func88,Tryz.ntmps88
   go_wp2
   go_loopw [13] (fun i wr=> ∃k d:Nat,k≤n∧i= .int .i64 k∧wr=w.drewN d∧Hid (∀j,j<k→l[j]?.getD 0=l'[j]?.getD 0)) (fun i _=>n-(intOf i).toNat)
   case atStart=>exact⟨0,0,Nat.zero_le _,rfl,rfl,fun j hj=>absurd hj (by omega)⟩
   case round=>
    obtain⟨k,d,hk,rfl,rfl,hall⟩:=hrel
    by_cases hlt:k<n
    · obtain⟨b,o,rfl,-,hc⟩: ∃b o,A=some ⟨b,o,none⟩∧b<w.heap.size∧ ∀j,j<l.length→w.cell? ⟨b,o+j,none⟩=some (.int .u64 (l[j]?.getD 0:Nat)):=by
       rcases hH.out with e|e
       · have:=hnH.out;rw [e] at this;simp at this;omega
       · exact e
      obtain⟨b',o',rfl,-,hc'⟩: ∃b o,A' =some ⟨b,o,none⟩∧b<w.heap.size∧ ∀j,j<l'.length→w.cell? ⟨b,o+j,none⟩=some (.int .u64 (l'[j]?.getD 0:Nat)):=by
       rcases hH'.out with e|e
       · have:=hnH'.out;rw [e] at this;simp at this;omega
       · exact e
      have h1:=hc k (by rw [←hnH.out];exact hlt)
      have h2:=hc' k (by rw [←hnH'.out];exact hlt)
      have hxx: ∃x,x=l[k]?.getD 0:=⟨_,rfl⟩
      have hyy: ∃y,y=l'[k]?.getD 0:=⟨_,rfl⟩
      obtain⟨x,hx⟩:=hxx
      obtain⟨y,hy⟩:=hyy
      rw [←hx] at h1
      rw [←hy] at h2
      have HX:=Lib.hid hx
      have HY:=Lib.hid hy
      clear hx hy hc hc'
      have hli:(k:Int)<(n:Int):=by omega
      by_cases hxy:x=y
      · have hb:((x:Int) !=(y:Int))=false:=by simp [hxy]
        go_wp2_with fail
        go_quiet (fail)
        go_wp2
        go_roundw
        case rel=>exact⟨k+1,_,by omega,by go_num,rfl,list_step hall.out (by rw [←HX.out,←HY.out];exact hxy)⟩
        case measure=>simp [intOf];omega
      · have hb:((x:Int) !=(y:Int))=true:=by simp;omega
        go_wp2_with fail
        go_quiet (fail)
        go_wp2
        go_ret
        refine⟨?_,d+nq,by rw [World.drewN_drewN]⟩
        have: ¬l=l' :=fun e=>hxy (by rw [HX.out,HY.out,e])
        simp [this]
    · have hkn:k=n:=by omega
      have hend:l=l' :=list_all (by rw [←hnH.out,←hnH'.out]) (fun j hj=>hall.out j (by rw [hkn,hnH.out];exact hj))
      have hendH:=Lib.hid hend
      clear hend hall
      subst hkn
      go_wp2
      go_ret
      exact⟨ret_bool (decide_eq_true hendH.out).symm,d,rfl⟩
 · have hne: ¬l=l' :=fun e=>hlen (by rw [e])
   have hb:((l.length:Int) !=(l'.length:Int))=true:=by simp;omega
   have hneH:=Lib.hid hne
   clear hne h h'
   go_enter Tryz.func88,Tryz.ntmps88
   go_wp2
   go_ret
   exact⟨ret_bool (decide_eq_false hneH.out).symm,0,rfl⟩
end Go.Proofs.YthcmecokejemcaaGreatDoor.Tx
namespace Go.Proofs.YthcmecokejemcaaGreatDoor.Tx
open Go
def unp(l:List Nat)(i:Nat):Nat:=(l[1+i/8]?.getD 0)/2^(8*(7-i%8))%256
def unpL(l:List Nat)(n:Nat):List UInt8:=(List.range n).map fun i=>UInt8.ofNat (unp l i)
theorem unpL_length(l:List Nat)(n:Nat):(unpL l n).length=n:=by simp [unpL]
theorem unp_lt(l:List Nat)(i:Nat):unp l i<256:=Nat.mod_lt _ (by omega)
theorem unpL_get(l:List Nat)(n j:Nat)(h:j<n):(unpL l n)[j]? =some (UInt8.ofNat (unp l j)):=by simp [unpL,h]
theorem unpL_succ(l:List Nat)(n:Nat):unpL l (n+1)=unpL l n++ [UInt8.ofNat (unp l n)]:=by simp [unpL,List.range_succ]
theorem hor_digit{f:Nat→Nat}(hf: ∀k,f k<256): ∀(n r:Nat),r<n→hor f n/256^(n-1-r)%256=f r
 |0,_,h=>absurd h (by omega)
 |n+1,r,h=>by
  have hn:=hf n
  by_cases hr:r=n
  · subst hr
    rw [show r+1-1-r=0 by omega,Nat.pow_zero,Nat.div_one,hor]
    omega
  · rw [show n+1-1-r=(n-1-r)+1 by omega,Nat.pow_succ,Nat.mul_comm,←Nat.div_div_eq_div_mul,hor,show(hor f n*256+f n)/256=hor f n by omega]
    exact hor_digit hf n r (by omega)
theorem pow8(r:Nat):(256:Nat)^r=2^(8*r):=by rw [Nat.pow_mul]
theorem unp_words(L:List UInt8)(j:Nat)(h:j<8*(many L.length-1)):unp (wordsL L) j=byteAt L j:=by
 unfold unp
 rw [wordsL_get L (1+j/8) (by unfold many at *; omega)]
 show wordAt L (1+j/8)/2^(8*(7-j%8))%256=_
 unfold wordAt wd
 rw [if_neg (by omega),←pow8,show 1+j/8-1=j/8 by omega]
 have:=hor_digit (f:=fun k=>byteAt L (8*(j/8)+k)) (fun k=>byteAt_lt _ _) 8 (j%8) (by omega)
 rw [show 8-1-j%8=7-j%8 by omega] at this
 rw [this,show 8*(j/8)+j%8=j by omega]
theorem ofNat_byteAt(L:List UInt8)(j:Nat)(h:j<L.length):UInt8.ofNat (byteAt L j)=L[j]:=by
 unfold byteAt
 rw [List.getElem?_eq_getElem h]
 simp
theorem unpL_words(L:List UInt8):unpL (wordsL L) L.length=L:=by
 refine List.ext_getElem (unpL_length _ _) fun j h1 h2=> ?_
 have h3:=unpL_get (wordsL L) L.length j h2
 rw [List.getElem?_eq_getElem h1] at h3
 rw [Option.some.inj h3,unp_words L j (by unfold many;omega),ofNat_byteAt L j h2]
end Go.Proofs.YthcmecokejemcaaGreatDoor.Tx
namespace Go.Proofs.YthcmecokejemcaaGreatDoor.Tx
open Go.RowKit
def strOf(l:List Nat)(n:Nat):ByteArray:=⟨(unpL l n).toArray⟩
theorem strOf_size(l:List Nat)(n:Nat):(strOf l n).size=n:=by simp [strOf,ByteArray.size,unpL_length]
theorem strOf_list(l:List Nat)(n:Nat):(strOf l n).data.toList=unpL l n:=rfl
theorem hinfo5:(Tryz.prog.info? 5).map (fun i=>(i.zero,i.size,i.bytes))=some (some (.int .u8 0),1,1):=by kernel_rfl
theorem of_nil(A:Option Addr)(c:Nat)(w:World):
 Calls Tryz.prog 56 #[.slice A 0 c] w fun e w' =>e= .returned (.tuple #[.string ⟨#[]⟩, .int .i64 8])∧w=w' :=by
 go_enter Tryz.func56,Tryz.ntmps56
 go_wp2
 go_ret2
 exact⟨rfl,rfl⟩
theorem of_big(b o n c x:Nat)(w:World)(hn:0<n)(hn2:n≤9223372036854775807)(hc:w.cell? ⟨b,o,none⟩=some (.int .u64 (x:Nat)))(hx:1000<x):
 Calls Tryz.prog 56 #[.slice (some ⟨b,o,none⟩) n c] w fun e w' =>e= .returned (.tuple #[.string ⟨#[]⟩, .int .i64 8])∧w=w' :=by
 have h0:((n:Int)==0)=false:=by simp;omega
 have h1:decide ((1000:Int)<(x:Int))=true:=by simp;omega
 go_enter Tryz.func56,Tryz.ntmps56
 go_wp2
 go_ret2
 exact⟨rfl,rfl⟩
theorem of_many(b o n c x m:Nat)(w:World)(hn:0<n)(hn2:n≤9223372036854775807)(hc:w.cell? ⟨b,o,none⟩=some (.int .u64 (x:Nat)))(hx:x≤1000)(hm:Hid (m=many x))(hmn:m≠n)(hm2:m≤200):
 Calls Tryz.prog 56 #[.slice (some ⟨b,o,none⟩) n c] w fun e w' =>e= .returned (.tuple #[.string ⟨#[]⟩, .int .i64 8])∧w=w' :=by
 have h0:((n:Int)==0)=false:=by simp;omega
 have h1:decide ((1000:Int)<(x:Int))=false:=by simp;omega
 have h2:((m:Int) !=(n:Int))=true:=by simp;omega
 clear hmn
 go_enter Tryz.func56,Tryz.ntmps56
 go_wp2_with (go_at_call 87;refine(many_nat x m _ hx hm).mono ?_;rintro e w' ⟨rfl,rfl⟩)
 go_ret2
 exact⟨rfl,rfl⟩
theorem toNat_unp(l:List Nat)(i:Nat):((UInt8.ofNat (unp l i)).toNat:Int)=(unp l i:Nat):=by
 have:=unp_lt l i
 simp [UInt8.toNat_ofNat']
 omega
theorem conv_own(l:List Nat)(n:Nat)(v:Value)(w:World){B:Nat}(h:w.ownsRow B 5 1 v n ((unpL l n).map (fun b:UInt8=>Value.int .u8 (b.toNat:Int)))):
 (convert 163 9 v).run Tryz.prog w= .ok (.string (strOf l n)) w:=by
 rcases h.2 with ⟨rfl,rfl⟩|⟨g,cap,cur,rfl,_,_,_⟩
 · exact run_convert_bytes_nil (P:=Tryz.prog) w 163 5 Tryz.underlying163 Tryz.underlying5 0 0 9 Tryz.underlying9
 · have hl:=unpL_length l n
   have:=run_convert_bytes_back (P:=Tryz.prog) w 163 9 5 ⟨g,0,none⟩ cap (unpL l n) Tryz.underlying163 Tryz.underlying5 Tryz.underlying9 (fun j hj=>h.cells (g:=g) rfl j _ (by simp [hj]))
   rw [hl] at this
   exact this
set_option maxRecDepth 100000 in
theorem of_main(b o c x m:Nat)(l:List Nat)(w:World)(hn2:l.length≤200)(hb:b<w.heap.size)(hc: ∀j,j<l.length→w.cell? ⟨b,o+j,none⟩=some (.int .u64 (l[j]?.getD 0:Nat)))
 (hlt: ∀j:Nat,l[j]?.getD 0<18446744073709551616) (hx:x≤1000) (hx0:Hid (x=l[0]?.getD 0)) (hm:Hid (m=many x)) (hmn:Hid (m=l.length)) (hmp:0<m) (hm2:m≤200):
 Calls Tryz.prog 56 #[.slice (some ⟨b,o,none⟩) m c] w fun e w' =>e= .returned (.tuple (if wordsL (unpL l x)=l then #[.string (strOf l x), .int .i64 0] else #[.string ⟨#[]⟩, .int .i64 8]))∧Below w.heap.size w w' :=by
 have hc0:w.cell? ⟨b,o,none⟩=some (.int .u64 (x:Nat)):=by have:=hc 0 (by rw [←hmn.out];exact hmp);rw [←hx0.out] at this;exact this
 have hxm: ∀k,k<x→1+k/8<m:=fun k hk=>by rw [hm.out];unfold many;omega
 have hcH:=Lib.hid hc
 have hltH:=Lib.hid hlt
 have hxmH:=Lib.hid hxm
 clear hc hlt hxm
 have h0:((m:Int)==0)=false:=by simp;omega
 have h1:decide ((1000:Int)<(x:Int))=false:=by simp;omega
 have h2:((m:Int) !=(m:Int))=false:=by simp
 obtain⟨i0,hi,hz0,hz1,hz2⟩:=info_parts hinfo5
 go_enter Tryz.func56,Tryz.ntmps56
 go_wp2_with (go_at_call 87;refine(many_nat x m _ hx hm).mono ?_;rintro e w' ⟨rfl,rfl⟩)
 go_loopw [4,32] (fun v i wr=> ∃k:Nat,k≤x∧i= .int .i64 k∧wr.ownsRow w.heap.size 5 1 v k ((unpL l k).map (fun b:UInt8=>Value.int .u8 (b.toNat:Int)))∧Below w.heap.size w wr) (fun _ i _=>x-(intOf i).toNat)
 case atStart=>exact⟨0,Nat.zero_le _,rfl,World.ownsRow_nil _ _ _ _,Below.refl _ _⟩
 case round=>
  obtain⟨k,hk,rfl,hown,hbel⟩:=hrel
  by_cases hlt:k<x
  · have hq:(1+(k:Int)/8)<(m:Int):=by have:=hxmH.out k hlt;omega
    have h7:(k:Int)%8≤7:=by omega
    have h70:0≤(k:Int)%8:=by omega
    have hcell:wr.cell? ⟨b,o+(1+k/8),none⟩=some (.int .u64 (l[1+k/8]?.getD 0:Nat)):=(hbel.cell (p:=⟨b,o+(1+k/8),none⟩) hb).trans (hcH.out _ (by rw [←hmn.out];exact hxmH.out k hlt))
    have hbsz:=hbel.size
    have hbelH:=Lib.hid hbel
    clear hbel
    go_wp2_with (at_builtin;go_loud (refine wpList_append_own _ rfl _ _ 163 rfl w.heap.size 5 i0 (.int .u8 0) 1 1 Tryz.underlying163 hi hz0 hz1 hz2 rfl (by decide) _ _ _ rfl (hown.alloc _) ⟨wr.heap.size,0,none⟩ 1 1 [_] rfl rfl (cell_one_new _ _ _) ?c2 ?c3 ?c4 ?c5 ?_))
    case c2=>intro u hu;simp at hu;subst hu;rfl
    case c3=>unfold maxLen;omega
    case c4=>omega
    case c5=>simp;omega
    intro v' w1 hown1 hgrow1 _
    have hown2:w1.ownsRow w.heap.size 5 1 v' (k+1) ((unpL l (k+1)).map (fun b:UInt8=>Value.int .u8 (b.toNat:Int))):=by
     rw [unpL_succ,List.map_append,List.map_cons,List.map_nil,toNat_unp]
     have e:((l[1+k/8]?.getD 0:Nat):Int)/2^(8*(7-k%8))%256=(unp l k:Nat):=by unfold unp;push_cast;rfl
     rw [e] at hown1
     exact hown1
    have hbel1:Below w.heap.size w w1:=(hbelH.out.alloc hbsz _).grown hgrow1 (by simp;omega) (fun g e=>(hown.lt g e).1)
    have HO:=Lib.hid hown2
    have HB:=Lib.hid hbel1
    clear hown hown1 hown2 hgrow1 hbel1 hcell
    go_wp2
    go_roundw
    case rel=>exact⟨k+1,by omega,by go_num,HO.out,HB.out⟩
    case measure=>simp [intOf];omega
  · obtain rfl:k=x:=by omega
    have hconv:=conv_own l k u4 wr hown
    have hz:(strOf l k).size≤1000:=by rw [strOf_size];exact hx
    have HB:=Lib.hid hbel
    clear hbel hown
    go_wp2_with (go_at_call 69;refine(words_any _ _ hz).mono ?_;rintro e w2 ⟨rfl,hrow2,hbel2⟩)
    have hwl:(wordsL (unpL l k)).length=many k:=by rw [wordsL_length,unpL_length]
    have hu1:U64s w2 (some ⟨wr.heap.size,0,none⟩) (wordsL (unpL l k)):= .inr ⟨_,_,rfl,hrow2.lt,fun j hj=>by
     rw [hwl] at hj
     have:=hrow2.cell (i:=j) (by rw [strOf_size];exact hj)
     rw [Nat.zero_add,this,wordsL_get _ _ (by rw [unpL_length];exact hj),strOf_list]
     rfl⟩
    have hu2:U64s w2 (some ⟨b,o,none⟩) l:= .inr ⟨b,o,rfl,Nat.lt_of_lt_of_le hb (Nat.le_trans HB.out.size hbel2.size),fun j hj=>
     (hbel2.cell (p:=⟨b,o+j,none⟩) (Nat.lt_of_lt_of_le hb HB.out.size)).trans ((HB.out.cell (p:=⟨b,o+j,none⟩) hb).trans (hcH.out j hj))⟩
    have heq:=equal_any (some ⟨wr.heap.size,0,none⟩) (some ⟨b,o,none⟩) (many k) c (wordsL (unpL l k)) l w2 (by rw [hwl,←hm.out];omega) (by omega) hu1 hu2
    have hmk:=hm.out
    rw [hwl,←hmn.out] at heq
    rw [strOf_size]
    have HQ:=Lib.hid heq
    have HB2:=Lib.hid (HB.out.trans (hbel2.mono HB.out.size))
    clear heq hu1 hu2 hrow2 hbel2 hwl hmk
    by_cases hfin:wordsL (unpL l k)=l
    · refine(HQ.out).mono ?_
      rintro e w3 ⟨rfl,d,rfl⟩
      rw [decide_eq_true hfin]
      have HF:=Lib.hid hfin
      clear hfin
      go_wp2
      go_ret2
      exact⟨by first|rfl|(rw [if_pos HF.out];rfl),HB2.out.trans (drewN_below _ _ |>.mono (Nat.le_trans HB2.out.size (Nat.le_refl _)))⟩
    · refine(HQ.out).mono ?_
      rintro e w3 ⟨rfl,d,rfl⟩
      rw [decide_eq_false hfin]
      have HF:=Lib.hid hfin
      clear hfin
      go_wp2
      go_ret2
      exact⟨by first|rfl|(rw [if_neg HF.out];rfl),HB2.out.trans (drewN_below _ _ |>.mono (Nat.le_trans HB2.out.size (Nat.le_refl _)))⟩
def isText(l:List Nat):Prop:=l≠ []∧l[0]?.getD 0≤1000∧many (l[0]?.getD 0)=l.length∧wordsL (unpL l (l[0]?.getD 0))=l
instance (l:List Nat):Decidable (isText l):=by unfold isText;infer_instance
def textOf(l:List Nat):ByteArray:=strOf l (l[0]?.getD 0)
def ofR(l:List Nat):Value:= .tuple (if isText l then #[.string (textOf l), .int .i64 0] else #[.string ⟨#[]⟩, .int .i64 8])
theorem ofR_no{l:List Nat}(h: ¬isText l):ofR l= .tuple #[.string ⟨#[]⟩, .int .i64 8]:=by unfold ofR;rw [if_neg h]
theorem ofR_yes{l:List Nat}(h:isText l):ofR l= .tuple #[.string (textOf l), .int .i64 0]:=by unfold ofR;rw [if_pos h]
def OfPost(w:World)(l:List Nat)(e:Ending)(w' :World):Prop:=e= .returned (ofR l)∧Below w.heap.size w w'
theorem of_any(A:Option Addr)(c n:Nat)(l:List Nat)(w:World)(hn:n=l.length)(hl:l.length≤200)(h:U64s w A l)(hlt: ∀j:Nat,l[j]?.getD 0<18446744073709551616):
 Calls Tryz.prog 56 #[.slice A n c] w (OfPost w l):=by
 subst hn
 by_cases h0:l= []
 · subst h0
   have hno: ¬isText []:=fun e=>e.1 rfl
   exact(of_nil A c w).mono fun e w' ⟨he,hw⟩=>⟨by rw [ofR_no hno];exact he,hw▸Below.refl _ _⟩
 · obtain⟨b,o,rfl,hb,hc⟩:=h.resolve_left h0
   have hpos:0<l.length:=List.length_pos_iff.2 h0
   obtain⟨x,hx⟩: ∃x,x=l[0]?.getD 0:=⟨_,rfl⟩
   have hc0:w.cell? ⟨b,o,none⟩=some (.int .u64 (x:Nat)):=by rw [hx];exact hc 0 hpos
   by_cases h1:x≤1000
   · by_cases h2:many x=l.length
     · have hfin: ∀e:Ending,e= .returned (.tuple (if wordsL (unpL l x)=l then #[.string (strOf l x), .int .i64 0] else #[.string ⟨#[]⟩, .int .i64 8]))→e= .returned (ofR l):=by
        rintro e rfl
        by_cases h3:wordsL (unpL l x)=l
        · rw [if_pos h3,ofR_yes ⟨h0,by rw [←hx];exact h1,by rw [←hx];exact h2,by rw [←hx];exact h3⟩]
          unfold textOf
          rw [hx]
        · rw [if_neg h3,ofR_no (fun e=>h3 (by have:=e.2.2.2;rw [←hx] at this;exact this))]
       have k1:=of_main b o c x l.length l w hl hb hc hlt h1 hx h2.symm rfl hpos hl
       exact k1.mono fun e w' ⟨he,hw⟩=>⟨hfin e he,hw⟩
     · have hno: ¬isText l:=fun e=>h2 (by rw [hx];exact e.2.2.1)
       have k1:=of_many b o l.length c x (many x) w hpos (by omega) hc0 h1 rfl h2 (by unfold many;omega)
       exact k1.mono fun e w' ⟨he,hw⟩=>⟨by rw [ofR_no hno];exact he,hw▸Below.refl _ _⟩
   · have hno: ¬isText l:=fun e=>h1 (by rw [hx];exact e.2.1)
     have k1:=of_big b o l.length c x w hpos (by omega) hc0 (by omega)
     exact k1.mono fun e w' ⟨he,hw⟩=>⟨by rw [ofR_no hno];exact he,hw▸Below.refl _ _⟩
theorem size_list(s:ByteArray):s.data.toList.length=s.size:=Array.length_toList
theorem wordsL_lt(s:ByteArray)(h:s.size≤1000)(j:Nat):(wordsL s.data.toList)[j]?.getD 0<18446744073709551616:=by
 by_cases hj:j<many s.data.toList.length
 · rw [wordsL_get _ _ hj]
   exact wordAt_lt _ _ (by rw [size_list];omega)
 · rw [List.getElem?_eq_none (by rw [wordsL_length];omega)]
   simp
theorem cmp_ext(a b:ByteArray)(w:World):(callFunc 124 #[.string a, .string b]).run Tryz.prog w= .ok (.value (.int .i64 (Lib.compareBytes a.data.toList b.data.toList))) w:=by
 rw [run_callFunc_extern Tryz.func124 (by kernel_rfl) (by kernel_rfl) (by kernel_rfl) (e:=Extern.BytealgCompare.compare) (by kernel_rfl),Lib.run_compareString]
 rfl
theorem cmp_any(a b:ByteArray)(w:World):
 Calls Tryz.prog 36 #[.string a, .string b] w fun e w' =>e= .returned (.int .i64 (Lib.compareBytes a.data.toList b.data.toList))∧w=w' :=by
 have hx:=cmp_ext a b
 go_enter Tryz.func36,Tryz.ntmps36
 go_wp2
 go_ret
 exact⟨rfl,rfl⟩
theorem text_words(s:ByteArray)(hs:s.size≤1000):isText (wordsL s.data.toList)∧textOf (wordsL s.data.toList)=s:=by
 have hlen:=size_list s
 have h0:(wordsL s.data.toList)[0]?.getD 0=s.size:=by
  rw [wordsL_get _ _ (by unfold many;omega)]
  simp [wordAt]
 have hu:=unpL_words s.data.toList
 rw [hlen] at hu
 refine⟨⟨fun e=> ?_,by rw [h0];exact hs,by rw [h0,wordsL_length,hlen],by rw [h0,hu]⟩, ?_⟩
 · have:=wordsL_length s.data.toList
   rw [e,hlen] at this
   unfold many at this
   simp at this
   omega
 · unfold textOf strOf
   rw [h0,hu]
theorem u8_lt_iff(a b:UInt8):a<b↔a.toNat<b.toNat:=Iff.rfl
theorem u8_eq{a b:UInt8}(h1: ¬a<b)(h2: ¬b<a):a=b:=by
 rw [u8_lt_iff] at h1 h2
 exact UInt8.toNat_inj.1 (by omega)
theorem cb_zero: ∀(a b:List UInt8),Lib.compareBytes a b=0↔a=b
 | [],[]=>by simp [Lib.compareBytes]
 | [],_::_=>by simp [Lib.compareBytes]
 |_::_,[]=>by simp [Lib.compareBytes]
 |a::xs,b::ys=>by
  rw [Lib.compareBytes]
  by_cases h1:a<b
  · rw [if_pos h1]
    constructor
    · intro h;omega
    · intro h
      injection h with h2 _
      subst h2
      exact absurd h1 (UInt8.lt_irrefl a)
  · rw [if_neg h1]
    by_cases h2:b<a
    · rw [if_pos h2]
      constructor
      · intro h;omega
      · intro h
        injection h with h3 _
        subst h3
        exact absurd h2 (UInt8.lt_irrefl a)
    · rw [if_neg h2,cb_zero xs ys,u8_eq h1 h2]
      simp
theorem cb_swap: ∀(a b:List UInt8),Lib.compareBytes b a= -Lib.compareBytes a b
 | [],[]=>by simp [Lib.compareBytes]
 | [],_::_=>by simp [Lib.compareBytes]
 |_::_,[]=>by simp [Lib.compareBytes]
 |a::xs,b::ys=>by
  rw [Lib.compareBytes,Lib.compareBytes]
  by_cases h1:a<b
  · have h2: ¬b<a:=by rw [u8_lt_iff] at *; omega
    rw [if_neg h2,if_pos h1,if_pos h1]
    rfl
  · by_cases h2:b<a
    · rw [if_pos h2,if_neg h1,if_pos h2]
    · rw [if_neg h2,if_neg h1,if_neg h1,if_neg h2]
      exact cb_swap xs ys
theorem cb_trans: ∀(a b c:List UInt8),Lib.compareBytes a b≤0→Lib.compareBytes b c≤0→Lib.compareBytes a c≤0∧(Lib.compareBytes a b<0∨Lib.compareBytes b c<0→Lib.compareBytes a c<0)
 | [],[],c=>by
   intro _ h
   exact⟨h,fun h2=>h2.resolve_left (by simp [Lib.compareBytes])⟩
 | [],b::ys,[]=>by intro _ h;simp [Lib.compareBytes] at h
 | [],b::ys,c::zs=>by intro _ _;simp [Lib.compareBytes]
 |a::xs,[],c=>by intro h;simp [Lib.compareBytes] at h
 |a::xs,b::ys,[]=>by intro _ h;simp [Lib.compareBytes] at h
 |a::xs,b::ys,c::zs=>by
  intro h1 h2
  rw [Lib.compareBytes] at h1 h2 ⊢
  rw [Lib.compareBytes,Lib.compareBytes]
  simp only [u8_lt_iff] at*
  by_cases ab:a.toNat<b.toNat
  · have:a.toNat<c.toNat:=by
     by_cases bc:b.toNat<c.toNat
     · omega
     · rw [if_neg bc] at h2
       by_cases cb:c.toNat<b.toNat
       · rw [if_pos cb] at h2;omega
       · omega
    rw [if_pos this]
    exact⟨by omega,fun _=>by omega⟩
  · rw [if_neg ab] at h1
    by_cases ba:b.toNat<a.toNat
    · rw [if_pos ba] at h1;omega
    · rw [if_neg ba] at h1
      by_cases bc:b.toNat<c.toNat
      · rw [if_pos (by omega:a.toNat<c.toNat)]
        exact⟨by omega,fun _=>by omega⟩
      · rw [if_neg bc] at h2
        by_cases cb:c.toNat<b.toNat
        · rw [if_pos cb] at h2;omega
        · rw [if_neg cb] at h2
          rw [if_neg (by omega: ¬a.toNat<c.toNat),if_neg (by omega: ¬c.toNat<a.toNat),if_neg ab,if_neg ba,if_neg bc,if_neg cb]
          exact cb_trans xs ys zs h1 h2
def cmp(a b:ByteArray):Int:=Lib.compareBytes a.data.toList b.data.toList
theorem cmp_call(a b:ByteArray)(w:World):Calls Tryz.prog 36 #[.string a, .string b] w fun e w' =>e= .returned (.int .i64 (cmp a b))∧w=w' :=cmp_any a b w
theorem toList_eq(a:ByteArray):a.toList=a.data.toList:=ByteArray.toList_eq a
theorem cmp_beq(a b:ByteArray):(a.toList==b.toList)=(cmp a b==0):=by
 rw [toList_eq,toList_eq,Bool.eq_iff_iff,beq_iff_eq,beq_iff_eq]
 exact(cb_zero _ _).symm
end Go.Proofs.YthcmecokejemcaaGreatDoor.Tx
