/-
  The seat's own texts, part l: TxPlain.
-/
import Derived.Lib.Bytealg
import Derived.Laws.BitsAllLaws
import Derived.Laws.BitsLemmas
namespace Go.Proofs.YthcmecokejemcaaGreatDoor.Tx
open Go
def byteAt(l:List UInt8)(i:Nat):Nat:=((l[i]?).getD 0).toNat
theorem byteAt_lt(l:List UInt8)(i:Nat):byteAt l i<256:=by unfold byteAt;have:=((l[i]?).getD 0).toNat_lt;omega
theorem byteAt_ge(l:List UInt8)(i:Nat)(h:l.length≤i):byteAt l i=0:=by unfold byteAt;rw [List.getElem?_eq_none h];rfl
theorem byteAt_take(l:List UInt8)(p i:Nat):byteAt (l.take p) i=if i<p then byteAt l i else 0:=by
 unfold byteAt
 rw [List.getElem?_take]
 split<;>rfl
def hor(f:Nat→Nat):Nat→Nat
 |0=>0
 |n+1=>hor f n*256+f n
theorem hor_congr{f g:Nat→Nat}: ∀(n:Nat),(∀k,k<n→f k=g k)→hor f n=hor g n
 |0,_=>rfl
 |n+1,h=>by rw [hor,hor,hor_congr n (fun k hk=>h k (by omega)),h n (by omega)]
theorem hor_lt{f:Nat→Nat}(hf: ∀k,f k<256): ∀n,hor f n<256^n
 |0=>by simp [hor]
 |n+1=>by
  have:=hor_lt hf n
  have h2:=hf n
  rw [hor,Nat.pow_succ]
  omega
theorem hor_zeros{f:Nat→Nat}(r:Nat): ∀d,(∀k,r≤k→f k=0)→hor f (r+d)=hor f r*256^d
 |0,_=>by simp
 |d+1,h=>by
  rw [←Nat.add_assoc,hor,hor_zeros r d h,h (r+d) (by omega),Nat.pow_succ]
  simp [Nat.mul_assoc]
def wd(l:List UInt8)(i:Nat):Nat:=hor (fun k=>byteAt l (8*i+k)) 8
theorem wd_lt(l:List UInt8)(i:Nat):wd l i<18446744073709551616:=by
 have:=hor_lt (f:=fun k=>byteAt l (8*i+k)) (fun k=>byteAt_lt _ _) 8
 exact this
theorem wd_other(l:List UInt8)(p i:Nat)(h:i≠p/8):wd (l.take (p+1)) i=wd (l.take p) i:=by
 unfold wd
 refine hor_congr 8 fun k hk=> ?_
 rw [byteAt_take,byteAt_take]
 have:8*i+k≠p:=by omega
 by_cases h2:8*i+k<p
 · rw [if_pos h2,if_pos (by omega)]
 · rw [if_neg h2,if_neg (by omega)]
theorem wd_head(l:List UInt8)(p:Nat):wd (l.take p) (p/8)=hor (fun k=>byteAt l (8*(p/8)+k)) (p%8)*256^(8-p%8):=by
 unfold wd
 have h:=hor_zeros (f:=fun k=>byteAt (l.take p) (8*(p/8)+k)) (p%8) (8-p%8) (fun k hk=>by
  show byteAt (l.take p) (8*(p/8)+k)=0
  rw [byteAt_take,if_neg (by omega)])
 rw [show p%8+(8-p%8)=8 by omega] at h
 rw [h]
 congr 1
 refine hor_congr _ fun k hk=> ?_
 rw [byteAt_take,if_pos (by omega)]
theorem wd_step(l:List UInt8)(p:Nat):wd (l.take (p+1)) (p/8)=wd (l.take p) (p/8) ||| byteAt l p*2^(8*(7-p%8)):=by
 have h2:(256:Nat)^(7-p%8)=2^(8*(7-p%8)):=by rw [Nat.pow_mul]
 have h3:(256:Nat)^(8-p%8)=2^(8*(8-p%8)):=by rw [Nat.pow_mul]
 have hb:=byteAt_lt l p
 have hlt:byteAt l p*2^(8*(7-p%8))<2^(8*(8-p%8)):=by
  rw [←h2,←h3,show 8-p%8=(7-p%8)+1 by omega,Nat.pow_succ,Nat.mul_comm]
  exact Nat.mul_lt_mul_of_pos_left hb (Nat.pow_pos (by omega))
 rw [wd_head l p,h3,Nat.mul_comm (hor _ _),←Nat.two_pow_add_eq_or_of_lt hlt]
 unfold wd
 have h:=hor_zeros (f:=fun k=>byteAt (l.take (p+1)) (8*(p/8)+k)) (p%8+1) (7-p%8) (fun k hk=>by
  show byteAt (l.take (p+1)) (8*(p/8)+k)=0
  rw [byteAt_take,if_neg (by omega)])
 rw [show p%8+1+(7-p%8)=8 by omega] at h
 rw [h,hor,Nat.add_mul,←h2,←h3]
 have h4:byteAt (l.take (p+1)) (8*(p/8)+p%8)=byteAt l p:=by
  rw [byteAt_take,if_pos (by omega),show 8*(p/8)+p%8=p by omega]
 rw [h4]
 congr 1
 rw [Nat.mul_assoc,show 8-p%8=(7-p%8)+1 by omega,Nat.pow_succ,Nat.mul_comm (256^_) 256,Nat.mul_comm]
 congr 1
 refine hor_congr _ fun k hk=> ?_
 rw [byteAt_take,if_pos (by omega)]
def many(n:Nat):Nat:=1+(n+7)/8
def wordAt(l:List UInt8)(j:Nat):Nat:=if j=0 then l.length else wd l (j-1)
def wordsL(l:List UInt8):List Nat:=(List.range (many l.length)).map (wordAt l)
theorem wordsL_length(l:List UInt8):(wordsL l).length=many l.length:=by simp [wordsL]
theorem wordsL_get(l:List UInt8)(j:Nat)(h:j<many l.length):(wordsL l)[j]? =some (wordAt l j):=by simp [wordsL,h]
theorem wordAt_lt(l:List UInt8)(j:Nat)(hl:l.length<18446744073709551616):wordAt l j<18446744073709551616:=by
 unfold wordAt;split
 · exact hl
 · exact wd_lt _ _
def partAt(l:List UInt8)(p j:Nat):Nat:=if j=0 then l.length else wd (l.take p) (j-1)
theorem partAt_zero(l:List UInt8)(j:Nat):partAt l 0 j=if j=0 then l.length else 0:=by
 unfold partAt
 split
 · rfl
 · have h:=hor_zeros (f:=fun k=>byteAt (l.take 0) (8*(j-1)+k)) 0 8 (fun k _=>byteAt_ge _ _ (by simp))
   rw [hor,Nat.zero_mul,Nat.zero_add] at h
   exact h
theorem partAt_end(l:List UInt8)(j:Nat):partAt l l.length j=wordAt l j:=by unfold partAt wordAt;rw [List.take_length]
theorem partAt_step(l:List UInt8)(p j:Nat):partAt l (p+1) j=if j=1+p/8 then partAt l p (1+p/8) ||| byteAt l p*2^(8*(7-p%8)) else partAt l p j:=by
 unfold partAt
 by_cases h:j=1+p/8
 · rw [if_pos h,if_neg (by omega),if_neg (by omega),h,show 1+p/8-1=p/8 by omega]
   exact wd_step l p
 · rw [if_neg h]
   split
   · rfl
   · exact wd_other l p _ (by omega)
theorem partAt_lt(l:List UInt8)(p j:Nat)(hl:l.length<18446744073709551616):partAt l p j<18446744073709551616:=by
 unfold partAt;split
 · exact hl
 · exact wd_lt _ _
end Go.Proofs.YthcmecokejemcaaGreatDoor.Tx
