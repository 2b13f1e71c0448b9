/- A part. -/
import Derived.Lib.Bytealg
import Derived.Laws.BitsAllLaws
import Derived.Laws.BitsLemmas
set_option linter.all false
namespace Go.Proofs.YtiopopoohglepaaGreatDoor.Tx
open Go
def A4(l:List UInt8)(i:Nat):Nat:=((l[i]?).getD 0).toNat
theorem Gl(l:List UInt8)(i:Nat):A4 l i<256:=by unfold A4;have:=((l[i]?).getD 0).toNat_lt;omega
theorem T9(l:List UInt8)(i:Nat)(h:l.length<=i):A4 l i=0:=by unfold A4;rw [List.getElem?_eq_none h];rfl
theorem DU(l:List UInt8)(p i:Nat):A4 (l.take p) i=if i<p then A4 l i else 0:=by
 unfold A4;rw [List.getElem?_take]
 split<;>rfl
def Fx(f:Nat->Nat):Nat->Nat
 |0=>0
 |n+1=>Fx f n*256+f n
theorem JQ{f g:Nat->Nat}: ∀(n:Nat),(∀k,k<n->f k=g k)->Fx f n=Fx g n
 |0,_=>rfl
 |n+1,h=>by rw [Fx,Fx,JQ n (λk d=>h k (by omega)),h n (by omega)]
theorem U2{f:Nat->Nat}(d: ∀k,f k<256): ∀n,Fx f n<256^n
 |0=>by simp [Fx]
 |n+1=>by
  have:=U2 d n;have I:=d n;rw [Fx,Nat.pow_succ];omega
theorem HW{f:Nat->Nat}(r:Nat): ∀d,(∀k,r<=k->f k=0)->Fx f (r+d)=Fx f r*256^d
 |0,_=>by simp
 |d+1,h=>by
  rw [<-Nat.add_assoc,Fx,HW r d h,h (r+d) (by omega),Nat.pow_succ];simp [Nat.mul_assoc]
def wd(l:List UInt8)(i:Nat):Nat:=Fx (λk=>A4 l (8*i+k)) 8
theorem Xy(l:List UInt8)(i:Nat):wd l i<18446744073709551616:=by
 have:=U2 (f:=λk=>A4 l (8*i+k)) (λk=>Gl _ _) 8;exact this
theorem V6(l:List UInt8)(p i:Nat)(h:i≠p/8):wd (l.take (p+1)) i=wd (l.take p) i:=by
 unfold wd;refine JQ 8 λk I=> ?_
 rw [DU,DU];have:8*i+k≠p:=by omega
 by_cases d:8*i+k<p
 . rw [if_pos d,if_pos (by omega)]
 . rw [if_neg d,if_neg (by omega)]
def Ygc{P}(h:P:=by
 congr 1
 refine JQ _ λk d=> ?_
 rw [DU,if_pos (by omega)]):=h
theorem Xp(l:List UInt8)(p:Nat):wd (l.take p) (p/8)=Fx (λk=>A4 l (8*(p/8)+k)) (p%8)*256^(8-p%8):=by
 unfold wd;have h:=HW (f:=λk=>A4 (l.take p) (8*(p/8)+k)) (p%8) (8-p%8) (λk d=>by
  show A4 (l.take p) (8*(p/8)+k)=0
  rw [DU,if_neg (by omega)])
 rw [show p%8+(8-p%8)=8 by omega] at h;rw [h];exact Ygc
theorem XI(l:List UInt8)(p:Nat):wd (l.take (p+1)) (p/8)=wd (l.take p) (p/8) ||| A4 l p*2^(8*(7-p%8)):=by
 have I:(256:Nat)^(7-p%8)=2^(8*(7-p%8)):=by rw [Nat.pow_mul]
 have d:(256:Nat)^(8-p%8)=2^(8*(8-p%8)):=by rw [Nat.pow_mul]
 have J:=Gl l p;have O:A4 l p*2^(8*(7-p%8))<2^(8*(8-p%8)):=by
  rw [<-I,<-d,show 8-p%8=(7-p%8)+1 by omega,Nat.pow_succ,Nat.mul_comm];exact Nat.mul_lt_mul_of_pos_left J (Nat.pow_pos (by omega))
 rw [Xp l p,d,Nat.mul_comm (Fx _ _),<-Nat.two_pow_add_eq_or_of_lt O];unfold wd;have h:=HW (f:=λk=>A4 (l.take (p+1)) (8*(p/8)+k)) (p%8+1) (7-p%8) (λk V=>by
  show A4 (l.take (p+1)) (8*(p/8)+k)=0
  rw [DU,if_neg (by omega)])
 rw [show p%8+1+(7-p%8)=8 by omega] at h;rw [h,Fx,Nat.add_mul,<-I,<-d];have U:A4 (l.take (p+1)) (8*(p/8)+p%8)=A4 l p:=by
  rw [DU,if_pos (by omega),show 8*(p/8)+p%8=p by omega]
 rw [U]
 congr 1
 rw [Nat.mul_assoc,show 8-p%8=(7-p%8)+1 by omega,Nat.pow_succ,Nat.mul_comm (256^_) 256,Nat.mul_comm];exact Ygc
def many(n:Nat):Nat:=1+(n+7)/8
def Fl(l:List UInt8)(j:Nat):Nat:=if j=0 then l.length else wd l (j-1)
def A8(l:List UInt8):List Nat:=(List.range (many l.length)).map (Fl l)
theorem C7(l:List UInt8):(A8 l).length=many l.length:=by simp [A8]
theorem Fu(l:List UInt8)(j:Nat)(h:j<many l.length):(A8 l)[j]? =some (Fl l j):=by simp [A8,h]
theorem UP(l:List UInt8)(j:Nat)(d:l.length<18446744073709551616):Fl l j<18446744073709551616:=by
 unfold Fl;split
 . exact d
 . exact Xy _ _
def partAt(l:List UInt8)(p j:Nat):Nat:=if j=0 then l.length else wd (l.take p) (j-1)
theorem QB(l:List UInt8)(j:Nat):partAt l 0 j=if j=0 then l.length else 0:=by
 unfold partAt
 split
 . rfl
 . have h:=HW (f:=λk=>A4 (l.take 0) (8*(j-1)+k)) 0 8 (λk _=>T9 _ _ (by simp))
   rw [Fx,Nat.zero_mul,Nat.zero_add] at h;exact h
theorem Si(l:List UInt8)(j:Nat):partAt l l.length j=Fl l j:=by unfold partAt Fl;rw [List.take_length]
theorem P9(l:List UInt8)(p j:Nat):partAt l (p+1) j=if j=1+p/8 then partAt l p (1+p/8) ||| A4 l p*2^(8*(7-p%8)) else partAt l p j:=by
 unfold partAt;by_cases h:j=1+p/8
 . rw [if_pos h,if_neg (by omega),if_neg (by omega),h,show 1+p/8-1=p/8 by omega]
   exact XI l p
 . rw [if_neg h]
   split
   . rfl
   . exact V6 l p _ (by omega)
theorem Ub(l:List UInt8)(p j:Nat)(d:l.length<18446744073709551616):partAt l p j<18446744073709551616:=by
 unfold partAt;split
 . exact d
 . exact Xy _ _
end Go.Proofs.YtiopopoohglepaaGreatDoor.Tx
