/- A part. -/
import Derived.Lib.Bytealg
import Derived.Laws.BitsAllLaws
import Derived.Laws.BitsLemmas
set_option linter.all false
namespace Go.Proofs.YtiopopoohglepaaGreatDoor.Tx
open Go
def A4(l:List UInt8)(i:Nat):Nat:=((l[i]?).getD 0).toNat
theorem Gn(l:List UInt8)(i:Nat):A4 l i<256:=by unfold A4;have:=((l[i]?).getD 0).toNat_lt;omega
theorem Uu(l:List UInt8)(i:Nat)(h:l.length<=i):A4 l i=0:=by unfold A4;rw [List.getElem?_eq_none h];rfl
theorem DV(l:List UInt8)(p i:Nat):A4 (l.take p) i=if i<p then A4 l i else 0:=by
 unfold A4;rw [List.getElem?_take]
 split<;>rfl
def FA(f:Nat->Nat):Nat->Nat
 |0=>0
 |n+1=>FA f n*256+f n
theorem JR{f g:Nat->Nat}: ∀(n:Nat),(∀k,k<n->f k=g k)->FA f n=FA g n
 |0,_=>rfl
 |n+1,h=>by rw [FA,FA,JR n (λk I=>h k (by omega)),h n (by omega)]
theorem Vp{f:Nat->Nat}(I: ∀k,f k<256): ∀n,FA f n<256^n
 |0=>by simp [FA]
 |n+1=>by
  have:=Vp I n;have J:=I n;rw [FA,Nat.pow_succ];omega
theorem HT{f:Nat->Nat}(r:Nat): ∀d,(∀k,r<=k->f k=0)->FA f (r+d)=FA f r*256^d
 |0,_=>by simp
 |d+1,h=>by
  rw [<-Nat.add_assoc,FA,HT r d h,h (r+d) (by omega),Nat.pow_succ];simp [Nat.mul_assoc]
def wd(l:List UInt8)(i:Nat):Nat:=FA (λk=>A4 l (8*i+k)) 8
theorem XZ(l:List UInt8)(i:Nat):wd l i<18446744073709551616:=by
 have:=Vp (f:=λk=>A4 l (8*i+k)) (λk=>Gn _ _) 8;exact this
theorem Wu(l:List UInt8)(p i:Nat)(h:i≠p/8):wd (l.take (p+1)) i=wd (l.take p) i:=by
 unfold wd;refine JR 8 λk J=> ?_
 rw [DV,DV];have:8*i+k≠p:=by omega
 by_cases I:8*i+k<p
 . rw [if_pos I,if_pos (by omega)]
 . rw [if_neg I,if_neg (by omega)]
def Ygf{P}(h:P:=by
 congr 1
 refine JR _ λk I=> ?_
 rw [DV,if_pos (by omega)]):=h
theorem XQ(l:List UInt8)(p:Nat):wd (l.take p) (p/8)=FA (λk=>A4 l (8*(p/8)+k)) (p%8)*256^(8-p%8):=by
 unfold wd;have h:=HT (f:=λk=>A4 (l.take p) (8*(p/8)+k)) (p%8) (8-p%8) (λk I=>by
  show A4 (l.take p) (8*(p/8)+k)=0
  rw [DV,if_neg (by omega)])
 rw [show p%8+(8-p%8)=8 by omega] at h;rw [h];exact Ygf
theorem Yb(l:List UInt8)(p:Nat):wd (l.take (p+1)) (p/8)=wd (l.take p) (p/8) ||| A4 l p*2^(8*(7-p%8)):=by
 have J:(256:Nat)^(7-p%8)=2^(8*(7-p%8)):=by rw [Nat.pow_mul]
 have I:(256:Nat)^(8-p%8)=2^(8*(8-p%8)):=by rw [Nat.pow_mul]
 have O:=Gn l p;have U:A4 l p*2^(8*(7-p%8))<2^(8*(8-p%8)):=by
  rw [<-J,<-I,show 8-p%8=(7-p%8)+1 by omega,Nat.pow_succ,Nat.mul_comm];exact Nat.mul_lt_mul_of_pos_left O (Nat.pow_pos (by omega))
 rw [XQ l p,I,Nat.mul_comm (FA _ _),<-Nat.two_pow_add_eq_or_of_lt U];unfold wd;have h:=HT (f:=λk=>A4 (l.take (p+1)) (8*(p/8)+k)) (p%8+1) (7-p%8) (λk Z=>by
  show A4 (l.take (p+1)) (8*(p/8)+k)=0
  rw [DV,if_neg (by omega)])
 rw [show p%8+1+(7-p%8)=8 by omega] at h;rw [h,FA,Nat.add_mul,<-J,<-I];have V:A4 (l.take (p+1)) (8*(p/8)+p%8)=A4 l p:=by
  rw [DV,if_pos (by omega),show 8*(p/8)+p%8=p by omega]
 rw [V]
 congr 1
 rw [Nat.mul_assoc,show 8-p%8=(7-p%8)+1 by omega,Nat.pow_succ,Nat.mul_comm (256^_) 256,Nat.mul_comm];exact Ygf
def many(n:Nat):Nat:=1+(n+7)/8
def Fo(l:List UInt8)(j:Nat):Nat:=if j=0 then l.length else wd l (j-1)
def A9(l:List UInt8):List Nat:=(List.range (many l.length)).map (Fo l)
theorem Dd(l:List UInt8):(A9 l).length=many l.length:=by simp [A9]
theorem Fx(l:List UInt8)(j:Nat)(h:j<many l.length):(A9 l)[j]? =some (Fo l j):=by simp [A9,h]
theorem Vd(l:List UInt8)(j:Nat)(I:l.length<18446744073709551616):Fo l j<18446744073709551616:=by
 unfold Fo;split
 . exact I
 . exact XZ _ _
def partAt(l:List UInt8)(p j:Nat):Nat:=if j=0 then l.length else wd (l.take p) (j-1)
theorem QJ(l:List UInt8)(j:Nat):partAt l 0 j=if j=0 then l.length else 0:=by
 unfold partAt
 split
 . rfl
 . have h:=HT (f:=λk=>A4 (l.take 0) (8*(j-1)+k)) 0 8 (λk _=>Uu _ _ (by simp))
   rw [FA,Nat.zero_mul,Nat.zero_add] at h;exact h
theorem SF(l:List UInt8)(j:Nat):partAt l l.length j=Fo l j:=by unfold partAt Fo;rw [List.take_length]
theorem Qh(l:List UInt8)(p j:Nat):partAt l (p+1) j=if j=1+p/8 then partAt l p (1+p/8) ||| A4 l p*2^(8*(7-p%8)) else partAt l p j:=by
 unfold partAt;by_cases h:j=1+p/8
 . rw [if_pos h,if_neg (by omega),if_neg (by omega),h,show 1+p/8-1=p/8 by omega]
   exact Yb l p
 . rw [if_neg h]
   split
   . rfl
   . exact Wu l p _ (by omega)
theorem Uw(l:List UInt8)(p j:Nat)(I:l.length<18446744073709551616):partAt l p j<18446744073709551616:=by
 unfold partAt;split
 . exact I
 . exact XZ _ _
end Go.Proofs.YtiopopoohglepaaGreatDoor.Tx
