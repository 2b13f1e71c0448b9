/- A part. -/
import Derived.Test.YtiopopoohglepaaGreatDoorPMo
import Derived.Deep.DeepMust
set_option linter.all false
namespace Go.Proofs.YtiopopoohglepaaGreatDoor
open Go.RowKit Go.Shelf
attribute [local go_sem] Oper.semAt_some Ec
theorem Tryz.Gg:Tryz.prog.underlying 46=some (.slice 23):=by kernel_rfl
theorem Tryz.Qx:(Tryz.prog.info? 23).map (λi=>(i.zero,i.size,i.bytes))=some (some (.int .u64 0),1,8):=by kernel_rfl
section
variable {w w' :World} {s N:Nat} {R:Zr} {n:Nat}
end
end Go.Proofs.YtiopopoohglepaaGreatDoor
namespace Go.Proofs.YtiopopoohglepaaGreatDoor
open Go.RowKit Go.Shelf
structure Cst where
 S:List Nat
 last:ByteArray
 first:Bool
 AgR:List Nat
structure P5(D:DW)(S:List Nat):Prop where
 tidy:Maps.Tidy D
 at' : ∀x:Nat,D.atKey (.int .u64 x) (.lit (.int .i64 0))= .lit (.int .i64 (if x∈S then 1 else 0))
 has: ∀x:Nat,Maps.has D (.int .u64 x)=decide (x∈S)
 size:Maps.size D=S.length
theorem Om(x:Nat):WideAt.IsKeyLit (.int .u64 x):=by simp [WideAt.IsKeyLit]
theorem P5.put{D:DW}{S:List Nat}(h:P5 D S){x:Nat}(hx:x∉S):P5 (D.put (.int .u64 x) (.lit (.int .i64 1))) (S++ [x]):=by
 refine⟨h.tidy.put (Om x) _,λy=> ?_,λy=> ?_, ?_⟩
 . by_cases e:y=x
   . subst e
     rw [Maps.atKey_put_same h.tidy.isMap (Om _),if_pos (by simp)]
   . rw [Maps.atKey_put_other (by simp;omega),h.at' y]
     simp [e]
 . by_cases e:y=x
   . subst e
     rw [Maps.has_put_same h.tidy.isMap (Om _)];simp
   . rw [Maps.has_put_other (by simp;omega),h.has y]
     simp [e]
 . rw [Maps.size_put h.tidy,h.has x,if_neg (by simpa using hx),h.size]
   simp
section
variable {w W W' :World} {s B:Nat} {c:Cst}
end
section
variable {w W W' :World} {s B:Nat} {c:Cst}
end
attribute [local go_sem] Oper.semAt_some Ec
section
variable {w w' :World} {s N:Nat} {R:Zr} {n:Nat}
end
end Go.Proofs.YtiopopoohglepaaGreatDoor
namespace Go.Proofs.YtiopopoohglepaaGreatDoor
open Go.RowKit Go.Shelf
inductive BT where
 |nil
 |node (h kh vh mark:Nat) (k v:ByteArray) (l r:BT)
namespace BT
def root:BT->Nat
 |nil=>0
 |node h _ _ _ _ _ _ _=>h
def size:BT->Nat
 |nil=>0
 |node _ _ _ _ _ _ l r=>l.size+1+r.size
def nodes:BT->List Nat
 |nil=> []
 |node h _ _ _ _ _ l r=>l.nodes++h::r.nodes
def hs:BT->List Nat
 |nil=> []
 |node h kh vh _ _ _ l r=>l.hs++h::kh::vh::r.hs
def AJ:BT->List (ByteArray × ByteArray)
 |nil=> []
 |node _ _ _ _ k v l r=>l.AJ++(k,v)::r.AJ
def At(R:Zr):BT->Prop
 |nil=>True
 |node h kh vh m k v l r=>h≠0/\R h=some (Nd.ws ⟨kh,vh,l.root,r.root,m,l.size+1+r.size⟩)/\R kh=some (Tx.A9 k.data.toList)/\R vh=some (Tx.A9 v.data.toList)/\k.size<=1000/\v.size<=1000/\l.At R/\r.At R
theorem Ic: ∀t:BT,t.nodes.length=t.size
 |nil=>rfl
 |node _ _ _ _ _ _ l r=>by simp only [nodes,size,List.length_append,List.length_cons,Ic l,Ic r];omega
theorem Bz: ∀t:BT,t.AJ.length=t.size
 |nil=>rfl
 |node _ _ _ _ _ _ l r=>by simp only [AJ,size,List.length_append,List.length_cons,Bz l,Bz r];omega
theorem KV: ∀t:BT,t.hs.length=3*t.size
 |nil=>rfl
 |node _ _ _ _ _ _ l r=>by simp only [hs,size,List.length_append,List.length_cons,KV l,KV r];omega
end BT
variable {x:Nat}
section
variable {R:Zr}
theorem GK{k:ByteArray}(h:R x=some (Tx.A9 k.data.toList))(I:k.size<=1000):G6 R x=some k/\De R x=0:=by
 obtain⟨h1,J⟩:=Tx.Es k I;unfold G6 De;rw [h];simp only [if_pos h1,J];exact⟨trivial,trivial⟩
theorem W5{nd:Nd}(h:R x=some nd.ws):EL R x=0/\FK R x=nd:=by
 have h1:=Wo h;exact⟨SL.2 ⟨_,h1⟩,by unfold FK;rw [h1];rfl⟩
namespace BT
def told:List BT->List Nat
 | []=> []
 |nil::ps=>told ps
 |node h _ _ _ _ _ _ r::ps=>h::(r.nodes++told ps)
end BT
end
theorem Cp{a b:ByteArray}:Tx.cmp a b=0↔a=b:=by
 unfold Tx.cmp;rw [Tx.M9];constructor
 . intro h
   cases a;cases b
   simp only [ByteArray.mk.injEq];exact Array.toList_inj.1 h
 . rintro rfl;rfl
theorem Lf(a b:ByteArray):Tx.cmp b a= -Tx.cmp a b:=Tx.S1 _ _
theorem Ee{a b c:ByteArray}(h:Tx.cmp a b<0)(k:Tx.cmp b c<0):Tx.cmp a c<0:=
 (Tx.Pp _ _ _ (Int.le_of_lt h) (Int.le_of_lt k)).2 (.inl h)
def AE(l:List (ByteArray × ByteArray))(k:ByteArray):Nat:=l.countP λp=>decide (Tx.cmp p.1 k<0)
def AZ(l:List (ByteArray × ByteArray)):Prop:=l.Pairwise λa b=>Tx.cmp a.1 b.1<0
theorem D0(l:List (ByteArray × ByteArray))(k:ByteArray):AE l k<=l.length:=List.countP_le_length
theorem HU{l:List (ByteArray × ByteArray)}{k:ByteArray}(h: ∀p∈l,Tx.cmp p.1 k<0):AE l k=l.length:=by
 unfold AE;rw [List.countP_eq_length];exact λp hp=>decide_eq_true (h p hp)
theorem Ev{l:List (ByteArray × ByteArray)}{k:ByteArray}(h: ∀p∈l,¬Tx.cmp p.1 k<0):AE l k=0:=by
 unfold AE;rw [List.countP_eq_zero];exact λp hp e=>h p hp (of_decide_eq_true e)
theorem C8(l m:List (ByteArray × ByteArray))(k:ByteArray):AE (l++m) k=AE l k+AE m k:=List.countP_append
theorem GM(p:ByteArray × ByteArray)(m:List (ByteArray × ByteArray))(k:ByteArray):AE (p::m) k=AE m k+if Tx.cmp p.1 k<0 then 1 else 0:=by
 unfold AE;rw [List.countP_cons];simp
namespace BT
variable {R:Zr}
end BT
structure En where
 h:Nat
 nd:Nd
 k:ByteArray
 v:ByteArray
def En.At(R:Zr)(e:En):Prop:=R e.h=some e.nd.ws/\R e.nd.key=some (Tx.A9 e.k.data.toList)/\R e.nd.val=some (Tx.A9 e.v.data.toList)/\e.k.size<=1000/\e.v.size<=1000/\Aav R e.nd=true
def En.hs(e:En):List Nat:= [e.h,e.nd.key,e.nd.val]
namespace BT
variable {R:Zr}
end BT
section
variable {R:Zr}
end
theorem A6.B7{R:Zr}(h:A6 R)(x:Nat)(o:Option (List Nat))(J: ∀ws,o=some ws->ws.length<=200):A6 (AQ R x o):=λy ws I=>by
 unfold AQ at I
 split at I
 . exact J ws I
 . exact h y ws I
theorem K9{f:Nat->Nat}: ∀(l H:List Nat),l.Nodup->(∀x∈l,x∈H)->(l.map f).sum<=(H.map f).sum
 | [],H,_,_=>by simp
 |x::l,H,hn,hs=>by
  rw [List.nodup_cons] at hn;have hx:x∈H:=hs x (by simp);have h1:=K9 (f:=f) l (H.erase x) hn.2 (λy I=>(List.mem_erase_of_ne (λe=>by subst e;exact hn.1 I)).2 (hs y (by simp [I])));have J:=((List.perm_cons_erase hx).map f).sum_nat;simp only [List.map_cons,List.sum_cons] at J ⊢;omega
section
variable {w w' :World} {s N:Nat} {F:Nat->Prop} {R:Zr} {H:List Nat} {P q most last G n:Nat}
theorem Ah.MH(h:Ah w s F R H P q most last G)(x:Nat):x∈H↔R x≠none:=by
 obtain⟨a,ha,t,v,L,mem,sl,Fh,h⟩:=h;constructor
 . intro hx
   obtain⟨k,I⟩:=(h.LJ x).1 hx;obtain⟨ws,h1,_⟩:=h.link x k I;rw [h1];simp
 . intro hx
   by_cases hm:x∈H
   . exact hm
   . exact absurd (h.Gt x hm) hx
theorem Ah.nodup(h:Ah w s F R H P q most last G):H.Nodup:=by
 obtain⟨a,ha,t,v,L,mem,sl,Fh,h⟩:=h;exact h.nodup
end
