/- A part. -/
import Derived.Test.YtiopopoohglepaaGreatDoorVMo
import Derived.Deep.DeepMust
set_option linter.all false
namespace Go.Proofs.YtiopopoohglepaaGreatDoor
open Go.RowKit Go.Shelf
attribute [local go_sem] Oper.semAt_some Ea
theorem Tryz.Gd:Tryz.prog.underlying 46=some (.slice 23):=by kernel_rfl
theorem Tryz.Qq:(Tryz.prog.info? 23).map (λi=>(i.zero,i.size,i.bytes))=some (some (.int .u64 0),1,8):=by kernel_rfl
section
variable {w w' :World} {s N:Nat} {R:Zr} {n:Nat}
end
end Go.Proofs.YtiopopoohglepaaGreatDoor
namespace Go.Proofs.YtiopopoohglepaaGreatDoor
open Go.RowKit Go.Shelf
structure Cst where
 S:List Nat
 last:ByteArray
 first:Bool
 Af6:List Nat
structure PY(D:DW)(S:List Nat):Prop where
 tidy:Maps.Tidy D
 at' : ∀x:Nat,D.atKey (.int .u64 x) (.lit (.int .i64 0))= .lit (.int .i64 (if x∈S then 1 else 0))
 has: ∀x:Nat,Maps.has D (.int .u64 x)=decide (x∈S)
 size:Maps.size D=S.length
theorem Oi(x:Nat):WideAt.IsKeyLit (.int .u64 x):=by simp [WideAt.IsKeyLit]
theorem PY.put{D:DW}{S:List Nat}(h:PY D S){x:Nat}(hx:x∉S):PY (D.put (.int .u64 x) (.lit (.int .i64 1))) (S++ [x]):=by
 refine⟨h.tidy.put (Oi x) _,λy=> ?_,λy=> ?_, ?_⟩
 . by_cases e:y=x
   . subst e
     rw [Maps.atKey_put_same h.tidy.isMap (Oi _),if_pos (by simp)]
   . rw [Maps.atKey_put_other (by simp;omega),h.at' y]
     simp [e]
 . by_cases e:y=x
   . subst e
     rw [Maps.has_put_same h.tidy.isMap (Oi _)];simp
   . rw [Maps.has_put_other (by simp;omega),h.has y]
     simp [e]
 . rw [Maps.size_put h.tidy,h.has x,if_neg (by simpa using hx),h.size]
   simp
section
variable {w W W' :World} {s B:Nat} {c:Cst}
end
section
variable {w W W' :World} {s B:Nat} {c:Cst}
end
attribute [local go_sem] Oper.semAt_some Ea
section
variable {w w' :World} {s N:Nat} {R:Zr} {n:Nat}
end
end Go.Proofs.YtiopopoohglepaaGreatDoor
namespace Go.Proofs.YtiopopoohglepaaGreatDoor
open Go.RowKit Go.Shelf
inductive BT where
 |nil
 |node (h kh vh mark:Nat) (k v:ByteArray) (l r:BT)
namespace BT
def root:BT->Nat
 |nil=>0
 |node h _ _ _ _ _ _ _=>h
def size:BT->Nat
 |nil=>0
 |node _ _ _ _ _ _ l r=>l.size+1+r.size
def nodes:BT->List Nat
 |nil=> []
 |node h _ _ _ _ _ l r=>l.nodes++h::r.nodes
def hs:BT->List Nat
 |nil=> []
 |node h kh vh _ _ _ l r=>l.hs++h::kh::vh::r.hs
def AI:BT->List (ByteArray × ByteArray)
 |nil=> []
 |node _ _ _ _ k v l r=>l.AI++(k,v)::r.AI
def At(R:Zr):BT->Prop
 |nil=>True
 |node h kh vh m k v l r=>h≠0/\R h=some (Nd.ws ⟨kh,vh,l.root,r.root,m,l.size+1+r.size⟩)/\R kh=some (Tx.A8 k.data.toList)/\R vh=some (Tx.A8 v.data.toList)/\k.size<=1000/\v.size<=1000/\l.At R/\r.At R
theorem Ih: ∀t:BT,t.nodes.length=t.size
 |nil=>rfl
 |node _ _ _ _ _ _ l r=>by simp only [nodes,size,List.length_append,List.length_cons,Ih l,Ih r];omega
theorem Bn: ∀t:BT,t.AI.length=t.size
 |nil=>rfl
 |node _ _ _ _ _ _ l r=>by simp only [AI,size,List.length_append,List.length_cons,Bn l,Bn r];omega
end BT
variable {x:Nat}
section
variable {R:Zr}
theorem GM{k:ByteArray}(h:R x=some (Tx.A8 k.data.toList))(d:k.size<=1000):G8 R x=some k/\C8 R x=0:=by
 obtain⟨h1,I⟩:=Tx.GI k d;unfold G8 C8;rw [h];simp only [if_pos h1,I];exact⟨trivial,trivial⟩
theorem WE{nd:Nd}(h:R x=some nd.ws):EJ R x=0/\FH R x=nd:=by
 have h1:=VZ h;exact⟨Sp.2 ⟨_,h1⟩,by unfold FH;rw [h1];rfl⟩
namespace BT
def told:List BT->List Nat
 | []=> []
 |nil::ps=>told ps
 |node h _ _ _ _ _ _ r::ps=>h::(r.nodes++told ps)
end BT
end
theorem Cp{a b:ByteArray}:Tx.cmp a b=0↔a=b:=by
 unfold Tx.cmp;rw [Tx.M7];constructor
 . intro h
   cases a;cases b
   simp only [ByteArray.mk.injEq];exact Array.toList_inj.1 h
 . rintro rfl;rfl
theorem K9(a b:ByteArray):Tx.cmp b a= -Tx.cmp a b:=Tx.SI _ _
theorem Ec{a b c:ByteArray}(h:Tx.cmp a b<0)(k:Tx.cmp b c<0):Tx.cmp a c<0:=
 (Tx.Pl _ _ _ (Int.le_of_lt h) (Int.le_of_lt k)).2 (.inl h)
def AH(l:List (ByteArray × ByteArray))(k:ByteArray):Nat:=l.countP λp=>decide (Tx.cmp p.1 k<0)
def AY(l:List (ByteArray × ByteArray)):Prop:=l.Pairwise λa b=>Tx.cmp a.1 b.1<0
theorem Ds(l:List (ByteArray × ByteArray))(k:ByteArray):AH l k<=l.length:=List.countP_le_length
theorem HX{l:List (ByteArray × ByteArray)}{k:ByteArray}(h: ∀p∈l,Tx.cmp p.1 k<0):AH l k=l.length:=by
 unfold AH;rw [List.countP_eq_length];exact λp hp=>decide_eq_true (h p hp)
theorem Eu{l:List (ByteArray × ByteArray)}{k:ByteArray}(h: ∀p∈l,¬Tx.cmp p.1 k<0):AH l k=0:=by
 unfold AH;rw [List.countP_eq_zero];exact λp hp e=>h p hp (of_decide_eq_true e)
theorem C3(l m:List (ByteArray × ByteArray))(k:ByteArray):AH (l++m) k=AH l k+AH m k:=List.countP_append
theorem GO(p:ByteArray × ByteArray)(m:List (ByteArray × ByteArray))(k:ByteArray):AH (p::m) k=AH m k+if Tx.cmp p.1 k<0 then 1 else 0:=by
 unfold AH;rw [List.countP_cons];simp
namespace BT
variable {R:Zr}
end BT
structure En where
 h:Nat
 nd:Nd
 k:ByteArray
 v:ByteArray
def En.At(R:Zr)(e:En):Prop:=R e.h=some e.nd.ws/\R e.nd.key=some (Tx.A8 e.k.data.toList)/\R e.nd.val=some (Tx.A8 e.v.data.toList)/\e.k.size<=1000/\e.v.size<=1000/\ZV R e.nd=true
def En.hs(e:En):List Nat:= [e.h,e.nd.key,e.nd.val]
namespace BT
variable {R:Zr}
end BT
section
variable {R:Zr}
end
theorem Ba.B5{R:Zr}(h:Ba R)(x:Nat)(o:Option (List Nat))(I: ∀ws,o=some ws->ws.length<=200):Ba (AT R x o):=λy ws d=>by
 unfold AT at d
 split at d
 . exact I ws d
 . exact h y ws d
theorem SG{f:Nat->Nat}: ∀(l H:List Nat),l.Nodup->(∀x∈l,x∈H)->(l.map f).sum<=(H.map f).sum
 | [],H,_,_=>by simp
 |x::l,H,hn,hs=>by
  rw [List.nodup_cons] at hn;have hx:x∈H:=hs x (by simp);have h1:=SG (f:=f) l (H.erase x) hn.2 (λy d=>(List.mem_erase_of_ne (λe=>by subst e;exact hn.1 d)).2 (hs y (by simp [d])));have I:=((List.perm_cons_erase hx).map f).sum_nat;simp only [List.map_cons,List.sum_cons] at I ⊢;omega
section
variable {w w' :World} {s N:Nat} {F:Nat->Prop} {R:Zr} {H:List Nat} {P q most last G n:Nat}
theorem Am.SB(h:Am w s F R H P q most last G)(x:Nat):x∈H↔R x≠none:=by
 obtain⟨a,ha,t,v,L,mem,sl,Fh,h⟩:=h;constructor
 . intro hx
   obtain⟨k,d⟩:=(h.LC x).1 hx;obtain⟨ws,h1,_⟩:=h.link x k d;rw [h1];simp
 . intro hx
   by_cases hm:x∈H
   . exact hm
   . exact absurd (h.Gt x hm) hx
theorem Am.nodup(h:Am w s F R H P q most last G):H.Nodup:=by
 obtain⟨a,ha,t,v,L,mem,sl,Fh,h⟩:=h;exact h.nodup
end
