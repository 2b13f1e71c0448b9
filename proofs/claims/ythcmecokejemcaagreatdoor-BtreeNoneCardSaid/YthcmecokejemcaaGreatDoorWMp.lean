/-
  The seat's own texts, part p: In2, List, Seen, Chk1, Chk2, Chk3, Check, Tree, Tree2, Free.
-/
import Derived.Test.YthcmecokejemcaaGreatDoorWMo
import Derived.Maps.OwnIn
import Derived.Deep.DeepMust
set_option linter.unusedSimpArgs false
set_option linter.unusedVariables false
namespace Go.Proofs.YthcmecokejemcaaGreatDoor
open Go.RowKit Go.Shelf
attribute [local go_sem] Oper.semAt_some wide_fn
theorem Tryz.under_hs:Tryz.prog.underlying 43=some (.slice 23):=by kernel_rfl
theorem Tryz.info_h:(Tryz.prog.info? 23).map (fun i=>(i.zero,i.size,i.bytes))=some (some (.int .u64 0),1,8):=by kernel_rfl
end Go.Proofs.YthcmecokejemcaaGreatDoor
namespace Go.Proofs.YthcmecokejemcaaGreatDoor
open Go.RowKit Go.Shelf
attribute [local go_sem] Oper.semAt_some wide_fn
section
variable {w w' :World} {s N:Nat} {R:Nat→Option (List Nat)} {n:Nat}
end
end Go.Proofs.YthcmecokejemcaaGreatDoor
namespace Go.Proofs.YthcmecokejemcaaGreatDoor
open Go.RowKit Go.Shelf
def chk3(S:List Nat):List Nat→Option (List Nat)
 | []=>some S
 |x::t=>if x∈S then none else chk3 (S++ [x]) t
structure Cst where
 S:List Nat
 last:ByteArray
 first:Bool
 sides:List Nat
def Cst.bad(R:Nat→Option (List Nat))(c:Cst)(h:Nat):Bool:=
 pairE R h !=0||((!c.first&&decide (0≤Tx.cmp c.last (pairP R h).1))|| !fitsR R (nodeG R h))
def Cst.step(R:Nat→Option (List Nat))(c:Cst)(h:Nat):Option Cst:=
 if c.bad R h=true then none
 else (chk3 c.S [h,(nodeG R h).key,(nodeG R h).val]).map fun S' =>⟨S',(pairP R h).1,false,c.sides++ [(nodeG R h).left,(nodeG R h).right]⟩
structure SeenIs(D:DW)(S:List Nat):Prop where
 tidy:Maps.Tidy D
 at' : ∀x:Nat,D.atKey (.int .u64 (x:Nat)) (.lit (.int .i64 0))= .lit (.int .i64 (if x∈S then 1 else 0))
 has: ∀x:Nat,Maps.has D (.int .u64 (x:Nat))=decide (x∈S)
 size:Maps.size D=S.length
theorem key_u64(x:Nat):WideAt.IsKeyLit (.int .u64 (x:Nat)):=by simp [WideAt.IsKeyLit]
theorem SeenIs.empty:SeenIs (.map []) []:=⟨Maps.tidy_empty,fun x=>by rfl,fun x=>by rfl,rfl⟩
theorem SeenIs.put{D:DW}{S:List Nat}(h:SeenIs D S){x:Nat}(hx:x∉S):SeenIs (D.put (.int .u64 (x:Nat)) (.lit (.int .i64 1))) (S++ [x]):=by
 refine⟨h.tidy.put (key_u64 x) _,fun y=> ?_,fun y=> ?_, ?_⟩
 · by_cases e:y=x
   · subst e
     rw [Maps.atKey_put_same h.tidy.isMap (key_u64 _),if_pos (by simp)]
   · rw [Maps.atKey_put_other (by simp;omega),h.at' y]
     simp [e]
 · by_cases e:y=x
   · subst e
     rw [Maps.has_put_same h.tidy.isMap (key_u64 _)]
     simp
   · rw [Maps.has_put_other (by simp;omega),h.has y]
     simp [e]
 · rw [Maps.size_put h.tidy,h.has x,if_neg (by simpa using hx),h.size]
   simp
section
variable {w W W' :World} {s B:Nat} {c:Cst}
theorem _root_.Go.KeepsFrom.mono{A B:Nat}{X Y:World}(h:KeepsFrom A X Y)(hAB:A≤B):KeepsFrom B X Y:=⟨h.size,fun k o hk=>h.same k o (Nat.le_trans hAB hk)⟩
end
section
variable {w W W' :World} {s B:Nat} {c:Cst}
end
attribute [local go_sem] Oper.semAt_some wide_fn
section
variable {w w' :World} {s N:Nat} {R:Nat→Option (List Nat)} {n:Nat}
end
end Go.Proofs.YthcmecokejemcaaGreatDoor
namespace Go.Proofs.YthcmecokejemcaaGreatDoor
open Go.RowKit Go.Shelf
inductive BT where
 |nil
 |node (h kh vh mark:Nat) (k v:ByteArray) (l r:BT)
namespace BT
def root:BT→Nat
 |nil=>0
 |node h _ _ _ _ _ _ _=>h
def size:BT→Nat
 |nil=>0
 |node _ _ _ _ _ _ l r=>l.size+1+r.size
def nodes:BT→List Nat
 |nil=> []
 |node h _ _ _ _ _ l r=>l.nodes++h::r.nodes
def hs:BT→List Nat
 |nil=> []
 |node h kh vh _ _ _ l r=>l.hs++h::kh::vh::r.hs
def prs:BT→List (ByteArray × ByteArray)
 |nil=> []
 |node _ _ _ _ k v l r=>l.prs++(k,v)::r.prs
def At(R:Nat→Option (List Nat)):BT→Prop
 |nil=>True
 |node h kh vh m k v l r=>h≠0∧R h=some (Nd.ws ⟨kh,vh,l.root,r.root,m,l.size+1+r.size⟩)∧R kh=some (Tx.wordsL k.data.toList)∧R vh=some (Tx.wordsL v.data.toList)∧k.size≤1000∧v.size≤1000∧l.At R∧r.At R
theorem nodes_len: ∀t:BT,t.nodes.length=t.size
 |nil=>rfl
 |node _ _ _ _ _ _ l r=>by simp only [nodes,size,List.length_append,List.length_cons,nodes_len l,nodes_len r];omega
theorem prs_len: ∀t:BT,t.prs.length=t.size
 |nil=>rfl
 |node _ _ _ _ _ _ l r=>by simp only [prs,size,List.length_append,List.length_cons,prs_len l,prs_len r];omega
end BT
section
variable {R:Nat→Option (List Nat)}
theorem blobR_text{x:Nat}{k:ByteArray}(h:R x=some (Tx.wordsL k.data.toList))(hk:k.size≤1000):blobR R x=some k∧blobE R x=0:=by
 obtain⟨h1,h2⟩:=Tx.text_words k hk
 unfold blobR blobE
 rw [h]
 simp only [if_pos h1,h2]
 exact⟨trivial,trivial⟩
theorem nodeR_at{x:Nat}{nd:Nd}(h:R x=some nd.ws):nodeE R x=0∧nodeG R x=nd:=by
 have h1:=nodeR_of h
 exact⟨nodeE_zero.2 ⟨_,h1⟩,by unfold nodeG;rw [h1];rfl⟩
namespace BT
def told:List BT→List Nat
 | []=> []
 |nil::ps=>told ps
 |node h _ _ _ _ _ _ r::ps=>h::(r.nodes++told ps)
def rank(k:ByteArray):BT→Nat
 |nil=>0
 |node _ _ _ _ k' _ l r=>if Tx.cmp k k' <0 then l.rank k else if 0<Tx.cmp k k' then l.size+1+r.rank k else l.size
end BT
end
theorem cmp_zero{a b:ByteArray}:Tx.cmp a b=0↔a=b:=by
 unfold Tx.cmp
 rw [Tx.cb_zero]
 constructor
 · intro h
   cases a;cases b
   simp only [ByteArray.mk.injEq]
   exact Array.toList_inj.1 h
 · rintro rfl;rfl
theorem cmp_swap(a b:ByteArray):Tx.cmp b a= -Tx.cmp a b:=Tx.cb_swap _ _
theorem cmp_lt_trans{a b c:ByteArray}(h:Tx.cmp a b<0)(k:Tx.cmp b c<0):Tx.cmp a c<0:=
 (Tx.cb_trans _ _ _ (Int.le_of_lt h) (Int.le_of_lt k)).2 (.inl h)
def rankL(l:List (ByteArray × ByteArray))(k:ByteArray):Nat:=l.countP fun p=>decide (Tx.cmp p.1 k<0)
def Rising(l:List (ByteArray × ByteArray)):Prop:=l.Pairwise fun a b=>Tx.cmp a.1 b.1<0
theorem rankL_le(l:List (ByteArray × ByteArray))(k:ByteArray):rankL l k≤l.length:=List.countP_le_length
theorem rankL_all{l:List (ByteArray × ByteArray)}{k:ByteArray}(h: ∀p∈l,Tx.cmp p.1 k<0):rankL l k=l.length:=by
 unfold rankL
 rw [List.countP_eq_length]
 exact fun p hp=>decide_eq_true (h p hp)
theorem rankL_none{l:List (ByteArray × ByteArray)}{k:ByteArray}(h: ∀p∈l,¬Tx.cmp p.1 k<0):rankL l k=0:=by
 unfold rankL
 rw [List.countP_eq_zero]
 exact fun p hp e=>h p hp (of_decide_eq_true e)
theorem rankL_append(l m:List (ByteArray × ByteArray))(k:ByteArray):rankL (l++m) k=rankL l k+rankL m k:=List.countP_append
theorem rankL_cons(p:ByteArray × ByteArray)(m:List (ByteArray × ByteArray))(k:ByteArray):rankL (p::m) k=rankL m k+if Tx.cmp p.1 k<0 then 1 else 0:=by
 unfold rankL
 rw [List.countP_cons]
 simp
namespace BT
variable {R:Nat→Option (List Nat)}
end BT
structure En where
 h:Nat
 nd:Nd
 k:ByteArray
 v:ByteArray
def En.At(R:Nat→Option (List Nat))(e:En):Prop:=R e.h=some e.nd.ws∧R e.nd.key=some (Tx.wordsL e.k.data.toList)∧R e.nd.val=some (Tx.wordsL e.v.data.toList)∧e.k.size≤1000∧e.v.size≤1000∧fitsR R e.nd=true
def En.hs(e:En):List Nat:= [e.h,e.nd.key,e.nd.val]
namespace BT
variable {R:Nat→Option (List Nat)}
end BT
section
variable {R:Nat→Option (List Nat)}
end
end Go.Proofs.YthcmecokejemcaaGreatDoor
namespace Go.Proofs.YthcmecokejemcaaGreatDoor
open Go.RowKit Go.Shelf
def dropR(R:Nat→Option (List Nat))(l:List Nat):Nat→Option (List Nat):=fun y=>if y∈l then none else R y
theorem Short.drop{R:Nat→Option (List Nat)}(h:Short R)(l:List Nat):Short (dropR R l):=fun x ws hx=>by
 unfold dropR at hx
 split at hx
 · cases hx
 · exact h x ws hx
theorem Short.upd{R:Nat→Option (List Nat)}(h:Short R)(x:Nat)(o:Option (List Nat))(ho: ∀ws,o=some ws→ws.length≤200):Short (updR R x o):=fun y ws hy=>by
 unfold updR at hy
 split at hy
 · exact ho ws hy
 · exact h y ws hy
theorem sum_sub{f:Nat→Nat}: ∀(l H:List Nat),l.Nodup→(∀x∈l,x∈H)→(l.map f).sum≤(H.map f).sum
 | [],H,_,_=>by simp
 |x::l,H,hn,hs=>by
  rw [List.nodup_cons] at hn
  have hx:x∈H:=hs x (by simp)
  have h1:=sum_sub (f:=f) l (H.erase x) hn.2 (fun y hy=>(List.mem_erase_of_ne (fun e=>by subst e;exact hn.1 hy)).2 (hs y (by simp [hy])))
  have h2:=((List.perm_cons_erase hx).map f).sum_nat
  simp only [List.map_cons,List.sum_cons] at h2 ⊢
  omega
section
variable {w w' :World} {s N:Nat} {F:Nat→Prop} {R:Nat→Option (List Nat)} {H:List Nat} {P q most last G n:Nat}
theorem StoreIs.dom(h:StoreIs w s F R H P q most last G)(x:Nat):x∈H↔R x≠none:=by
 obtain⟨a,ha,t,v,L,mem,sl,Fh,h⟩:=h
 constructor
 · intro hx
   obtain⟨k,nm⟩:=(h.inH x).1 hx
   obtain⟨ws,h1,_⟩:=h.link x k nm
   rw [h1];simp
 · intro hx
   by_cases hm:x∈H
   · exact hm
   · exact absurd (h.none' x hm) hx
theorem StoreIs.nodup(h:StoreIs w s F R H P q most last G):H.Nodup:=by
 obtain⟨a,ha,t,v,L,mem,sl,Fh,h⟩:=h
 exact h.nodup
theorem BT.hs_in: ∀(t:BT),t.At R→ ∀x∈t.hs,R x≠none
 | .nil,_,x,hx=>by simp [BT.hs] at hx
 | .node h kh vh m k v l r,ht,x,hx=>by
   obtain⟨h1,h2,h3,h4,h5,h6,hl,hr⟩:=ht
   simp only [BT.hs,List.mem_append,List.mem_cons] at hx
   rcases hx with hx|rfl|rfl|rfl|hx
   · exact BT.hs_in l hl x hx
   · rw [h2];simp
   · rw [h3];simp
   · rw [h4];simp
   · exact BT.hs_in r hr x hx
end
end Go.Proofs.YthcmecokejemcaaGreatDoor
