/-
  The seat's own texts, part p: In2, List, Seen, Chk1, Chk2, Chk3, Check, Tree, Tree2, Free.
-/
import Derived.Test.YtjcpclcmnhpgpaaGreatDoorHMo
import Derived.Maps.OwnIn
import Derived.Deep.DeepMust
set_option linter.unusedSimpArgs false
set_option linter.unusedVariables false
namespace Go.Proofs.YtjcpclcmnhpgpaaGreatDoor
open Go.RowKit Go.Shelf
attribute [local go_sem] Oper.semAt_some wide_fn
theorem Tryz.under_hs:Tryz.prog.underlying 51=some (.slice 31):=by kernel_rfl
theorem Tryz.info_h:(Tryz.prog.info? 31).map (fun i=>(i.zero,i.size,i.bytes))=some (some (.int .u64 0),1,8):=by kernel_rfl
end Go.Proofs.YtjcpclcmnhpgpaaGreatDoor
namespace Go.Proofs.YtjcpclcmnhpgpaaGreatDoor
open Go.RowKit Go.Shelf
attribute [local go_sem] Oper.semAt_some wide_fn
section
variable {w w' :World} {s N:Nat} {R:Nat→Option (List Nat)} {n:Nat}
end
end Go.Proofs.YtjcpclcmnhpgpaaGreatDoor
namespace Go.Proofs.YtjcpclcmnhpgpaaGreatDoor
open Go.RowKit Go.Shelf
def chk3(S:List Nat):List Nat→Option (List Nat)
 | []=>some S
 |x::t=>if x∈S then none else chk3 (S++ [x]) t
structure Cst where
 S:List Nat
 last:ByteArray
 first:Bool
 sides:List Nat
def Cst.bad(R:Nat→Option (List Nat))(c:Cst)(h:Nat):Bool:=
 pairE R h !=0||((!c.first&&decide (0≤Tx.cmp c.last (pairP R h).1))|| !fitsR R (nodeG R h))
def Cst.step(R:Nat→Option (List Nat))(c:Cst)(h:Nat):Option Cst:=
 if c.bad R h=true then none
 else (chk3 c.S [h,(nodeG R h).key,(nodeG R h).val]).map fun S' =>⟨S',(pairP R h).1,false,c.sides++ [(nodeG R h).left,(nodeG R h).right]⟩
def chkL(R:Nat→Option (List Nat))(root:Nat)(l:List Nat):Option Cst:=l.foldl (fun c h=>c.bind fun c=>c.step R h) (some ⟨[],⟨#[]⟩,true,[root]⟩)
def checkR(R:Nat→Option (List Nat))(n root:Nat):Nat:=
 if root=0 then 0
 else if nodeE R root≠0 then 8
 else match chkL R root (inR R n root) with
  |none=>8
  |some c=>if c.sides.any (fun x=>x !=0&& !c.S.contains x) then 8 else if (3*(nodeG R root).size)%18446744073709551616≠c.S.length then 8 else 0
structure SeenIs(D:DW)(S:List Nat):Prop where
 tidy:Maps.Tidy D
 at' : ∀x:Nat,D.atKey (.int .u64 (x:Nat)) (.lit (.int .i64 0))= .lit (.int .i64 (if x∈S then 1 else 0))
 has: ∀x:Nat,Maps.has D (.int .u64 (x:Nat))=decide (x∈S)
 size:Maps.size D=S.length
theorem key_u64(x:Nat):WideAt.IsKeyLit (.int .u64 (x:Nat)):=by simp [WideAt.IsKeyLit]
theorem SeenIs.put{D:DW}{S:List Nat}(h:SeenIs D S){x:Nat}(hx:x∉S):SeenIs (D.put (.int .u64 (x:Nat)) (.lit (.int .i64 1))) (S++ [x]):=by
 refine⟨h.tidy.put (key_u64 x) _,fun y=> ?_,fun y=> ?_, ?_⟩
 · by_cases e:y=x
   · subst e
     rw [Maps.atKey_put_same h.tidy.isMap (key_u64 _),if_pos (by simp)]
   · rw [Maps.atKey_put_other (by simp;omega),h.at' y]
     simp [e]
 · by_cases e:y=x
   · subst e
     rw [Maps.has_put_same h.tidy.isMap (key_u64 _)]
     simp
   · rw [Maps.has_put_other (by simp;omega),h.has y]
     simp [e]
 · rw [Maps.size_put h.tidy,h.has x,if_neg (by simpa using hx),h.size]
   simp
section
variable {w W W' :World} {s B:Nat} {c:Cst}
theorem _root_.Go.KeepsFrom.mono{A B:Nat}{X Y:World}(h:KeepsFrom A X Y)(hAB:A≤B):KeepsFrom B X Y:=⟨h.size,fun k o hk=>h.same k o (Nat.le_trans hAB hk)⟩
end
section
variable {w W W' :World} {s B:Nat} {c:Cst}
end
attribute [local go_sem] Oper.semAt_some wide_fn
section
variable {w w' :World} {s N:Nat} {R:Nat→Option (List Nat)} {n:Nat}
end
end Go.Proofs.YtjcpclcmnhpgpaaGreatDoor
namespace Go.Proofs.YtjcpclcmnhpgpaaGreatDoor
open Go.RowKit Go.Shelf
inductive BT where
 |nil
 |node (h kh vh mark:Nat) (k v:ByteArray) (l r:BT)
namespace BT
def root:BT→Nat
 |nil=>0
 |node h _ _ _ _ _ _ _=>h
def size:BT→Nat
 |nil=>0
 |node _ _ _ _ _ _ l r=>l.size+1+r.size
def nodes:BT→List Nat
 |nil=> []
 |node h _ _ _ _ _ l r=>l.nodes++h::r.nodes
def hs:BT→List Nat
 |nil=> []
 |node h kh vh _ _ _ l r=>l.hs++h::kh::vh::r.hs
def prs:BT→List (ByteArray × ByteArray)
 |nil=> []
 |node _ _ _ _ k v l r=>l.prs++(k,v)::r.prs
def At(R:Nat→Option (List Nat)):BT→Prop
 |nil=>True
 |node h kh vh m k v l r=>h≠0∧R h=some (Nd.ws ⟨kh,vh,l.root,r.root,m,l.size+1+r.size⟩)∧R kh=some (Tx.wordsL k.data.toList)∧R vh=some (Tx.wordsL v.data.toList)∧k.size≤1000∧v.size≤1000∧l.At R∧r.At R
theorem nodes_len: ∀t:BT,t.nodes.length=t.size
 |nil=>rfl
 |node _ _ _ _ _ _ l r=>by simp only [nodes,size,List.length_append,List.length_cons,nodes_len l,nodes_len r];omega
theorem prs_len: ∀t:BT,t.prs.length=t.size
 |nil=>rfl
 |node _ _ _ _ _ _ l r=>by simp only [prs,size,List.length_append,List.length_cons,prs_len l,prs_len r];omega
theorem hs_len: ∀t:BT,t.hs.length=3*t.size
 |nil=>rfl
 |node _ _ _ _ _ _ l r=>by simp only [hs,size,List.length_append,List.length_cons,hs_len l,hs_len r];omega
theorem nodes_hs: ∀(t:BT) (x:Nat),x∈t.nodes→x∈t.hs
 |nil,x,h=>by simp [nodes] at h
 |node h kh vh m k v l r,x,hx=>by
  simp only [nodes,hs,List.mem_append,List.mem_cons] at hx ⊢
  rcases hx with hx|hx|hx
  · exact .inl (nodes_hs l x hx)
  · exact .inr (.inl hx)
  · exact .inr (.inr (.inr (.inr (nodes_hs r x hx))))
theorem root_nodes: ∀t:BT,t.root=0∨t.root∈t.nodes
 |nil=> .inl rfl
 |node h _ _ _ _ _ l r=> .inr (by simp [nodes,root])
end BT
section
variable {R:Nat→Option (List Nat)}
theorem blobR_text{x:Nat}{k:ByteArray}(h:R x=some (Tx.wordsL k.data.toList))(hk:k.size≤1000):blobR R x=some k∧blobE R x=0:=by
 obtain⟨h1,h2⟩:=Tx.text_words k hk
 unfold blobR blobE
 rw [h]
 simp only [if_pos h1,h2]
 exact⟨trivial,trivial⟩
theorem nodeR_at{x:Nat}{nd:Nd}(h:R x=some nd.ws):nodeE R x=0∧nodeG R x=nd:=by
 have h1:=nodeR_of h
 exact⟨nodeE_zero.2 ⟨_,h1⟩,by unfold nodeG;rw [h1];rfl⟩
namespace BT
def lefts:BT→List BT→List BT
 |nil,ps=>ps
 |node h kh vh m k v l r,ps=>lefts l (node h kh vh m k v l r::ps)
def long:BT→Nat
 |nil=>0
 |node _ _ _ _ _ _ l _=>l.long+1
def told:List BT→List Nat
 | []=> []
 |nil::ps=>told ps
 |node h _ _ _ _ _ _ r::ps=>h::(r.nodes++told ps)
def todo:List BT→Nat
 | []=>0
 |nil::ps=>todo ps
 |node _ _ _ _ _ _ _ r::ps=>r.size+todo ps
theorem told_lefts: ∀(t:BT) (ps:List BT),told (lefts t ps)=t.nodes++told ps
 |nil,ps=>rfl
 |node h kh vh m k v l r,ps=>by rw [lefts,told_lefts l,told,nodes,List.append_assoc];rfl
theorem todo_lefts: ∀(t:BT) (ps:List BT),t.long+todo (lefts t ps)=t.size+todo ps
 |nil,ps=>rfl
 |node h kh vh m k v l r,ps=>by
  have:=todo_lefts l (node h kh vh m k v l r::ps)
  rw [lefts,long,size]
  rw [todo] at this
  omega
def Stk(R:Nat→Option (List Nat))(ps:List BT):Prop:= ∀p∈ps,p.At R∧p≠nil
theorem stk_lefts: ∀(t:BT) (ps:List BT),t.At R→Stk R ps→Stk R (lefts t ps)
 |nil,ps,_,h=>h
 |node h kh vh m k v l r,ps,ht,hp=>stk_lefts l _ ht.2.2.2.2.2.2.1 (fun p hq=>by
  rcases List.mem_cons.1 hq with rfl|hq
  · exact⟨ht,by simp⟩
  · exact hp p hq)
theorem dive_at: ∀(t:BT) (f:Nat) (ps:List BT),t.At R→t.long<f→dive R f (ps.map root) t.root=some ((lefts t ps).map root,f-t.long,0)
 |nil,f,ps,_,hf=>by
  obtain⟨f',rfl⟩: ∃f',f=f' +1:=⟨f-1,by simp only [long] at hf;omega⟩
  rw [dive,if_pos (show nil.root=0 from rfl)]
  rfl
 |node h kh vh m k v l r,f,ps,ht,hf=>by
  obtain⟨f',rfl⟩: ∃f',f=f' +1:=⟨f-1,by simp only [long] at hf;omega⟩
  obtain⟨h1,h2,h3,h4,h5,h6,hl,hr⟩:=ht
  obtain⟨e1,e2⟩:=nodeR_at h2
  simp only [long] at hf
  rw [dive,show(node h kh vh m k v l r).root=h from rfl,if_neg h1,if_neg (by simp [e1]),e2]
  have:=dive_at l f' (node h kh vh m k v l r::ps) hl (by omega)
  rw [show(node h kh vh m k v l r::ps).map root=h::ps.map root from rfl] at this
  rw [this,lefts,long,show f' +1-(l.long+1)=f' -l.long by omega]
theorem goO_at: ∀(g f:Nat) (ps:List BT) (t:BT),t.At R→Stk R ps→t.size+todo ps<f→(t.nodes++told ps).length≤g→goO R g f (ps.map root) t.root=t.nodes++told ps
 |0,f,ps,t,ht,hp,hf,hg=>by
  rw [List.eq_nil_of_length_eq_zero (Nat.le_zero.1 hg)]
  rfl
 |g+1,f,ps,t,ht,hp,hf,hg=>by
  have hlt:=todo_lefts t ps
  have hst:=stk_lefts t ps ht hp
  rw [goO,if_neg (by omega),dive_at t f ps ht (by omega)]
  rw [←told_lefts t ps] at hg ⊢
  cases hL:lefts t ps with
  |nil=>rfl
  |cons p ps' =>
   rw [hL] at hlt hst hg
   obtain⟨hpa,hpn⟩:=hst p (by simp)
   cases p with
   |nil=>exact absurd rfl hpn
   |node h kh vh m k v l r=>
    obtain⟨h1,h2,h3,h4,h5,h6,hl,hr⟩:=hpa
    obtain⟨e1,e2⟩:=nodeR_at h2
    rw [todo] at hlt
    rw [told,List.length_cons] at hg
    show h::goO R g (f-t.long) (ps'.map root) (nodeG R h).right=h::(r.nodes++told ps')
    rw [e2]
    show h::goO R g (f-t.long) (ps'.map root) r.root=_
    rw [goO_at g (f-t.long) ps' r hr (fun q hq=>hst q (by simp [hq])) (by omega) (by omega)]
theorem inR_at{t:BT}(ht:t.At R){n:Nat}(hn:t.size≤n/8):inR R n t.root=t.nodes:=by
 have h1:=nodes_len t
 have:=goO_at (R:=R) (n/8+1) (n/8+1) [] t ht (fun p hp=>by simp at hp) (by simp [todo];omega) (by simp [told];omega)
 rw [told,List.append_nil] at this
 exact this
def find(k:ByteArray):BT→Nat
 |nil=>0
 |node h _ _ _ k' _ l r=>if Tx.cmp k k' <0 then l.find k else if 0<Tx.cmp k k' then r.find k else h
def rank(k:ByteArray):BT→Nat
 |nil=>0
 |node _ _ _ _ k' _ l r=>if Tx.cmp k k' <0 then l.rank k else if 0<Tx.cmp k k' then l.size+1+r.rank k else l.size
end BT
end
theorem cmp_zero{a b:ByteArray}:Tx.cmp a b=0↔a=b:=by
 unfold Tx.cmp
 rw [Tx.cb_zero]
 constructor
 · intro h
   cases a;cases b
   simp only [ByteArray.mk.injEq]
   exact Array.toList_inj.1 h
 · rintro rfl;rfl
theorem cmp_swap(a b:ByteArray):Tx.cmp b a= -Tx.cmp a b:=Tx.cb_swap _ _
theorem cmp_lt_trans{a b c:ByteArray}(h:Tx.cmp a b<0)(k:Tx.cmp b c<0):Tx.cmp a c<0:=
 (Tx.cb_trans _ _ _ (Int.le_of_lt h) (Int.le_of_lt k)).2 (.inl h)
def rankL(l:List (ByteArray × ByteArray))(k:ByteArray):Nat:=l.countP fun p=>decide (Tx.cmp p.1 k<0)
def Rising(l:List (ByteArray × ByteArray)):Prop:=l.Pairwise fun a b=>Tx.cmp a.1 b.1<0
theorem rankL_le(l:List (ByteArray × ByteArray))(k:ByteArray):rankL l k≤l.length:=List.countP_le_length
theorem rankL_all{l:List (ByteArray × ByteArray)}{k:ByteArray}(h: ∀p∈l,Tx.cmp p.1 k<0):rankL l k=l.length:=by
 unfold rankL
 rw [List.countP_eq_length]
 exact fun p hp=>decide_eq_true (h p hp)
theorem rankL_none{l:List (ByteArray × ByteArray)}{k:ByteArray}(h: ∀p∈l,¬Tx.cmp p.1 k<0):rankL l k=0:=by
 unfold rankL
 rw [List.countP_eq_zero]
 exact fun p hp e=>h p hp (of_decide_eq_true e)
theorem rankL_append(l m:List (ByteArray × ByteArray))(k:ByteArray):rankL (l++m) k=rankL l k+rankL m k:=List.countP_append
theorem rankL_cons(p:ByteArray × ByteArray)(m:List (ByteArray × ByteArray))(k:ByteArray):rankL (p::m) k=rankL m k+if Tx.cmp p.1 k<0 then 1 else 0:=by
 unfold rankL
 rw [List.countP_cons]
 simp
namespace BT
variable {R:Nat→Option (List Nat)}
end BT
structure En where
 h:Nat
 nd:Nd
 k:ByteArray
 v:ByteArray
def En.At(R:Nat→Option (List Nat))(e:En):Prop:=R e.h=some e.nd.ws∧R e.nd.key=some (Tx.wordsL e.k.data.toList)∧R e.nd.val=some (Tx.wordsL e.v.data.toList)∧e.k.size≤1000∧e.v.size≤1000∧fitsR R e.nd=true
def En.hs(e:En):List Nat:= [e.h,e.nd.key,e.nd.val]
theorem En.At.pair{R:Nat→Option (List Nat)}{h:Nat}{nd:Nd}{k v:ByteArray}(h1:R h=some nd.ws)(h2:R nd.key=some (Tx.wordsL k.data.toList))(h3:R nd.val=some (Tx.wordsL v.data.toList))(h4:k.size≤1000)(h5:v.size≤1000):pairE R h=0∧pairP R h=(k,v):=by
 obtain⟨e1,e2⟩:=nodeR_at h1
 obtain⟨b1,b2⟩:=blobR_text h2 h4
 obtain⟨b3,b4⟩:=blobR_text h3 h5
 have hp:pairE R h=0:=by unfold pairE;rw [e2,if_neg (by simp [e1]),if_neg (by simp [b2]),b4]
 refine⟨hp, ?_⟩
 unfold pairP
 rw [if_pos hp,e2,b1,b3]
 rfl
namespace BT
variable {R:Nat→Option (List Nat)}
def ents:BT→List En
 |nil=> []
 |node h kh vh m k v l r=>l.ents++⟨h,⟨kh,vh,l.root,r.root,m,l.size+1+r.size⟩,k,v⟩::r.ents
theorem ents_nodes: ∀t:BT,t.ents.map (·.h)=t.nodes
 |nil=>rfl
 |node _ _ _ _ _ _ l r=>by rw [ents,nodes,List.map_append,List.map_cons,ents_nodes l,ents_nodes r]
theorem ents_prs: ∀t:BT,t.ents.map (fun e=>(e.k,e.v))=t.prs
 |nil=>rfl
 |node _ _ _ _ _ _ l r=>by rw [ents,prs,List.map_append,List.map_cons,ents_prs l,ents_prs r]
theorem ents_hs: ∀t:BT,t.ents.flatMap En.hs=t.hs
 |nil=>rfl
 |node _ _ _ _ _ _ l r=>by rw [ents,hs,List.flatMap_append,List.flatMap_cons,ents_hs l,ents_hs r];rfl
theorem ents_sides: ∀(t:BT) (e:En),e∈t.ents→(e.nd.left=0∨e.nd.left∈t.nodes)∧(e.nd.right=0∨e.nd.right∈t.nodes)
 |nil,e,h=>by simp [ents] at h
 |node h kh vh m k v l r,e,he=>by
  simp only [ents,List.mem_append,List.mem_cons] at he
  simp only [nodes,List.mem_append,List.mem_cons]
  rcases he with he|rfl|he
  · obtain⟨h1,h2⟩:=ents_sides l e he
    exact⟨h1.imp_right .inl,h2.imp_right .inl⟩
  · exact⟨(root_nodes l).imp_right .inl,(root_nodes r).imp_right fun h=> .inr (.inr h)⟩
  · obtain⟨h1,h2⟩:=ents_sides r e he
    exact⟨h1.imp_right fun h=> .inr (.inr h),h2.imp_right fun h=> .inr (.inr h)⟩
theorem side_at{t:BT}(ht:t.At R):sideR R t.root=some t.size:=by
 unfold sideR
 cases t with
 |nil=>rfl
 |node h kh vh m k v l r=>
  obtain⟨h1,h2,_⟩:=ht
  obtain⟨e1,e2⟩:=nodeR_at h2
  rw [root,if_neg h1,if_neg (by simp [e1]),e2]
  rfl
theorem ents_at: ∀(t:BT),t.At R→t.size<18446744073709551616→ ∀e∈t.ents,e.At R
 |nil,_,_,e,he=>by simp [ents] at he
 |node h kh vh m k v l r,ht,hs,e,he=>by
  obtain⟨h1,h2,h3,h4,h5,h6,hl,hr⟩:=ht
  simp only [size] at hs
  simp only [ents,List.mem_append,List.mem_cons] at he
  rcases he with he|rfl|he
  · exact ents_at l hl (by omega) e he
  · refine⟨h2,h3,h4,h5,h6, ?_⟩
    have e1:fitAcc R ⟨kh,vh,l.root,r.root,m,l.size+1+r.size⟩ 2=some (l.size+1+r.size):=by
     simp only [fitAcc,Nd.side,if_true,Option.bind_some]
     rw [side_at hl]
     simp only [Option.map_some,Option.bind_some,Nat.one_ne_zero,if_false]
     rw [side_at hr]
     simp only [Option.map_some,Option.some.injEq]
     omega
    unfold fitsR
    rw [e1]
    simp
  · exact ents_at r hr (by omega) e he
end BT
section
variable {R:Nat→Option (List Nat)}
theorem chk3_some: ∀(l S:List Nat),(S++l).Nodup→chk3 S l=some (S++l)
 | [],S,_=>by simp [chk3]
 |x::t,S,h=>by
  have hx:x∉S:=fun hx=>by
   rw [List.nodup_append] at h
   exact h.2.2 x hx x (by simp) rfl
  rw [chk3,if_neg hx,chk3_some t (S++ [x]) (by simpa using h)]
  simp
theorem chk_fold: ∀(es:List En) (c:Cst),(∀e∈es,e.At R)→(es.map (fun e=>(e.k,e.v))).Pairwise (fun a b=>Tx.cmp a.1 b.1<0)→(c.first=true∨ ∀e∈es,Tx.cmp c.last e.k<0)→(c.S++es.flatMap En.hs).Nodup→
 ∃c',(es.map (·.h)).foldl (fun(c:Option Cst) h=>c.bind fun c=>c.step R h) (some c)=some c' ∧c'.S=c.S++es.flatMap En.hs∧c'.sides=c.sides++es.flatMap (fun e=> [e.nd.left,e.nd.right])
 | [],c,_,_,_,_=>⟨c,rfl,by simp,by simp⟩
 |e::es,c,hat,hp,hl,hn=>by
  obtain⟨h1,h2,h3,h4,h5,h6⟩:=hat e (by simp)
  obtain⟨p1,p2⟩:=En.At.pair h1 h2 h3 h4 h5
  obtain⟨e1,e2⟩:=nodeR_at h1
  rw [List.map_cons,List.pairwise_cons] at hp
  rw [List.flatMap_cons] at hn
  have hn3:(c.S++e.hs).Nodup:=by
   rw [←List.append_assoc] at hn
   exact(List.nodup_append.1 hn).1
  have hbad:c.bad R e.h=false:=by
   unfold Cst.bad
   rw [p1,p2,e2,h6]
   rcases hl with hf|hf
   · rw [hf];rfl
   · have:=hf e (by simp)
     simp;omega
  have hstep:c.step R e.h=some ⟨c.S++e.hs,e.k,false,c.sides++ [e.nd.left,e.nd.right]⟩:=by
   unfold Cst.step
   rw [if_neg (by simp [hbad]),e2,p2,show [e.h,e.nd.key,e.nd.val]=e.hs from rfl,chk3_some _ _ hn3]
   rfl
  obtain⟨c',q1,q2,q3⟩:=chk_fold es ⟨c.S++e.hs,e.k,false,c.sides++ [e.nd.left,e.nd.right]⟩ (fun x hx=>hat x (by simp [hx])) hp.2 (.inr fun x hx=>hp.1 _ (List.mem_map.2 ⟨x,hx,rfl⟩)) (by rw [List.append_assoc];exact hn)
  refine⟨c', ?_, ?_, ?_⟩
  · rw [List.map_cons,List.foldl_cons,Option.bind_some,hstep]
    exact q1
  · rw [q2,List.flatMap_cons,List.append_assoc]
  · rw [q3,List.flatMap_cons,List.append_assoc]
theorem BT.chk_at{t:BT}(ht:t.At R)(hr:Rising t.prs)(hn:t.hs.Nodup)(hs:t.size<18446744073709551616)(root:Nat):
 ∃c,chkL R root t.nodes=some c∧c.S=t.hs∧c.sides=root::t.ents.flatMap (fun e=> [e.nd.left,e.nd.right]):=by
 obtain⟨c,h1,h2,h3⟩:=chk_fold (R:=R) t.ents ⟨[],⟨#[]⟩,true,[root]⟩ (ents_at t ht hs) (by rw [ents_prs];exact hr) (.inl rfl) (by rw [ents_hs];exact hn)
 rw [ents_nodes] at h1
 exact⟨c,h1,by rw [h2,ents_hs];rfl,by rw [h3];rfl⟩
theorem BT.check_at{t:BT}(ht:t.At R)(hr:Rising t.prs)(hn:t.hs.Nodup){n:Nat}(hsz:t.size≤n/8)(hs:t.size<1000000):checkR R n t.root=0:=by
 unfold checkR
 by_cases h0:t.root=0
 · rw [if_pos h0]
 · rw [if_neg h0]
   have hrt:nodeE R t.root=0∧(nodeG R t.root).size=t.size:=by
    cases t with
    |nil=>exact absurd rfl h0
    |node h kh vh m k v l r=>
     obtain⟨e1,e2⟩:=nodeR_at ht.2.1
     exact⟨e1,by rw [BT.root,e2];rfl⟩
   rw [if_neg (by simp [hrt.1]),inR_at ht hsz]
   obtain⟨c,h1,h2,h3⟩:=BT.chk_at ht hr hn (by omega) t.root
   rw [h1]
   simp only
   rw [if_neg,if_neg]
   · rw [h2,hs_len,hrt.2]
     omega
   · rw [h3,h2,List.any_eq_true]
     rintro⟨y,hy,h9⟩
     have hin:y=0∨y∈t.nodes:=by
      rcases List.mem_cons.1 hy with rfl|hy
      · exact root_nodes t
      · obtain⟨e,he,hye⟩:=List.mem_flatMap.1 hy
        obtain⟨g1,g2⟩:=ents_sides t e he
        rcases List.mem_cons.1 hye with rfl|hye
        · exact g1
        · rcases List.mem_cons.1 hye with rfl|hye
          · exact g2
          · simp at hye
     rcases hin with rfl|hin
     · simp at h9
     · have:=nodes_hs t y hin
       simp [this] at h9
end
end Go.Proofs.YtjcpclcmnhpgpaaGreatDoor
namespace Go.Proofs.YtjcpclcmnhpgpaaGreatDoor
open Go.RowKit Go.Shelf
def dropR(R:Nat→Option (List Nat))(l:List Nat):Nat→Option (List Nat):=fun y=>if y∈l then none else R y
theorem Short.drop{R:Nat→Option (List Nat)}(h:Short R)(l:List Nat):Short (dropR R l):=fun x ws hx=>by
 unfold dropR at hx
 split at hx
 · cases hx
 · exact h x ws hx
theorem Short.upd{R:Nat→Option (List Nat)}(h:Short R)(x:Nat)(o:Option (List Nat))(ho: ∀ws,o=some ws→ws.length≤200):Short (updR R x o):=fun y ws hy=>by
 unfold updR at hy
 split at hy
 · exact ho ws hy
 · exact h y ws hy
theorem sum_sub{f:Nat→Nat}: ∀(l H:List Nat),l.Nodup→(∀x∈l,x∈H)→(l.map f).sum≤(H.map f).sum
 | [],H,_,_=>by simp
 |x::l,H,hn,hs=>by
  rw [List.nodup_cons] at hn
  have hx:x∈H:=hs x (by simp)
  have h1:=sum_sub (f:=f) l (H.erase x) hn.2 (fun y hy=>(List.mem_erase_of_ne (fun e=>by subst e;exact hn.1 hy)).2 (hs y (by simp [hy])))
  have h2:=((List.perm_cons_erase hx).map f).sum_nat
  simp only [List.map_cons,List.sum_cons] at h2 ⊢
  omega
section
variable {w w' :World} {s N:Nat} {F:Nat→Prop} {R:Nat→Option (List Nat)} {H:List Nat} {P q most last G n:Nat}
theorem StoreIs.dom(h:StoreIs w s F R H P q most last G)(x:Nat):x∈H↔R x≠none:=by
 obtain⟨a,ha,t,v,L,mem,sl,Fh,h⟩:=h
 constructor
 · intro hx
   obtain⟨k,nm⟩:=(h.inH x).1 hx
   obtain⟨ws,h1,_⟩:=h.link x k nm
   rw [h1];simp
 · intro hx
   by_cases hm:x∈H
   · exact hm
   · exact absurd (h.none' x hm) hx
theorem StoreIs.nodup(h:StoreIs w s F R H P q most last G):H.Nodup:=by
 obtain⟨a,ha,t,v,L,mem,sl,Fh,h⟩:=h
 exact h.nodup
theorem BT.hs_in: ∀(t:BT),t.At R→ ∀x∈t.hs,R x≠none
 | .nil,_,x,hx=>by simp [BT.hs] at hx
 | .node h kh vh m k v l r,ht,x,hx=>by
   obtain⟨h1,h2,h3,h4,h5,h6,hl,hr⟩:=ht
   simp only [BT.hs,List.mem_append,List.mem_cons] at hx
   rcases hx with hx|rfl|rfl|rfl|hx
   · exact BT.hs_in l hl x hx
   · rw [h2];simp
   · rw [h3];simp
   · rw [h4];simp
   · exact BT.hs_in r hr x hx
end
end Go.Proofs.YtjcpclcmnhpgpaaGreatDoor
