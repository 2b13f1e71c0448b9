/-
  The seat's own texts, part q: Prs, Prs2, Prs3, Grow, BnW1, Box, Row, AvM, AvW1, AvW2.
-/
import Derived.Test.YthcmecokejemcaaGreatDoorWMp
import Derived.Laws.AppendOwnNone
import Derived.Maps.AppendAt
import Derived.Deep.QuietTactic
import Derived.BigQuiet
import Derived.Deep.DeepMust
import Derived.StillTail
set_option linter.unusedSimpArgs false
set_option linter.unusedVariables false
set_option maxHeartbeats 2000000
namespace Go.Proofs.YthcmecokejemcaaGreatDoor
open Go.RowKit Go.Shelf
abbrev Pr:=ByteArray × ByteArray
def prsV(l:List Pr):List Value:=l.flatMap fun p=> [.string p.1, .string p.2]
theorem prsV_at: ∀(l:List Pr) (k:Nat) (h:k<l.length),(prsV l)[k*2]? =some (.string l[k].1)∧(prsV l)[k*2+1]? =some (.string l[k].2)
 |p::l,0,_=>⟨rfl,rfl⟩
 |p::l,k+1,h=>by
  have:=prsV_at l k (by simpa using h)
  rw [show(k+1)*2=k*2+2 by omega]
  exact this
theorem prsV_drop: ∀(l:List Pr) (k:Nat),prsV (l.drop k)=(prsV l).drop (k*2)
 | [],k=>by simp [prsV]
 |p::l,0=>by simp
 |p::l,k+1=>by
  rw [List.drop_succ_cons,prsV_drop l k,show(k+1)*2=k*2+2 by omega]
  rfl
theorem prsV_take: ∀(l:List Pr) (k:Nat),prsV (l.take k)=(prsV l).take (k*2)
 | [],k=>by simp [prsV]
 |p::l,0=>by simp [prsV]
 |p::l,k+1=>by
  rw [List.take_succ_cons,show(k+1)*2=k*2+2 by omega]
  show [Value.string p.1,Value.string p.2]++prsV (l.take k)=_
  rw [prsV_take l k]
  rfl
def Prs(w:World)(B:Nat)(A:Option Addr)(l:List Pr):Prop:=
 l= []∨ ∃b o,A=some ⟨b,o,none⟩∧b<B∧ ∀j u,(prsV l)[j]? =some u→w.cell? ⟨b,o+j,none⟩=some u
section
variable {w w' :World} {B B' :Nat} {A:Option Addr} {l:List Pr}
theorem Prs.nil(w:World)(B:Nat)(A:Option Addr):Prs w B A []:= .inl rfl
theorem Prs.keep(h:Prs w B A l)(hk: ∀b,b<B→w'.heap[b]? =w.heap[b]?):Prs w' B A l:=by
 rcases h with h|⟨b,o,rfl,hb,hc⟩
 · exact .inl h
 · exact .inr ⟨b,o,rfl,hb,fun j u hu=>(World.cell?_of_block (a:=⟨b,o+j,none⟩) (hk b hb)).trans (hc j u hu)⟩
theorem Prs.below(h:Prs w B A l)(hb:Below B w w'):Prs w' B A l:=h.keep fun b hlt=>hb.block b hlt
theorem Prs.more(h:Prs w B A l)(hB:B≤B'):Prs w B' A l:=by
 rcases h with h|⟨b,o,rfl,hb,hc⟩
 · exact .inl h
 · exact .inr ⟨b,o,rfl,by omega,hc⟩
theorem Prs.at' (h:Prs w B A l){k:Nat}(hk:k<l.length): ∃b o,A=some ⟨b,o,none⟩∧b<B∧w.cell? ⟨b,o+k*2,none⟩=some (.string l[k].1)∧w.cell? ⟨b,o+k*2+1,none⟩=some (.string l[k].2):=by
 rcases h with rfl|⟨b,o,rfl,hb,hc⟩
 · simp at hk
 · obtain⟨h1,h2⟩:=prsV_at l k hk
   exact⟨b,o,rfl,hb,hc _ _ h1,by rw [Nat.add_assoc];exact hc _ _ h2⟩
theorem Prs.take(h:Prs w B A l)(k:Nat):Prs w B A (l.take k):=by
 rcases h with rfl|⟨b,o,rfl,hb,hc⟩
 · left;simp
 · refine .inr ⟨b,o,rfl,hb,fun j u hu=>hc j u ?_⟩
   rw [prsV_take,List.getElem?_take] at hu
   split at hu
   · exact hu
   · cases hu
theorem Prs.drop(h:Prs w B A l){k c:Nat}(hk:k≤l.length)(hc:l.length≤c):Prs w B (if c=k then A else A.map (·.add (k*2))) (l.drop k):=by
 by_cases he:k=l.length
 · subst he;left;simp
 · rcases h with rfl|⟨b,o,rfl,hb,hcell⟩
   · left;simp
   · rw [if_neg (by omega)]
     refine .inr ⟨b,o+k*2, ?_,hb,fun j u hu=> ?_⟩
     · show some ((⟨b,o,none⟩:Addr).add (k*2))=_
       unfold Addr.add;split<;>simp_all
     · rw [Nat.add_assoc]
       refine hcell _ _ ?_
       rw [prsV_drop,List.getElem?_drop] at hu
       exact hu
end
def Sized(l:List Pr):Prop:= ∀p∈l,p.1.size≤9223372036854775807∧p.2.size≤9223372036854775807
theorem str_beq(a b:ByteArray):(a.toList==b.toList)=decide (a=b):=by
 rw [Tx.cmp_beq,Bool.eq_iff_iff,beq_iff_eq,decide_eq_true_iff,cmp_zero]
def putL(l:List Pr)(p:Pr):List Pr:=l.take (rankL l p.1)++p::l.drop (if (l[rankL l p.1]?).map (·.1)=some p.1 then rankL l p.1+1 else rankL l p.1)
theorem putL_mem{l:List Pr}{p q:Pr}(h:q∈putL l p):q=p∨q∈l:=by
 unfold putL at h
 rcases List.mem_append.1 h with h|h
 · exact .inr (List.mem_of_mem_take h)
 · rcases List.mem_cons.1 h with h|h
   · exact .inl h
   · exact .inr (List.mem_of_mem_drop h)
theorem Sized.put{l:List Pr}{p:Pr}(h:Sized l)(hp:p.1.size≤9223372036854775807∧p.2.size≤9223372036854775807):Sized (putL l p):=fun q hq=>by
 rcases putL_mem hq with rfl|hq
 · exact hp
 · exact h q hq
theorem own2_lt{w:World}{base:Nat}{e:TypeId}{v:Value}{n:Nat}{xs:List Value}(h:w.ownsRow base e 2 v n xs){k:Nat}(hk:v.ownBlock=some k):base≤k∧k<w.heap.size:=by
 rcases h.2 with ⟨rfl,_⟩|⟨g,cap,cur,rfl,h2,h3,_⟩
 · simp [Value.ownBlock] at hk
 · have:g=k:=by simpa [Value.ownBlock] using hk
   subst this
   exact⟨h2,(Array.getElem?_eq_some_iff.1 h3).1⟩
theorem Sized.take{l:List Pr}(h:Sized l)(k:Nat):Sized (l.take k):=fun q hq=>h q (List.mem_of_mem_take hq)
def longL(l:List Pr):Bool:=l.any fun p=>decide (1000<p.1.size)||decide (1000<p.2.size)
set_option maxRecDepth 100000 in
theorem refLong_at{w:World}{B c:Nat}{A:Option Addr}{l:List Pr}(h:Prs w B A l)(hl:l.length≤9223372036854775807)(hs:Sized l):
 Calls Tryz.prog 16 #[.slice A l.length c] w fun e w' =>e= .returned (.bool (longL l))∧w=w' :=by
 have hH:=Lib.hid h
 have hsH:=Lib.hid hs
 obtain⟨z,hz⟩: ∃z,longL l=z:=⟨_,rfl⟩
 have hzH:=Lib.hid hz
 rw [hz]
 clear h hs hz
 go_enter Tryz.func16,Tryz.ntmps16
 go_wp2_with fail
 go_loopw [3] (fun iv wr=> ∃k:Nat,k≤l.length∧iv= .int .i64 k∧wr=w∧Hid (longL (l.take k)=false)) (fun iv _=>l.length-(intOf iv).toNat)
 case atStart=>exact⟨0,by omega,rfl,rfl,Lib.hid rfl⟩
 case round=>
  obtain⟨k,hk,rfl,rfl,hno⟩:=hrel
  by_cases hlt:k<l.length
  · obtain⟨b,o,hA,_,c1,c2⟩:=hH.out.at' hlt
    obtain⟨hp1,hp2⟩:=hsH.out _ (List.getElem_mem hlt)
    have hsn:Hid (longL (l.take (k+1))=(longL (l.take k)||(decide (1000<l[k].1.size)||decide (1000<l[k].2.size)))):=Lib.hid (by
     unfold longL
     rw [List.take_succ_eq_append_getElem hlt,List.any_append]
     simp)
    have hall:Hid (∀p,p=l[k]→(1000<p.1.size∨1000<p.2.size)→z=true):=Lib.hid (fun p hp hq=>by
     rw [←hzH.out]
     unfold longL
     rw [List.any_eq_true]
     exact⟨p,by rw [hp];exact List.getElem_mem hlt,by simpa using hq⟩)
    generalize l[k]=p at*
    subst hA
    by_cases h1:1000<p.1.size
    · have hz1:=Lib.hid (hall.out p rfl (.inl h1))
      go_wp2
      go_ret
      exact⟨by rw [hz1.out];rfl,rfl⟩
    · by_cases h2:1000<p.2.size
      · have hz1:=Lib.hid (hall.out p rfl (.inr h2))
        go_wp2
        go_ret
        exact⟨by rw [hz1.out];rfl,rfl⟩
      · go_wp2
        go_roundw
        case rel=>exact⟨k+1,by omega,by go_num,trivial,Lib.hid (by rw [hsn.out,hno.out];simp [h1,h2])⟩
        case measure=>simp [intOf];omega
  · obtain rfl:k=l.length:=by omega
    have hz1:Hid (z=false):=Lib.hid (by rw [←hzH.out,←hno.out,List.take_length])
    go_wp2
    go_ret
    exact⟨by rw [hz1.out];rfl,rfl⟩
structure GrowOut(R R' :Nat→Option (List Nat))(t:BT):Prop where
 at' :t.At R'
 nodup:t.hs.Nodup
 fresh: ∀x∈t.hs,R x=none
 old: ∀x,x∉t.hs→R' x=R x
 nz: ∀x∈t.hs,x≠0
theorem BT.At.congr{R R' :Nat→Option (List Nat)}: ∀{t:BT},t.At R→(∀x∈t.hs,R' x=R x)→t.At R'
 | .nil,_,_=>trivial
 | .node h kh vh m k v l r,⟨h1,h2,h3,h4,h5,h6,hl,hr⟩,he=>by
   simp only [BT.hs,List.mem_append,List.mem_cons] at he
   exact⟨h1,(he h (by simp)).trans h2,(he kh (by simp)).trans h3,(he vh (by simp)).trans h4,h5,h6,hl.congr (fun x hx=>he x (.inl hx)),hr.congr (fun x hx=>he x (.inr (.inr (.inr (.inr hx)))))⟩
theorem GrowOut.nil(R:Nat→Option (List Nat)):GrowOut R R .nil:=⟨trivial,List.nodup_nil,fun x hx=>by simp [BT.hs] at hx,fun x _=>rfl,fun x hx=>by simp [BT.hs] at hx⟩
theorem GrowOut.some{R R' :Nat→Option (List Nat)}{t:BT}(g:GrowOut R R' t){x:Nat}(hx:x∈t.hs):R' x≠none:=BT.hs_in t g.at' x hx
theorem GrowOut.keep{R R' :Nat→Option (List Nat)}{t:BT}(g:GrowOut R R' t){x:Nat}(hx:R x≠none):R' x=R x:=g.old x (fun h=>hx (g.fresh x h))
def CellsF(w:World)(F:Nat→Prop)(A:Option Addr)(vs:List Value):Prop:=
 vs= []∨ ∃b o,A=some ⟨b,o,none⟩∧b<w.heap.size∧ ¬F b∧ ∀j u,vs[j]? =some u→w.cell? ⟨b,o+j,none⟩=some u
section
variable {w w' :World} {F F' :Nat→Prop} {A:Option Addr} {vs:List Value}
theorem CellsF.turn(h:CellsF w F A vs)(ht:Turn w F w' F'):CellsF w' F' A vs:=by
 rcases h with h|⟨b,o,h1,h2,h3,h4⟩
 · exact .inl h
 · exact .inr ⟨b,o,h1,Nat.lt_of_lt_of_le h2 ht.size,ht.not h2 h3,fun j u hu=>ht.cell (h4 j u hu) h3⟩
theorem CellsF.at' (h:CellsF w F A vs){k:Nat}{u:Value}(hk:vs[k]? =some u): ∃b o,A=some ⟨b,o,none⟩∧w.cell? ⟨b,o+k,none⟩=some u:=by
 rcases h with rfl|⟨b,o,h1,h2,h3,h4⟩
 · simp at hk
 · exact⟨b,o,h1,h4 k u hk⟩
theorem CellsF.take(h:CellsF w F A vs)(k:Nat):CellsF w F A (vs.take k):=by
 rcases h with rfl|⟨b,o,h1,h2,h3,h4⟩
 · left;simp
 · refine .inr ⟨b,o,h1,h2,h3,fun j u hu=>h4 j u ?_⟩
   rw [List.getElem?_take] at hu
   split at hu
   · exact hu
   · cases hu
theorem CellsF.pairs{l:List Pr}(h:CellsF w F A (prsV l)){k:Nat}(hk:k<l.length): ∃b o,A=some ⟨b,o,none⟩∧w.cell? ⟨b,o+k*2,none⟩=some (.string l[k].1)∧w.cell? ⟨b,o+k*2+1,none⟩=some (.string l[k].2):=by
 obtain⟨h1,h2⟩:=prsV_at l k hk
 obtain⟨b,o,e,hc⟩:=h.at' h1
 obtain⟨b',o',e',hc'⟩:=h.at' h2
 rw [e] at e'
 cases e'
 exact⟨b,o,e,hc,by rw [Nat.add_assoc];exact hc'⟩
end
theorem StoreIs.more{w:World}{s:Nat}{F:Nat→Prop}{R:Nat→Option (List Nat)}{H:List Nat}{P P' q most last G G' :Nat}(h:StoreIs w s F R H P q most last G)(hP:P≤P')(hG:G≤G'):StoreIs w s F R H P' q most last G' :=by
 obtain⟨a,ha,t,v,L,mem,sl,Fh,h⟩:=h
 exact⟨a,ha,t,v,L,mem,sl,Fh,{ h with pages:=Nat.le_trans h.pages hP,gens:=fun x hx=>Nat.le_trans (h.gens x hx) hG }⟩
theorem pgsN_le{n:Nat}(h:n≤128):pgsN n≤3:=by unfold pgsN;split<;>omega
theorem words_le{b:ByteArray}(h:b.size≤1000):(Tx.wordsL b.data.toList).length≤126:=by
 rw [Tx.wordsL_length,Tx.size_list]
 unfold Tx.many
 omega
set_option maxRecDepth 100000 in
theorem bnIs_at(t:Int)(w:World):Calls Tryz.prog 44 #[.int .i64 t] w fun e w' =>e= .returned (.bool (decide (2≤t)&&decide (t≤16)))∧w=w' :=by
 by_cases h1:2≤t
 · have d1:decide (2≤t)=true:=decide_eq_true h1
   go_enter Tryz.func44,Tryz.ntmps44
   go_wp2
   go_ret
   exact⟨by rw [d1];rfl,rfl⟩
 · have d1:decide (2≤t)=false:=decide_eq_false h1
   go_enter Tryz.func44,Tryz.ntmps44
   go_wp2
   go_ret
   exact⟨rfl,rfl⟩
theorem bnIs_yes{t:Nat}(h:BN.Deg t)(w:World):Calls Tryz.prog 44 #[.int .i64 (t:Nat)] w fun e w' =>e= .returned (.bool true)∧w=w' :=by
 have:=bnIs_at (t:Nat) w
 rw [decide_eq_true (by have:=h.1;omega:(2:Int)≤(t:Nat)),decide_eq_true (by have:=h.2;omega:((t:Nat):Int)≤16)] at this
 exact this
theorem bnIs_no{t:Int}(h:t<2∨16<t)(w:World):Calls Tryz.prog 44 #[.int .i64 t] w fun e w' =>e= .returned (.bool false)∧w=w' :=by
 have:=bnIs_at t w
 rw [show(decide (2≤t)&&decide (t≤16))=false by rcases h with h|h<;>simp<;>omega] at this
 exact this
set_option maxRecDepth 100000 in
theorem bnWords_yes{t:Nat}(h:BN.Deg t)(w:World):Calls Tryz.prog 55 #[.int .i64 (t:Nat)] w fun e w' =>e= .returned (.int .i64 (6*t:Nat))∧w=w' :=by
 have hI:=Lib.hid (bnIs_yes h w)
 have h2:=h.2
 clear h
 go_enter Tryz.func55,Tryz.ntmps55
 go_wp2_with fail
 refine hI.out.mono ?_
 rintro e w1 ⟨rfl,rfl⟩
 go_wp2
 go_ret
 exact⟨by simp,rfl⟩
set_option maxRecDepth 100000 in
theorem bnWords_no{t:Int}(h:t<2∨16<t)(w:World):Calls Tryz.prog 55 #[.int .i64 t] w fun e w' =>e= .returned (.int .i64 0)∧w=w' :=by
 have hI:=Lib.hid (bnIs_no h w)
 clear h
 go_enter Tryz.func55,Tryz.ntmps55
 go_wp2_with fail
 refine hI.out.mono ?_
 rintro e w1 ⟨rfl,rfl⟩
 go_wp2
 go_ret
 exact⟨rfl,rfl⟩
theorem hsV_len(l:List Nat):(hsV l).length=l.length:=by simp [hsV]
theorem hsV_get{l:List Nat}{k:Nat}(h:k<l.length):(hsV l)[k]? =some (.int .u64 (l[k]:Nat)):=by simp [hsV,h]
set_option maxRecDepth 100000 in
theorem slIdx_at{w:World}{F:Nat→Prop}{A:Option Addr}{c:Nat}{l:List Nat}(h:CellsF w F A (hsV l))(hl:l.length≤4398046511104)(x:Nat):
 Calls Tryz.prog 104 #[.slice A l.length c, .int .u64 (x:Nat)] w fun e w' =>(∃z:Int,e= .returned (.int .i64 z)∧(0≤z↔x∈l))∧w=w' :=by
 have hH:=Lib.hid h
 clear h
 go_enter Tryz.func104,Tryz.ntmps104
 go_wp2_with fail
 go_loopw [8] (fun iv wr=> ∃k:Nat,k≤l.length∧iv= .int .i64 k∧wr=w∧Hid (x∉l.take k)) (fun iv _=>l.length-(intOf iv).toNat)
 case atStart=>exact⟨0,by omega,rfl,rfl,Lib.hid (by simp)⟩
 case round=>
  obtain⟨k,hk,rfl,rfl,hno⟩:=hrel
  by_cases hlt:k<l.length
  · obtain⟨b,o,hA,c1⟩:=hH.out.at' (hsV_get hlt)
    have hsn:Hid (l.take (k+1)=l.take k++ [l[k]]):=Lib.hid (List.take_succ_eq_append_getElem hlt)
    have hmem:Hid (l[k]∈l):=Lib.hid (List.getElem_mem hlt)
    generalize l[k]=y at*
    subst hA
    by_cases hxy:x=y
    · have d:((x:Int)==(y:Int))=true:=by simp [hxy]
      go_wp2
      go_ret
      exact⟨⟨_,rfl,⟨fun _=>by rw [hxy];exact hmem.out,fun _=>by omega⟩⟩,rfl⟩
    · have d:((x:Int)==(y:Int))=false:=by simp;omega
      go_wp2
      go_roundw
      case rel=>exact⟨k+1,by omega,by go_num,by first|rfl|trivial,Lib.hid (by rw [hsn.out];simp only [List.mem_append,List.mem_singleton,not_or];exact⟨hno.out,hxy⟩)⟩
      case measure=>simp [intOf];omega
  · obtain rfl:k=l.length:=by omega
    have hno2:Hid (x∉l):=Lib.hid (by have:=hno.out;rwa [List.take_length] at this)
    go_wp2
    go_ret
    exact⟨⟨_,rfl,⟨fun h=>by omega,fun h=>absurd h hno2.out⟩⟩,rfl⟩
set_option maxRecDepth 100000 in
theorem slHas_at{w:World}{F:Nat→Prop}{A:Option Addr}{c:Nat}{l:List Nat}(h:CellsF w F A (hsV l))(hl:l.length≤4398046511104)(x:Nat):
 Calls Tryz.prog 73 #[.slice A l.length c, .int .u64 (x:Nat)] w fun e w' =>e= .returned (.bool (decide (x∈l)))∧w=w' :=by
 have hI:=Lib.hid (slIdx_at (c:=c) h hl x)
 clear h
 go_enter Tryz.func73,Tryz.ntmps73
 go_wp2_with fail
 refine hI.out.mono ?_
 rintro e w1 ⟨⟨z,rfl,hz⟩,rfl⟩
 have hzH:=Lib.hid hz
 clear hz hI
 go_wp2
 go_ret
 exact⟨by congr 2;simp [hzH.out],rfl⟩
structure BNV(w:World)(F:Nat→Prop)(v:Value)(n:BN):Prop where
 form: ∃Ak ck Av cv Ai ci,v= .agg #[.slice Ak n.keys.length ck, .slice Av n.vals.length cv, .slice Ai n.kids.length ci, .int .u64 (n.size:Nat)]∧CellsF w F Ak (hsV n.keys)∧CellsF w F Av (hsV n.vals)∧CellsF w F Ai (hsV n.kids)
 lens:n.keys.length≤4398046511104∧n.vals.length≤4398046511104∧n.kids.length≤4398046511104
theorem BNV.turn{w w' :World}{F F' :Nat→Prop}{v:Value}{n:BN}(h:BNV w F v n)(hT:Turn w F w' F'):BNV w' F' v n:=by
 obtain⟨⟨Ak,ck,Av,cv,Ai,ci,h1,h2,h3,h4⟩,h5⟩:=h
 exact⟨⟨Ak,ck,Av,cv,Ai,ci,h1,h2.turn hT,h3.turn hT,h4.turn hT⟩,h5⟩
set_option maxRecDepth 100000 in
theorem bnFits_at{w:World}{F:Nat→Prop}{v:Value}{n:BN}(h:BNV w F v n)(t:Nat)(ht:BN.Deg t):
 Calls Tryz.prog 47 #[.int .i64 (t:Nat),v] w fun e w' =>e= .returned (.bool (decide (n.Fits t)))∧Below w.heap.size w w' :=by
 obtain⟨⟨Ak,ck,Av,cv,Ai,ci,rfl,h1,h2,h3⟩,l1,l2,l3⟩:=h
 have hb0:Below w.heap.size w (w.alloc (Obj.cells #[.slice Ak n.keys.length ck, .slice Av n.vals.length cv, .slice Ai n.kids.length ci, .int .u64 (n.size:Nat)] 48)):=(Below.refl _ w).alloc (Nat.le_refl _) _
 have hI:=Lib.hid (bnIs_yes ht (w.alloc (Obj.cells #[.slice Ak n.keys.length ck, .slice Av n.vals.length cv, .slice Ai n.kids.length ci, .int .u64 (n.size:Nat)] 48)))
 have hC:=Lib.hid (slHas_at (c:=ci) (h3.turn (Turn.below (F:=F) hb0)) l3 0)
 have hb0H:=Lib.hid hb0
 have t2:=ht.2
 have t1:=ht.1
 have hfin:Hid (∀b:Bool,(b=true↔(n.kids= []∨(n.kids.length=n.keys.length+1∧0∉n.kids)))→(decide (n.Fits t))=(decide (n.keys.length≤2*t-1)&&(decide (n.vals.length=n.keys.length)&&b))):=Lib.hid (fun b hb=>by
  rw [Bool.eq_iff_iff,decide_eq_true_iff,Bool.and_eq_true,Bool.and_eq_true,decide_eq_true_iff,decide_eq_true_iff,hb]
  exact Iff.rfl)
 clear h1 h2 h3 hb0
 by_cases k0:n.kids= []
 · have hz:Hid ((true=true)↔(n.kids= []∨(n.kids.length=n.keys.length+1∧0∉n.kids))):=Lib.hid (by simp [k0])
   have hfin2:=Lib.hid (hfin.out true hz.out)
   have e0:n.kids.length=0:=by rw [k0];rfl
   rw [hfin2.out,e0]
   rw [e0] at hI hC hb0H
   clear hfin hfin2 hz k0
   generalize n.keys.length=nk at*
   generalize n.vals.length=nv at*
   have d1:decide (nk≤2*t-1)=decide ((nk:Int)≤2*(t:Int)-1):=by congr 1;simp;omega
   rw [d1]
   clear d1
   by_cases c1:(nk:Int)≤2*(t:Int)-1
   · have d2:=decide_eq_true c1
     by_cases c2:nv=nk
     · subst c2
       have d3:((nv:Int)==(nv:Int))=true:=by simp
       go_enter Tryz.func47,Tryz.ntmps47
       go_wp2_with fail
       refine hI.out.mono ?_
       rintro e w1 ⟨rfl,rfl⟩
       go_wp2
       go_ret
       exact⟨by first|(simp [c1];done)|(simp [c1,c2];done)|(simp;omega)|(simp;intro h;omega),hb0H.out⟩
     · have d3:((nv:Int)==(nk:Int))=false:=by simp;omega
       go_enter Tryz.func47,Tryz.ntmps47
       go_wp2_with fail
       refine hI.out.mono ?_
       rintro e w1 ⟨rfl,rfl⟩
       go_wp2
       go_ret
       exact⟨by first|(simp [c1];done)|(simp [c1,c2];done)|(simp;omega)|(simp;intro h;omega),hb0H.out⟩
   · have d2:=decide_eq_false c1
     go_enter Tryz.func47,Tryz.ntmps47
     go_wp2_with fail
     refine hI.out.mono ?_
     rintro e w1 ⟨rfl,rfl⟩
     go_wp2
     go_ret
     exact⟨by first|(simp [c1];done)|(simp [c1,c2];done)|(simp;omega)|(simp;intro h;omega),hb0H.out⟩
 · have e0:(((n.kids.length:Nat):Int)==0)=false:=by
    have:n.kids.length≠0:=fun e=>k0 (List.eq_nil_of_length_eq_zero e)
    simp;omega
   by_cases k1:n.kids.length=n.keys.length+1
   · have e1:(((n.kids.length:Nat):Int)==((n.keys.length:Nat):Int)+1)=true:=by simp;omega
     have hz:Hid ((decide (0∉n.kids))=true↔(n.kids= []∨(n.kids.length=n.keys.length+1∧0∉n.kids))):=Lib.hid (by simp [k0,k1])
     have hfin2:=Lib.hid (hfin.out _ hz.out)
     rw [hfin2.out]
     have hk9:(decide (0∉n.kids))= !(decide (0∈n.kids)):=by simp
     rw [hk9]
     clear hfin hfin2 hz k0 hk9
     generalize decide (0∈n.kids)=z0 at*
     generalize n.kids.length=ni at*
     generalize n.keys.length=nk at*
     generalize n.vals.length=nv at*
     subst k1
     have d1:decide (nk≤2*t-1)=decide ((nk:Int)≤2*(t:Int)-1):=by congr 1;simp;omega
     rw [d1]
     clear d1
     by_cases c1:(nk:Int)≤2*(t:Int)-1
     · have d2:=decide_eq_true c1
       by_cases c2:nv=nk
       · subst c2
         have d3:((nv:Int)==(nv:Int))=true:=by simp
         cases z0
         all_goals
          go_enter Tryz.func47,Tryz.ntmps47
          go_wp2_with fail
          refine hC.out.mono ?_
          rintro e w1 ⟨rfl,rfl⟩
          go_wp2_with fail
          refine hI.out.mono ?_
          rintro e w1 ⟨rfl,rfl⟩
          go_wp2
          go_ret
          exact⟨by first|(simp [c1];done)|(simp [c1,c2];done)|(simp;omega)|(simp;intro h;omega),hb0H.out⟩
       · have d3:((nv:Int)==(nk:Int))=false:=by simp;omega
         cases z0
         all_goals
          go_enter Tryz.func47,Tryz.ntmps47
          go_wp2_with fail
          refine hC.out.mono ?_
          rintro e w1 ⟨rfl,rfl⟩
          go_wp2_with fail
          refine hI.out.mono ?_
          rintro e w1 ⟨rfl,rfl⟩
          go_wp2
          go_ret
          exact⟨by first|(simp [c1];done)|(simp [c1,c2];done)|(simp;omega)|(simp;intro h;omega),hb0H.out⟩
     · have d2:=decide_eq_false c1
       cases z0
       all_goals
        go_enter Tryz.func47,Tryz.ntmps47
        go_wp2_with fail
        refine hC.out.mono ?_
        rintro e w1 ⟨rfl,rfl⟩
        go_wp2_with fail
        refine hI.out.mono ?_
        rintro e w1 ⟨rfl,rfl⟩
        go_wp2
        go_ret
        exact⟨by first|(simp [c1];done)|(simp [c1,c2];done)|(simp;omega)|(simp;intro h;omega),hb0H.out⟩
   · have e1:(((n.kids.length:Nat):Int)==((n.keys.length:Nat):Int)+1)=false:=by simp;omega
     have hz:Hid ((false=true)↔(n.kids= []∨(n.kids.length=n.keys.length+1∧0∉n.kids))):=Lib.hid (by simp [k0,k1])
     have hfin2:=Lib.hid (hfin.out false hz.out)
     rw [hfin2.out]
     clear hfin hfin2 hz k0 hC
     generalize n.kids.length=ni at*
     generalize n.keys.length=nk at*
     generalize n.vals.length=nv at*
     have d1:decide (nk≤2*t-1)=decide ((nk:Int)≤2*(t:Int)-1):=by congr 1;simp;omega
     rw [d1]
     clear d1
     by_cases c1:(nk:Int)≤2*(t:Int)-1
     · have d2:=decide_eq_true c1
       by_cases c2:nv=nk
       · subst c2
         have d3:((nv:Int)==(nv:Int))=true:=by simp
         go_enter Tryz.func47,Tryz.ntmps47
         go_wp2_with fail
         refine hI.out.mono ?_
         rintro e w1 ⟨rfl,rfl⟩
         go_wp2
         go_ret
         exact⟨by first|(simp [c1];done)|(simp [c1,c2];done)|(simp;omega)|(simp;intro h;omega),hb0H.out⟩
       · have d3:((nv:Int)==(nk:Int))=false:=by simp;omega
         go_enter Tryz.func47,Tryz.ntmps47
         go_wp2_with fail
         refine hI.out.mono ?_
         rintro e w1 ⟨rfl,rfl⟩
         go_wp2
         go_ret
         exact⟨by first|(simp [c1];done)|(simp [c1,c2];done)|(simp;omega)|(simp;intro h;omega),hb0H.out⟩
     · have d2:=decide_eq_false c1
       go_enter Tryz.func47,Tryz.ntmps47
       go_wp2_with fail
       refine hI.out.mono ?_
       rintro e w1 ⟨rfl,rfl⟩
       go_wp2
       go_ret
       exact⟨by first|(simp [c1];done)|(simp [c1,c2];done)|(simp;omega)|(simp;intro h;omega),hb0H.out⟩
def Box(W:World)(b:Nat)(t:TypeId)(vs:List Value):Prop:=W.rowIs b t vs.length (fun i=>vs[i]?.getD undef)
theorem Box.new(W:World)(t:TypeId)(vs:List Value):Box (W.alloc (Obj.cells vs.toArray t)) W.heap.size t vs:=by
 have:=World.rowIs_alloc W vs.toArray t (fun i=>vs[i]?.getD undef) (fun i hi=>by
  simp only [List.size_toArray] at hi
  rw [List.getElem?_toArray,List.getElem?_eq_getElem hi]
  rfl)
 rw [List.size_toArray] at this
 exact this
section
variable {W W' :World} {b:Nat} {t:TypeId} {vs:List Value}
theorem Box.lt(h:Box W b t vs):b<W.heap.size:=by
 obtain⟨c,h1,_⟩:=h
 exact(Array.getElem?_eq_some_iff.1 h1).1
theorem Box.block(h:Box W b t vs)(hk:W'.heap[b]? =W.heap[b]?):Box W' b t vs:=rowIs_keep h hk
theorem Box.below(h:Box W b t vs)(hb:Below W.heap.size W W'):Box W' b t vs:=h.block (hb.block b h.lt)
theorem Box.turn{F F' :Nat→Prop}(h:Box W b t vs)(ht:Turn W F W' F')(hF: ¬F b):Box W' b t vs:=h.block (ht.keep b h.lt hF)
theorem Box.at' (h:Box W b t vs){i:Nat}{v:Value}(hi:vs[i]? =some v):W.cell? ⟨b,i,none⟩=some v:=by
 have hl:i<vs.length:=(List.getElem?_eq_some_iff.1 hi).1
 have:=h.cell hl
 simp only [hi,Option.getD_some] at this
 exact this
theorem Box.free(h:Box W b t vs)(i:Nat):W.frozen? ⟨b,i,none⟩=false:=h.frozen i
theorem Box.set(h:Box W b t vs)(i:Nat)(v:Value):Box (W.setCell ⟨b,i,none⟩ v) b t (vs.set i v):=by
 have h1:=World.rowIs.set h i v
 unfold Box
 rw [List.length_set]
 refine h1.congr fun j hj=> ?_
 by_cases e:j=i
 · subst e
   simp only [if_true]
   rw [List.getElem?_set_self hj]
   rfl
 · simp only [if_neg e]
   rw [List.getElem?_set_ne (fun e' =>e e'.symm)]
theorem Box.other(h:Box W b t vs){p:Addr}(hp:b≠p.block)(v:Value):Box (W.setCell p v) b t vs:=World.rowIs.setOther h hp v
end
theorem Box.alloc{W:World}{b:Nat}{t:TypeId}{vs:List Value}(h:Box W b t vs)(o:Obj):Box (W.alloc o) b t vs:=h.below ((Below.refl _ W).alloc (Nat.le_refl _) o)
end Go.Proofs.YthcmecokejemcaaGreatDoor
namespace Go.Proofs.YthcmecokejemcaaGreatDoor
open Go Go.RowKit
section
variable {P:Program} {ops:Array Oper} {md:Region.Mode} {Q:Exit→Act→World→Prop} {C:World→Prop}
def YieldsW(P:Program)(ops:Array Oper)(C:World→Prop)(o:Oper)(v:Value)(a:Act):Prop:=
 (Region.wanted o (yielded ops a.tmps)=true∧ ∀w,C w→(execOp a.eval o).run P w= .ok (.value v) w)∨(Region.wanted o (yielded ops a.tmps)=false∧v=undef)
theorem YieldsW.of_same{o:Oper}{v:Value}{a a' :Act}(hy:YieldsW P ops C o v a)(he:execOp a'.eval o=execOp a.eval o)
 (hw:Region.wanted o (yielded ops a'.tmps)=Region.wanted o (yielded ops a.tmps)):YieldsW P ops C o v a' :=by
 rcases hy with ⟨h1,h2⟩|⟨h1,h2⟩
 · exact .inl ⟨hw.trans h1,fun w hc=>by rw [he];exact h2 w hc⟩
 · exact .inr ⟨hw.trans h1,h2⟩
theorem YieldsW.op{i:Nat}{o:Oper}{v:Value}{a:Act}(hi:ops[i]? =some o)(hy:YieldsW P ops C o v a){K:Act→World→Prop}{w:World}(hc:C w)(h:K (a.put o.dst v) w):wpOp P ops Q i K a w:=by
 unfold wpOp
 simp only [hi]
 rcases hy with ⟨h1,h2⟩|⟨h1,h2⟩
 · rw [if_pos h1]
   refine .inl ?_
   unfold Oper.wp
   rw [h2 w hc]
   exact h
 · rw [if_neg (by rw [h1];decide),←h2]
   exact h
theorem wpOp_putW{j:Nat}{oi oj:Oper}{v:Value}(hj:ops[j]? =some oj)(hap:oi.apart ops oj=true)
 (hsi: ∀cs b,oi.op≠ .select cs b) (hsj: ∀cs b,oj.op≠ .select cs b)
 (hQ: ∀c a w,Q (.panic c) (a.put oi.dst v) w→Q (.panic c) a w) {K:Act→World→Prop} {a:Act} {w:World}
 (hy:YieldsW P ops C oi v a) (h:wpOp P ops Q j K (a.put oi.dst v) w):
 wpOp P ops Q j (fun a' w' =>YieldsW P ops C oi v a' ∧K (a'.put oi.dst v) w') a w:=by
 obtain⟨h1,h2,h3⟩:=Oper.apart_spec hap
 have keep: ∀(a:Act),YieldsW P ops C oi v a→ ∀u,YieldsW P ops C oi v (a.put oj.dst u):=fun a hy u=>
  hy.of_same (execOp_put oi hsi a oj.dst u h3) (wanted_put oi a oj.dst u h3)
 have keepD: ∀d,YieldsW P ops C oi v { a with defers:=d::a.defers }:=fun d=>hy.of_same rfl rfl
 unfold wpOp at*
 simp only [hj] at*
 rw [wanted_put oj a oi.dst v h1] at h
 split
 · rename_i hw
   simp only [hw,if_true] at h
   rcases h with h|⟨hasks,hlets⟩
   case inr=>exact .inr ⟨by unfold Oper.asks at *; rw [execOp_put oj hsj a oi.dst v h1] at hasks;exact hasks,hlets⟩
   refine .inl ?_
   unfold Oper.wp at*
   rw [execOp_put oj hsj a oi.dst v h1] at h
   generalize (execOp a.eval oj).run P w=r at*
   cases r with
   |ok n w' =>
    cases n<;>simp only [Oper.upon] at h ⊢
    case value u=>exact⟨keep a hy u,by rw [←Act.put_comm a v u h2];exact h⟩
    case skip=>exact⟨keep a hy _,by rw [←Act.put_comm a v undef h2];exact h⟩
    case defer d=>
     refine⟨keep _ (keepD d) _, ?_⟩
     rw [←Act.put_comm _ v undef h2,←Act.put_defers]
     exact h
    case enter f args=>
     refine Calls.mono h fun e w'' he=> ?_
     cases e with
     |returned u=>exact⟨keep a hy u,by rw [←Act.put_comm a v u h2];exact he⟩
     |panicked c=>exact hQ _ _ _ he
     |outgrown=>exact he
    case row row args=>exact Rows.mono h fun u w'' he=>⟨keep a hy u,by rw [←Act.put_comm a v u h2];exact he⟩
   |halt x w' =>
    cases x<;>simp only [Oper.upon] at h ⊢
    case panic u=>exact hQ _ _ _ h
 · rename_i hw
   simp only [hw] at h
   exact⟨keep a hy _,by rw [←Act.put_comm a v undef h2];exact h⟩
def wpAnyW(P:Program)(md:Region.Mode)(ops:Array Oper)(Q:Exit→Act→World→Prop)(C:World→Prop):Nat→Array Bool→Act→World→Prop
 |0,listed,a,w=>Region.ready md ops listed= []∧Q .normal a w
 |f+1,listed,a,w=>
  (Region.ready md ops listed= []→Q .normal a w)∧
  ∀i∈Region.ready md ops listed,wpOp P ops Q i (fun a' w' =>C w' ∧wpAnyW P md ops Q C f (listed.setIfInBounds i true) a' w') a w
theorem wpAnyW.any: ∀(f:Nat) (listed:Array Bool) (a:Act) (w:World),wpAnyW P md ops Q C f listed a w→wpAny P md ops Q f listed a w
 |0,_,_,_,h=>h
 |f+1,listed,a,w,h=>⟨h.1,fun i hi=>wpOp_mono (fun a' w' h' =>wpAnyW.any f _ a' w' h'.2) (h.2 i hi)⟩
theorem wpAnyW_first{i:Nat}{oi:Oper}{v:Value}(hi:ops[i]? =some oi)(hsel: ∀(j:Nat) (o:Oper) cs b,ops[j]? =some o→o.op≠ .select cs b)
 (hQ: ∀c a w,Q (.panic c) (a.put oi.dst v) w→Q (.panic c) a w):
 ∀(f:Nat) (listed:Array Bool) (a:Act) (w:World),
  (∀j oj,ops[j]? =some oj→j≠i→listed.getD j true=false→(∀e∈oj.after,Region.binds md e=true→e.on≠i)→oi.apart ops oj=true)→
  i∈Region.ready md ops listed→YieldsW P ops C oi v a→C w→
  wpAnyW P md ops Q C f (listed.setIfInBounds i true) (a.put oi.dst v) w→wpAnyW P md ops Q C (f+1) listed a w:=by
 intro f
 induction f with
 |zero=>
  intro listed a w _ hr hy hC H
  refine⟨fun h=>(by rw [h] at hr;cases hr),fun j hj=> ?_⟩
  by_cases hji:j=i
  · subst hji;exact hy.op hi hC ⟨hC,H⟩
  · have:=ready_mono hj hji
    rw [H.1] at this
    cases this
 |succ f ih=>
  intro listed a w hfree hr hy hC H
  refine⟨fun h=>(by rw [h] at hr;cases hr),fun j hj=> ?_⟩
  by_cases hji:j=i
  · subst hji;exact hy.op hi hC ⟨hC,H⟩
  · have h1:=H.2 j (ready_mono hj hji)
    obtain⟨hjun,oj,hoj,hall⟩:=mem_ready.1 hj
    have hun:=(mem_ready.1 hr).1
    have hnot: ∀e∈oj.after,Region.binds md e=true→e.on≠i:=fun e he hb heq=>by
     have h1:=hall e he hb
     rw [heq,getD_both hun] at h1
     cases h1
    have h2:=wpOp_putW hoj (hfree j oj hoj hji hjun hnot) (fun cs b=>hsel i oi cs b hi) (fun cs b=>hsel j oj cs b hoj) hQ hy h1
    have hfree' : ∀k ok,ops[k]? =some ok→k≠i→(listed.setIfInBounds j true).getD k true=false→
     (∀e∈ok.after,Region.binds md e=true→e.on≠i)→oi.apart ops ok=true:=fun k ok hk hki hun' hno=>by
     refine hfree k ok hk hki ?_ hno
     by_cases hjk:j=k
     · subst hjk;exact hjun
     · rw [getD_set_ne true hjk] at hun';exact hun'
    refine wpOp_mono (fun a' w' h3=> ?_) h2
    refine⟨h3.2.1,ih (listed.setIfInBounds j true) a' w' hfree' (ready_mono hr (Ne.symm hji)) h3.1 h3.2.1 ?_⟩
    rw [Array.setIfInBounds_comm _ _ hji]
    exact h3.2.2
def rowB(md:Region.Mode)(ops:Array Oper):List Nat→Array Bool→Bool
 | [],listed=>(Region.ready md ops listed).isEmpty
 |k::ks,listed=>decide (Region.ready md ops listed= [k])&&rowB md ops ks (listed.setIfInBounds k true)
def headB(md:Region.Mode)(ops:Array Oper)(ks:List Nat):List Nat→Array Bool→Bool
 | [],listed=>rowB md ops ks listed
 |i::is,listed=>(Region.ready md ops listed).contains i&&Region.free md ops listed i&&headB md ops ks is (listed.setIfInBounds i true)
def Qr(K:Act→World→Prop)(Q:Exit→Act→World→Prop):Exit→Act→World→Prop
 | .normal,a,w=>K a w
 |e,a,w=>Q e a w
def wpReads(P:Program)(ops:Array Oper)(C:World→Prop)(L:Act→Prop):List Nat→Act→Prop
 | [],a=>L a
 |i::is,a=> ∃o v,ops[i]? =some o∧YieldsW P ops C o v a∧wpReads P ops C L is (a.put o.dst v)
def wpActs(P:Program)(ops:Array Oper)(Q:Exit→Act→World→Prop)(C:World→Prop):List Nat→Act→World→Prop
 | [],a,w=>Q .normal a w
 |k::ks,a,w=> ∃o,ops[k]? =some o∧wpList P ops (Qr (fun a' w' =>C w' ∧wpActs P ops Q C ks a' w') Q) [o] a w
theorem wpReads_nil{L:Act→Prop}{a:Act}(h:L a):wpReads P ops C L [] a:=h
theorem wpReads_step{L:Act→Prop}{i:Nat}{is:List Nat}{a:Act}(o:Oper)(v:Value)(hi:ops[i]? =some o)(h1:Region.wanted o (yielded ops a.tmps)=true)(h2: ∀w,C w→(execOp a.eval o).run P w= .ok (.value v) w)(h:wpReads P ops C L is (a.put o.dst v)):wpReads P ops C L (i::is) a:=
 ⟨o,v,hi, .inl ⟨h1,h2⟩,h⟩
theorem wpActs_nil{a:Act}{w:World}(h:Q .normal a w):wpActs P ops Q C [] a w:=h
theorem wpActs_step{k:Nat}{ks:List Nat}{a:Act}{w:World}(o:Oper)(hk:ops[k]? =some o)(h: ∀K:Act→World→Prop,(∀a' w',C w' →wpActs P ops Q C ks a' w' →K a' w')→wpList P ops (Qr K Q) [o] a w):wpActs P ops Q C (k::ks) a w:=
 ⟨o,hk,h _ (fun _ _ h1 h2=>⟨h1,h2⟩)⟩
theorem wp_post{o:Oper}{a:Act}{w:World}{K:Act→World→Prop}{Q' :Exit→Act→World→Prop}(hQ: ∀c a w,Q' (.panic c) a w→Q (.panic c) a w)(hO:LetsOut Q' →LetsOut Q)(hh:o.wp P a w K Q'):o.wp P a w K Q:=by
 unfold Oper.wp at*
 generalize (execOp a.eval o).run P w=r at*
 cases r with
 |ok x w' =>
  cases x<;>simp only [Oper.upon] at hh ⊢ <;>
   first
    |exact hh
    |exact Calls.mono hh (fun e w'' he=>by cases e<;>first|exact he|exact hQ _ _ _ he|exact hO he)
 |halt x w' =>cases x<;>simp only [Oper.upon] at hh ⊢ <;>first|exact hQ _ _ _ hh|exact hh
theorem wpOp_list{i:Nat}{o:Oper}{K:Act→World→Prop}{a:Act}{w:World}(hi:ops[i]? =some o)(h:wpList P ops (Qr K Q) [o] a w):wpOp P ops Q i K a w:=by
 unfold wpOp
 simp only [hi]
 unfold wpList at h
 split
 · rename_i hw
   rw [if_pos hw] at h
   rcases h with h|⟨h1,h2⟩
   · exact .inl (wp_post (fun _ _ _ h=>h) (fun h=>h) h)
   · exact .inr ⟨h1,h2⟩
 · rename_i hw
   rw [if_neg hw] at h
   exact h
theorem wpAnyW_of_acts: ∀(ks:List Nat) (listed:Array Bool) (a:Act) (w:World),rowB md ops ks listed=true→wpActs P ops Q C ks a w→wpAnyW P md ops Q C ks.length listed a w
 | [],listed,a,w,hB,h=>⟨by simpa [rowB] using hB,h⟩
 |k::ks,listed,a,w,hB,h=>by
  obtain⟨o,h0,h⟩:=h
  simp only [rowB,Bool.and_eq_true,decide_eq_true_eq] at hB
  refine⟨fun h1=>(by rw [hB.1] at h1;cases h1),fun i hi=> ?_⟩
  rw [hB.1] at hi
  obtain rfl:i=k:=by simpa using hi
  exact wpOp_mono (fun a' w' h' =>⟨h'.1,wpAnyW_of_acts ks _ a' w' hB.2 h'.2⟩) (wpOp_list h0 h)
theorem wpAnyW_of_reads{ks:List Nat}{w:World}(hsel:Region.noSelect ops=true)(hC:C w)(hQ: ∀c a d v w,Q (.panic c) (Act.put a d v) w→Q (.panic c) a w):
 ∀(is:List Nat) (listed:Array Bool) (a:Act),headB md ops ks is listed=true→wpReads P ops C (fun a' =>wpActs P ops Q C ks a' w) is a→wpAnyW P md ops Q C (is.length+ks.length) listed a w
 | [],listed,a,hB,h=>by
   rw [List.length_nil,Nat.zero_add]
   exact wpAnyW_of_acts ks listed a w hB h
 |i::is,listed,a,hB,h=>by
  obtain⟨o,v,h0,hy,hK⟩:=h
  simp only [headB,Bool.and_eq_true] at hB
  obtain⟨⟨hr,hf⟩,hB'⟩:=hB
  rw [List.length_cons,show is.length+1+ks.length=(is.length+ks.length)+1 by omega]
  exact wpAnyW_first h0 (Region.noSelect_spec hsel) (fun c a w h=>hQ c a _ _ w h) (is.length+ks.length) listed a w (Region.free_spec h0 hf) (by simpa using hr) hy hC
   (wpAnyW_of_reads hsel hC hQ is _ _ hB' hK)
theorem wp_region_row{id:Nat}{a:Act}{w:World}{l:List Oper}(C:World→Prop)(is ks:List Nat)(hm:P.follows .mixedOrders=true)(hsel:Region.noSelect l.toArray=true)(hlen:is.length+ks.length=l.length)
 (hB:headB .any l.toArray ks is (Array.replicate l.toArray.size false)=true) (hC:C { w with drawn:=w.drawn+1 }) (hQ: ∀c a d v w,Q (.panic c) (Act.put a d v) w→Q (.panic c) a w)
 (h:wpReads P l.toArray C (fun a' =>wpActs P l.toArray Q C ks a' { w with drawn:=w.drawn+1 }) is a):(Code.region id l.toArray true).wp P Q a w:=by
 refine wp_region_any hm (wpAnyW.any (C:=C) _ _ _ _ ?_)
 have:=wpAnyW_of_reads (md:= .any) hsel hC hQ is (Array.replicate l.toArray.size false) a hB h
 rw [hlen] at this
 simpa using this
end
end Go.Proofs.YthcmecokejemcaaGreatDoor
namespace Go.Proofs.YthcmecokejemcaaGreatDoor
open Go.RowKit Go.Shelf
def toU(z:Int):Nat:=(z%18446744073709551616).toNat
theorem toU_lt(z:Int):toU z<18446744073709551616:=by
 unfold toU
 have h1:=Int.emod_nonneg z (show(18446744073709551616:Int)≠0 by omega)
 have h2:=Int.emod_lt_of_pos z (show(0:Int)<18446744073709551616 by omega)
 omega
def putN(R:Nat→Option (List Nat))(x:Nat)(nd:Nd):Nat→Option (List Nat):=if nodeE R x=0 then updR R x (some nd.ws) else R
theorem putN_other{R:Nat→Option (List Nat)}{x y:Nat}{nd:Nd}(h:y≠x):putN R x nd y=R y:=by
 unfold putN
 split
 · exact updR_other h
 · rfl
theorem putN_same{R:Nat→Option (List Nat)}{x:Nat}{nd:Nd}(h:nodeE R x=0):putN R x nd x=some nd.ws:=by
 unfold putN
 rw [if_pos h,updR_same]
def KeepsN(R R' :Nat→Option (List Nat)):Prop:= ∀x,(nodeE R' x=nodeE R x∧(nodeE R x≠0→R' x=R x))∧(nodeG R' x).key=(nodeG R x).key∧(nodeG R' x).val=(nodeG R x).val
theorem KeepsN.refl(R:Nat→Option (List Nat)):KeepsN R R:=fun _=>⟨⟨rfl,fun _=>rfl⟩,rfl,rfl⟩
theorem KeepsN.trans{R R1 R2:Nat→Option (List Nat)}(h:KeepsN R R1)(k:KeepsN R1 R2):KeepsN R R2:=fun x=>⟨⟨(k x).1.1.trans (h x).1.1,fun hx=>((k x).1.2 (by rw [(h x).1.1];exact hx)).trans ((h x).1.2 hx)⟩,(k x).2.1.trans (h x).2.1,(k x).2.2.trans (h x).2.2⟩
theorem nodeE_congr{R R' :Nat→Option (List Nat)}{x:Nat}(h:R' x=R x):nodeE R' x=nodeE R x∧nodeG R' x=nodeG R x:=by
 unfold nodeE nodeG nodeR
 rw [h]
 exact⟨rfl,rfl⟩
theorem KeepsN.put{R:Nat→Option (List Nat)}{x:Nat}{nd:Nd}(hk:nodeE R x=0→nd.key=(nodeG R x).key∧nd.val=(nodeG R x).val):KeepsN R (putN R x nd):=fun y=>by
 by_cases e:y=x
 · subst e
   by_cases h0:nodeE R y=0
   · obtain⟨e1,e2⟩:=nodeR_at (putN_same (nd:=nd) h0)
     rw [e1,e2,h0]
     exact⟨⟨rfl,fun hx=>absurd rfl hx⟩,hk h0⟩
   · unfold putN
     rw [if_neg h0]
     exact⟨⟨rfl,fun _=>rfl⟩,rfl,rfl⟩
 · obtain⟨e1,e2⟩:=nodeE_congr (putN_other (nd:=nd) (R:=R) e)
   rw [e1,e2]
   exact⟨⟨rfl,fun _=>putN_other e⟩,rfl,rfl⟩
section
variable {w w' :World} {s N:Nat} {R:Nat→Option (List Nat)} {n:Nat}
theorem wrapU(z:Int):IntKind.u64.wrap z=((toU z:Nat):Int):=by
 have h1:=Int.emod_nonneg z (show(18446744073709551616:Int)≠0 by omega)
 unfold toU
 rw [Int.toNat_of_nonneg h1]
 rfl
section
variable {F:Nat→Prop} {H:List Nat} {P q most last G:Nat}
end
end
structure Kp(w:World)(F:Nat→Prop) where
 W:World
 F' :Nat→Prop
 h:Turn w F W F'
theorem Kp.cell{w:World}{F:Nat→Prop}{p:Addr}{v:Value}(hc:w.cell? p=some v)(hF: ¬F p.block)(X:Kp w F):X.W.cell? p=some v:=X.h.cell hc hF
theorem Kp.start(w:World)(F:Nat→Prop): ∃X:Kp w F,{ w with drawn:=w.drawn+1 }=X.W:=⟨⟨_,F,Turn.below (below_drawn w)⟩,rfl⟩
section
variable {w w' :World} {s:Nat} {F:Nat→Prop} {R:Nat→Option (List Nat)} {H:List Nat} {P q most last G:Nat}
end
end Go.Proofs.YthcmecokejemcaaGreatDoor
