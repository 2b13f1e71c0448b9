/-
  The seat's own texts, part e: Slab.
-/
import Derived.Test.YthcmecokejemcaaGreatDoorWMd
import Derived.WalkArith
import Derived.Maps.Own
import Derived.Maps.OwnOps
import Derived.Maps.OwnSet
import Derived.Maps.Views
set_option linter.unusedSimpArgs false
set_option linter.unusedVariables false
namespace Go.Proofs.YthcmecokejemcaaGreatDoor
open Go.RowKit Go.Shelf
abbrev DW:=DataW Unit
def pageElem:Value→Option (DW × List MemPlace)
 | .pointer none=>some (.nil,[])
 | .pointer (some a)=>if a.off=0∧a.spot=none then some (.lit (.int .u64 (a.block:Nat)),[]) else none
 |_=>none
def numOf:DW→Option Nat
 | .lit (.int _ g)=>some g.toNat
 |_=>none
def pgOf(D:DW)(p:Int):Option Nat:=numOf (D.atKey (.int .i64 p) .nil)
def pgV:Option Nat→Value
 |none=> .pointer none
 |some g=> .pointer (some ⟨g,0,none⟩)
theorem zeroPage(w:World):(zeroValue 177).run Tryz.prog w= .ok (.pointer none) w:=by kernel_rfl
theorem keyedInt:Maps.Keyed Tryz.prog 3:=Maps.int_keyed Tryz.underlying3
theorem keyInt{p:Int}(h1: -9223372036854775808≤p)(h2:p≤9223372036854775807):keyOf Tryz.prog 3 (.int .i64 p)=some (.int .i64 p):=
 Maps.keyOf_int_mk Tryz.underlying3 (WalkArith.wf_i64 ⟨h1,h2⟩)
abbrev PageMap(w:World)(b n:Nat)(D:DW):Prop:=w.ownsMap Tryz.prog 3 pageElem b n D
theorem elem_inv{v:Value}{d:DW}{ps:List MemPlace}(h:pageElem v=some (d,ps)):v=pgV (numOf d):=by
 unfold pageElem at h
 split at h
 · cases h;rfl
 · rename_i a
   obtain⟨b,o,s⟩:=a
   by_cases ha:o=0∧s=none
   · obtain⟨rfl,rfl⟩:=ha
     rw [if_pos ⟨rfl,rfl⟩] at h
     cases h
     rfl
   · rw [if_neg ha] at h
     cases h
 · cases h
theorem look_page{w:World}{b n:Nat}{D:DW}(h:PageMap w b n D){p:Int}(h1: -9223372036854775808≤p)(h2:p≤9223372036854775807):
 (Instr.lookup 115 (.map (some b)) (.int .i64 p) false).run Tryz.prog w= .ok (pgV (pgOf D p)) w:=by
 obtain⟨v,ps,hrun,hv⟩:=h.lookup keyedInt Tryz.underlying115 (zeroPage w) (show pageElem (.pointer none)=some (.nil,[]) from rfl) (keyInt h1 h2)
 rw [hrun,elem_inv hv]
 rfl
theorem wpList_look_page(w:World){ops:Array Oper}{rest:List Oper}{o:Oper}{a:Act}{Q:Exit→Act→World→Prop}
 (hg:o.guard=none) (m x:Operand) (hop:o.op=Op.lookup 115 m x false) (b n:Nat) (D:DW)
 (hm:a.eval m= .map (some b)) (hown:PageMap w b n D) (p:Int) (hx:a.eval x= .int .i64 p) (h1: -9223372036854775808≤p) (h2:p≤9223372036854775807)
 (hK:wpList Tryz.prog ops Q rest (a.put o.dst (pgV (pgOf D p))) w):
 wpList Tryz.prog ops Q (o::rest) a w:=by
 refine wpList_plain hg fun K' hK' => ?_
 have hrun:=look_page hown h1 h2
 unfold Oper.wp
 simp [execOp,hop,hm,hx,hrun,Result.andThen]
 exact hK' _ _ hK
theorem PageMap.tight{w:World}{b n:Nat}{D:DW}(h:PageMap w b n D):PageMap w b (Maps.size D) D:=by
 obtain⟨es,clock,hb,F,hs,hD⟩:=h
 refine⟨es,clock,hb,F, ?_,hD⟩
 rw [hD]
 simp [Maps.size,length_sorted]
theorem key_is(p:Int):WideAt.IsKeyLit (.int .i64 p):=by simp [WideAt.IsKeyLit]
theorem pgOf_put{D:DW}(hD:Maps.IsMap D)(p:Int)(g:Nat)(p' :Int):pgOf (D.put (.int .i64 p) (.lit (.int .u64 (g:Nat)))) p' =if p' =p then some g else pgOf D p' :=by
 unfold pgOf
 by_cases h:p' =p
 · subst h;rw [Maps.atKey_put_same hD (key_is _),if_pos rfl];rfl
 · rw [Maps.atKey_put_other (by simpa using h),if_neg h]
theorem pgOf_del{D:DW}(p p' :Int):pgOf (D.del (.int .i64 p)) p' =if p' =p then none else pgOf D p' :=by
 unfold pgOf
 by_cases h:p' =p
 · subst h;rw [Maps.atKey_del_same,if_pos rfl];rfl
 · rw [Maps.atKey_del_other (by simpa using h),if_neg h]
structure SlabAt(w:World)(a mb:Nat)(D:DW)(ps:List Nat)(q:Nat)(mem:Nat→Nat):Prop where
 cq:w.cell? ⟨a,0,none⟩=some (.int .i64 (q:Nat))
 cm:w.cell? ⟨a,1,none⟩=some (.map (some mb))
 own:PageMap w mb (Maps.size D) D
 room:Maps.size D*64≤q
 pages: ∀p:Int,pgOf D p≠none↔ ∃k∈ps,p=(k:Nat)
 nodup:ps.Nodup
 count:Maps.size D=ps.length
 full: ∀p:Int,Maps.has D (.int .i64 p)=true→pgOf D p≠none
 keys: ∀k,Maps.has D k=true→ ∃p:Int,k= .int .i64 p
 quota:q≤262144
 low: ∀p∈ps,p<524288
 words: ∀p g:Nat,pgOf D (p:Nat)=some g→ ∀k,k<64→w.cell? ⟨g,k,none⟩=some (.int .u64 (mem (64*p+k):Nat))∧w.frozen? ⟨g,k,none⟩=false
 inj: ∀p p' g:Nat,pgOf D (p:Nat)=some g→pgOf D (p' :Nat)=some g→p=p'
 off: ∀p g:Nat,pgOf D (p:Nat)=some g→g≠a
 word: ∀x,mem x<18446744073709551616
def SlabF(a mb:Nat)(D:DW)(b:Nat):Prop:=b=a∨b=mb∨ ∃p:Nat,pgOf D (p:Nat)=some b
theorem cell_lt{w:World}{a:Addr}{v:Value}(h:w.cell? a=some v):a.block<w.heap.size:=by
 unfold World.cell? at h
 by_cases hb:a.block<w.heap.size
 · exact hb
 · rw [Array.getElem?_eq_none (by omega)] at h;simp at h
theorem SlabAt.lt{w:World}{a mb q:Nat}{D:DW}{ps:List Nat}{mem:Nat→Nat}(h:SlabAt w a mb D ps q mem){b:Nat}(hb:SlabF a mb D b):b<w.heap.size:=by
 rcases hb with rfl|rfl|⟨p,hp⟩
 · exact cell_lt (a:=⟨_,0,none⟩) h.cq
 · exact h.own.lt
 · exact cell_lt (a:=⟨_,0,none⟩) (h.words p b hp 0 (by omega)).1
theorem SlabAt.same{w w' :World}{a mb q:Nat}{D:DW}{ps:List Nat}{mem:Nat→Nat}(h:SlabAt w a mb D ps q mem)(hk: ∀b,SlabF a mb D b→w'.heap[b]? =w.heap[b]?):SlabAt w' a mb D ps q mem where
 cq:=(World.cell?_of_block (a:=⟨a,0,none⟩) (hk a (.inl rfl))).trans h.cq
 cm:=(World.cell?_of_block (a:=⟨a,1,none⟩) (hk a (.inl rfl))).trans h.cm
 own:=by
  obtain⟨es,clock,hb,F,hs,hD⟩:=h.own
  exact⟨es,clock,(hk mb (.inr (.inl rfl))).trans hb,F,hs,hD⟩
 room:=h.room
 pages:=h.pages
 nodup:=h.nodup
 count:=h.count
 full:=h.full
 keys:=h.keys
 quota:=h.quota
 low:=h.low
 words:=fun p g hg k hk' =>⟨(World.cell?_of_block (a:=⟨g,k,none⟩) (hk g (.inr (.inr ⟨p,hg⟩)))).trans (h.words p g hg k hk').1,(World.frozen?_of_block (a:=⟨g,k,none⟩) (hk g (.inr (.inr ⟨p,hg⟩)))).trans (h.words p g hg k hk').2⟩
 inj:=h.inj
 off:=h.off
 word:=h.word
theorem SlabAt.below{w w' :World}{a mb q B:Nat}{D:DW}{ps:List Nat}{mem:Nat→Nat}(h:SlabAt w a mb D ps q mem)(hB:Below B w w')(hlt: ∀b,SlabF a mb D b→b<B):SlabAt w' a mb D ps q mem:=
 h.same fun b hb=>hB.block b (hlt b hb)
def upd(mem:Nat→Nat)(x v:Nat):Nat→Nat:=fun i=>if i=x then v else mem i
theorem SlabAt.write{w:World}{a mb q:Nat}{D:DW}{ps:List Nat}{mem:Nat→Nat}(h:SlabAt w a mb D ps q mem){p g k v:Nat}(hg:pgOf D (p:Nat)=some g)(hk:k<64)(hv:v<18446744073709551616):
 SlabAt (w.setCell ⟨g,k,none⟩ (.int .u64 (v:Nat))) a mb D ps q (upd mem (64*p+k) v):=by
 have hga:=h.off p g hg
 have hgm:g≠mb:=by
  rintro rfl
  obtain⟨es,clock,hb,_⟩:=h.own
  have:=(h.words p g hg 0 (by omega)).1
  unfold World.cell? at this
  simp [hb] at this
 refine⟨?_, ?_, ?_,h.room,h.pages,h.nodup,h.count,h.full,h.keys,h.quota,h.low, ?_,h.inj,h.off, ?_⟩
 · exact(World.cell?_setCell_other _ _ _ _ (by simp [hga])).trans h.cq
 · exact(World.cell?_setCell_other _ _ _ _ (by simp [hga])).trans h.cm
 · exact Go.World.ownsMap.setCell h.own (a:=⟨g,k,none⟩) (Ne.symm hgm) _
 · intro p' g' hg' k' hk'
   by_cases he:g' =g∧k' =k
   · obtain⟨rfl,rfl⟩:=he
     obtain rfl:=h.inj p p' g' hg hg'
     refine⟨?_,by simpa using (h.words p g' hg k' hk').2⟩
     rw [World.cell?_setCell_same' _ _ _ (by rw [(h.words p g' hg k' hk').1];rfl)]
     simp [upd]
   · refine⟨?_,by simpa using (h.words p' g' hg' k' hk').2⟩
     have hne:(⟨g,k,none⟩:Addr)≠⟨g',k',none⟩:=by
      intro hh;simp only [Addr.mk.injEq] at hh;exact he ⟨hh.1.symm,hh.2.1.symm⟩
     rw [World.cell?_setCell_other _ _ _ _ hne,(h.words p' g' hg' k' hk').1]
     have:64*p' +k' ≠64*p+k:=by
      intro hh
      have hpp:p' =p:=by omega
      subst hpp
      rw [hg] at hg'
      cases hg'
      exact he ⟨rfl,by omega⟩
     simp [upd,this]
 · intro x;unfold upd;split;exact hv;exact h.word x
theorem map_not_nil(b:Nat)(w:World):(binOp .eql 115 (.map (some b)) (.map none)).run Tryz.prog w= .ok (.bool false) w:=by
 first|kernel_rfl|rfl|simp [binOp,go_sem]
set_option maxRecDepth 100000 in
theorem slabNone_at{w:World}{a mb q:Nat}{D:DW}{ps:List Nat}{mem:Nat→Nat}(h:SlabAt w a mb D ps q mem):Calls Tryz.prog 110 #[.pointer (some ⟨a,0,none⟩)] w fun e w' =>e= .returned (.bool false)∧w=w' :=by
 have hcm:=h.cm
 have hnn:=map_not_nil mb w
 clear h
 go_enter Tryz.func110,Tryz.ntmps110
 go_wp2
 go_ret
 exact⟨rfl,rfl⟩
def atR(D:DW)(x:Nat):Value:=
 match pgOf D ((x/64:Nat):Nat) with
 |some g=> .tuple #[.pointer (some ⟨g,x%64,none⟩), .int .i64 0]
 |none=> .tuple #[.pointer none, .int .i64 5]
set_option maxRecDepth 100000 in
theorem at_at{w:World}{a mb q:Nat}{D:DW}{ps:List Nat}{mem:Nat→Nat}(h:SlabAt w a mb D ps q mem)(x:Nat)(hx:x<67108864):
 Calls Tryz.prog 81 #[.pointer (some ⟨a,0,none⟩), .int .i64 (x:Nat)] w fun e w' =>e= .returned (atR D x)∧w=w' :=by
 have hcm:=h.cm
 have hown:=h.own
 have hN:=Lib.hid (slabNone_at h)
 have hl:=look_page hown (p:=((x/64:Nat):Int)) (by omega) (by omega)
 clear h
 have hd1:decide ((67108863:Int)<(x:Int))=false:=by simp;omega
 unfold atR
 generalize hg:pgOf D ((x/64:Nat):Int)=og at*
 clear hg
 cases og with
 |none=>
  simp only [pgV] at hl
  push_cast at hl
  go_enter Tryz.func81,Tryz.ntmps81
  go_wp2_with (go_at_call 110;refine hN.out.mono ?_;rintro e w' ⟨rfl,rfl⟩)
  go_ret2
  exact⟨rfl,rfl⟩
 |some g=>
  simp only [pgV] at hl
  push_cast at hl
  go_enter Tryz.func81,Tryz.ntmps81
  go_wp2_with (go_at_call 110;refine hN.out.mono ?_;rintro e w' ⟨rfl,rfl⟩)
  go_ret2
  exact⟨rfl,rfl⟩
theorem SlabAt.perm{w:World}{a mb q:Nat}{D:DW}{ps ps' :List Nat}{mem:Nat→Nat}(h:SlabAt w a mb D ps q mem)(hp:ps.Perm ps'):SlabAt w a mb D ps' q mem where
 cq:=h.cq
 cm:=h.cm
 own:=h.own
 room:=h.room
 pages:=fun p=>(h.pages p).trans ⟨fun⟨k,hk,e⟩=>⟨k,hp.mem_iff.1 hk,e⟩,fun⟨k,hk,e⟩=>⟨k,hp.mem_iff.2 hk,e⟩⟩
 nodup:=hp.nodup_iff.1 h.nodup
 count:=h.count.trans hp.length_eq
 full:=h.full
 keys:=h.keys
 quota:=h.quota
 low:=fun p hp' =>h.low p (hp.mem_iff.2 hp')
 words:=h.words
 inj:=h.inj
 off:=h.off
 word:=h.word
theorem SlabAt.page{w:World}{a mb q:Nat}{D:DW}{ps:List Nat}{mem:Nat→Nat}(h:SlabAt w a mb D ps q mem){p:Nat}(hp:p∈ps): ∃g,pgOf D (p:Nat)=some g:=by
 have:=(h.pages (p:Nat)).2 ⟨p,hp,rfl⟩
 cases hg:pgOf D (p:Nat) with
 |none=>exact absurd hg this
 |some g=>exact⟨g,rfl⟩
theorem SlabAt.no_page{w:World}{a mb q:Nat}{D:DW}{ps:List Nat}{mem:Nat→Nat}(h:SlabAt w a mb D ps q mem){p:Nat}(hp:p∉ps):pgOf D (p:Nat)=none:=by
 cases hg:pgOf D (p:Nat) with
 |none=>rfl
 |some g=>
  obtain⟨k,hk,e⟩:=(h.pages (p:Nat)).1 (by rw [hg];simp)
  obtain rfl:p=k:=by omega
  exact absurd hk hp
set_option maxRecDepth 100000 in
theorem read_at{w:World}{a mb q:Nat}{D:DW}{ps:List Nat}{mem:Nat→Nat}(h:SlabAt w a mb D ps q mem)(x:Nat)(hp:x/64∈ps):
 Calls Tryz.prog 52 #[.pointer (some ⟨a,0,none⟩), .int .i64 (x:Nat)] w fun e w' =>e= .returned (.tuple #[.int .u64 (mem x:Nat), .int .i64 0])∧w=w' :=by
 have hlow:=h.low _ hp
 obtain⟨g,hg⟩:=h.page hp
 have hA:=at_at h x (by omega)
 unfold atR at hA
 rw [hg] at hA
 have hc:=(h.words _ g hg (x%64) (by omega)).1
 rw [show 64*(x/64)+x%64=x by omega] at hc
 have HA:=Lib.hid hA
 clear hA hg h hlow hp
 go_enter Tryz.func52,Tryz.ntmps52
 go_wp2_with (go_at_call 81;refine HA.out.mono ?_;rintro e w' ⟨rfl,rfl⟩)
 go_ret2
 exact⟨rfl,rfl⟩
set_option maxRecDepth 100000 in
theorem read_none{w:World}{a mb q:Nat}{D:DW}{ps:List Nat}{mem:Nat→Nat}(h:SlabAt w a mb D ps q mem)(x:Nat)(hx:x<67108864)(hp:x/64∉ps):
 Calls Tryz.prog 52 #[.pointer (some ⟨a,0,none⟩), .int .i64 (x:Nat)] w fun e w' =>e= .returned (.tuple #[.int .u64 0, .int .i64 5])∧w=w' :=by
 have hA:=at_at h x hx
 unfold atR at hA
 rw [h.no_page hp] at hA
 have HA:=Lib.hid hA
 clear hA h hp
 go_enter Tryz.func52,Tryz.ntmps52
 go_wp2_with (go_at_call 81;refine HA.out.mono ?_;rintro e w' ⟨rfl,rfl⟩)
 go_ret2
 exact⟨rfl,rfl⟩
def Wrote(w:World)(D:DW)(x v:Nat)(w' :World):Prop:= ∃g,pgOf D ((x/64:Nat):Nat)=some g∧w' =w.setCell ⟨g,x%64,none⟩ (.int .u64 (v:Nat))
set_option maxRecDepth 100000 in
theorem write_at{w:World}{a mb q:Nat}{D:DW}{ps:List Nat}{mem:Nat→Nat}(h:SlabAt w a mb D ps q mem)(x v:Nat)(hp:x/64∈ps)(hv:v<18446744073709551616):
 Calls Tryz.prog 75 #[.pointer (some ⟨a,0,none⟩), .int .i64 (x:Nat), .int .u64 (v:Nat)] w fun e w' =>e= .returned (.int .i64 0)∧Wrote w D x v w' ∧SlabAt w' a mb D ps q (upd mem x v):=by
 have hlow:=h.low _ hp
 obtain⟨g,hg⟩:=h.page hp
 have hA:=at_at h x (by omega)
 unfold atR at hA
 rw [hg] at hA
 have hc:=h.words _ g hg (x%64) (by omega)
 have hS:=h.write hg (k:=x%64) (by omega) hv
 rw [show 64*(x/64)+x%64=x by omega] at hc hS
 obtain⟨hc1,hc2⟩:=hc
 have HA:=Lib.hid hA
 have HS:=Lib.hid hS
 have HG:=Lib.hid hg
 clear hA hg h hlow hp hS
 go_enter Tryz.func75,Tryz.ntmps75
 go_wp2_with (go_at_call 81;refine HA.out.mono ?_;rintro e w' ⟨rfl,rfl⟩)
 go_ret
 exact⟨rfl,⟨g,HG.out,rfl⟩,HS.out⟩
end Go.Proofs.YthcmecokejemcaaGreatDoor
