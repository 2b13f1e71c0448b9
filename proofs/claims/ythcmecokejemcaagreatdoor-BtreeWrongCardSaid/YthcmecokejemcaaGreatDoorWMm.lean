/-
  The seat's own texts, part m: TxWords.
-/
import Derived.Test.YthcmecokejemcaaGreatDoorWMa
import Derived.Test.YthcmecokejemcaaGreatDoorWMl
import Derived.Test.YthcmecokejemcaaGreatDoorChecked
import Derived.WalkKit
import Derived.Below
import Derived.WalkLawsBesides
import Derived.WalkSpells
import Derived.Deep.OwnRows
import Derived.Laws.IdiomStrings
import Derived.Lib.Hide
set_option linter.unusedVariables false
namespace Go.Proofs.YthcmecokejemcaaGreatDoor.Tx
open Go.RowKit
theorem many_nat(k m:Nat)(w:World)(hk:k≤1000)(hm:Hid (m=many k)):
 Calls Tryz.prog 87 #[.int .i64 k] w fun e w' =>e= .returned (.int .i64 m)∧w=w' :=by
 go_enter Tryz.func87,Tryz.ntmps87
 go_wp2
 go_ret
 exact⟨by rw [hm.out];simp [many];omega,rfl⟩
theorem lay_any(i c g n m:Nat)(v:Int)(B:Nat)(w:World)(hi:i<1000)(hc:c<256)(hn:1+i/8<n)(hn2:n<2000)
 (hB:w.cell? ⟨B,0,none⟩=some (.slice (some ⟨g,0,none⟩) n m))
 (hv:w.cell? ⟨g,1+i/8,none⟩=some (.int .u64 v)) (hf:w.frozen? ⟨g,1+i/8,none⟩=false):
 Calls Tryz.prog 99 #[.int .i64 i, .int .u8 c, .pointer (some ⟨B,0,none⟩)] w fun e w' =>e= .returned (.tuple #[])∧ ∃nq,w' =(w.drewN nq).setCell ⟨g,1+i/8,none⟩ (.int .u64 (bits .or .u64 v (IntKind.u64.wrap (c*2^(8*(7-i%8)))))):=by
 have hq:(1+(i:Int)/8)<(n:Int):=by omega
 have h7:(i:Int)%8≤7:=by omega
 have h70:0≤(i:Int)%8:=by omega
 go_enter Tryz.func99,Tryz.ntmps99
 go_wp2
 refine wp_region_quiet_tail 15 (by kernel_rfl) (by kernel_rfl) ?_
 simp only [List.take_succ_cons,List.take_zero,List.drop_succ_cons,List.drop_zero]
 repeat (go_big_quiet_step (fail))
 refine wpQuiet_nil ?_
 rintro _ ⟨nq,rfl⟩
 go_wp2
 go_end0
 exact⟨rfl,nq,rfl⟩
theorem lay_row(l:List UInt8)(i g n m B:Nat)(w:World)(hl:l.length≤1000)(hi:i<l.length)(hn:n=many l.length)
 (hB:w.cell? ⟨B,0,none⟩=some (.slice (some ⟨g,0,none⟩) n m)) (hr:w.rowIs g 22 n (fun j=> .int .u64 (partAt l i j:Nat))):
 Calls Tryz.prog 99 #[.int .i64 i, .int .u8 (byteAt l i:Nat), .pointer (some ⟨B,0,none⟩)] w fun e w' =>e= .returned (.tuple #[])∧
  w'.rowIs g 22 n (fun j=> .int .u64 (partAt l (i+1) j:Nat))∧w.grownBy w' (some g):=by
 have hq:1+i/8<n:=by rw [hn];unfold many;omega
 have hp1:=partAt_lt l i (1+i/8) (by omega)
 have hp2:byteAt l i*2^(8*(7-i%8))<18446744073709551616:=by
  have h1:=byteAt_lt l i
  have h2:2^(8*(7-i%8))≤2^56:=Nat.pow_le_pow_right (by omega) (by omega)
  have h3:byteAt l i*2^(8*(7-i%8))≤255*2^56:=Nat.mul_le_mul (by omega) h2
  have:(255:Nat)*2^56<18446744073709551616:=by decide
  omega
 refine(lay_any i (byteAt l i) g n m _ B w (by omega) (byteAt_lt l i) hq (by rw [hn];unfold many;omega) hB (hr.cell hq) (hr.frozen _)).mono ?_
 rintro e w' ⟨rfl,nq,rfl⟩
 refine⟨rfl, ?_, ?_⟩
 · have h1:(w.drewN nq).rowIs g 22 n (fun j=> .int .u64 (partAt l i j:Nat)):=hr
   refine(h1.set (1+i/8) _).congr fun j hj=> ?_
   show(if j=1+i/8 then Value.int .u64 _ else _)=_
   rw [partAt_step]
   by_cases h:j=1+i/8
   · rw [if_pos h,if_pos h]
     have hw:IntKind.u64.wrap ((byteAt l i:Int)*2^(8*(7-i%8)))=((byteAt l i*2^(8*(7-i%8)):Nat):Int):=by
      rw [IntWalk.u64_in]
      · push_cast;rfl
      · have:((byteAt l i:Int)*2^(8*(7-i%8)))=((byteAt l i*2^(8*(7-i%8)):Nat):Int):=by push_cast;rfl
        rw [this];omega
     rw [hw,bits_or_u64_nat _ _ (by omega) (by omega)]
   · rw [if_neg h,if_neg h]
 · exact⟨rfl,rfl,rfl,by simp [World.setCell],fun k hk hne=>Below.heap_setCell _ _ _ _ (fun e=>hne (by rw [e]))⟩
theorem hinfo37:(Tryz.prog.info? 22).map (fun i=>(i.zero,i.size,i.bytes))=some (some (.int .u64 0),1,8):=by kernel_rfl
theorem words_start(s:ByteArray)(m cap:Nat)(w:World)(hm:0<m):
 ∀W0,(((w.alloc (Obj.cells ((madeCells #[Value.int IntKind.u64 0] m).setIfInBounds 0 (Value.int IntKind.u64 ↑s.size)) 22)).alloc
    (Obj.cells #[Value.slice (some { block:=w.heap.size,off:=0 }) m m] 128)).alloc
    (Obj.cells (bytesRow s cap) 5 ((bytesRow s cap).size,(bytesRow s cap).size+1))).drew=W0→
 W0.rowIs w.heap.size 22 m (fun j=> .int .u64 (partAt s.data.toList 0 j:Nat))∧
 W0.cell? ⟨w.heap.size+1,0,none⟩=some (.slice (some ⟨w.heap.size,0,none⟩) m m)∧
 (∀j,j<s.size→W0.cell? ⟨w.heap.size+1+1,j,none⟩=some (.int .u8 (byteAt s.data.toList j:Nat)))∧
 Below w.heap.size w W0:=by
 rintro W0 rfl
 refine⟨?_, ?_, ?_, ?_⟩
 · have h:=World.rowIs_alloc w ((madeCells #[Value.int IntKind.u64 0] m).setIfInBounds 0 (Value.int IntKind.u64 ↑s.size)) 22 (fun j=> .int .u64 (partAt s.data.toList 0 j:Nat)) (fun i hi=>by
    have hsz:(madeCells #[Value.int IntKind.u64 0] m).size=m:=size_madeCells _ _
    rw [Array.size_setIfInBounds,hsz] at hi
    rw [Array.getElem?_setIfInBounds,partAt_zero]
    by_cases h0:0=i
    · subst h0
      rw [if_pos rfl,if_pos (by rw [hsz];exact hm)]
      simp
    · rw [if_neg h0,if_neg (by omega)]
      simp [madeCells,hi,Nat.mod_one])
   rw [Array.size_setIfInBounds,size_madeCells] at h
   exact((h.alloc _).alloc _).drew
 · exact(World.cell?_alloc_lt _ _ _ (by simp)).trans (by
    rw [cell_of_row ((w.alloc (Obj.cells ((madeCells #[Value.int IntKind.u64 0] m).setIfInBounds 0 (Value.int IntKind.u64 ↑s.size)) 22)).alloc (Obj.cells #[Value.slice (some { block:=w.heap.size,off:=0 }) m m] 128)) (w.heap.size+1) 0 #[Value.slice (some { block:=w.heap.size,off:=0 }) m m] 128 (0,0) (by
        have:=heap_alloc_new (w.alloc (Obj.cells ((madeCells #[Value.int IntKind.u64 0] m).setIfInBounds 0 (Value.int IntKind.u64 ↑s.size)) 22)) (Obj.cells #[Value.slice (some { block:=w.heap.size,off:=0 }) m m] 128)
        rwa [World.size_alloc] at this)]
    rfl)
 · intro j hj
   have hn:=heap_alloc_new ((w.alloc (Obj.cells ((madeCells #[Value.int IntKind.u64 0] m).setIfInBounds 0 (Value.int IntKind.u64 ↑s.size)) 22)).alloc (Obj.cells #[Value.slice (some { block:=w.heap.size,off:=0 }) m m] 128)) (Obj.cells (bytesRow s cap) 5 ((bytesRow s cap).size,(bytesRow s cap).size+1))
   rw [World.size_alloc,World.size_alloc] at hn
   have:=cell_of_row _ (w.heap.size+1+1) j _ 5 _ hn
   refine(show _=_ from this).trans ?_
   have hlt:j<s.data.size:=hj
   unfold bytesRow byteAt
   rw [Array.getElem?_append_left (by simpa using hlt)]
   rw [Array.getElem?_map,Array.getElem?_toList,Array.getElem?_eq_getElem hlt]
   rfl
 · exact(((((Below.refl _ w).alloc (Nat.le_refl _) _).alloc (by simp) _).alloc (by simp;omega) _)).drew
set_option maxRecDepth 100000 in
theorem words_any(s:ByteArray)(w:World)(hs:s.size≤1000):
 Calls Tryz.prog 69 #[.string s] w fun e w' =>e= .returned (.tuple #[.slice (some ⟨w.heap.size,0,none⟩) (many s.size) (many s.size), .int .i64 0])∧
  w'.rowIs w.heap.size 22 (many s.size) (fun j=> .int .u64 (wordAt s.data.toList j:Nat))∧Below w.heap.size w w' :=by
 obtain⟨m,hm0⟩: ∃m,m=many s.size:=⟨_,rfl⟩
 rw [←hm0]
 have hmb:m=1+(s.size+7)/8:=hm0
 have hm2:m≤200:=by omega
 have hm1:0<m:=by omega
 clear hmb
 have hlen:s.data.toList.length=s.size:=Array.length_toList
 have hm:=Lib.hid hm0
 have hlenH:=Lib.hid hlen
 clear hm0 hlen
 have hmk: ∀W,(Instr.makeSlice 128 (.int .i64 (m:Int)) (.int .i64 (m:Int))).run Tryz.prog W= .ok (.slice (some ⟨W.heap.size,0,none⟩) m m) (W.alloc (.cells (madeCells #[.int .u64 0] m) 22)):=fun W=>
  run_make_row' (P:=Tryz.prog) 128 22 (.int .u64 0) 8 Tryz.underlying128 hinfo37 rfl .i64 .i64 m (by omega) (by omega) W
 have hcv: ∀W,(convert 9 163 (.string s)).run Tryz.prog W=_:=fun W=>run_bytes_of_string (P:=Tryz.prog) W 9 163 5 s Tryz.underlying9 Tryz.underlying163 Tryz.underlying5
 have hmc:(madeCells #[Value.int IntKind.u64 0] m)[0]? =some (Value.int IntKind.u64 0):=by simp [madeCells,hm1]
 go_enter Tryz.func69,Tryz.ntmps69
 go_wp2_with (go_at_call 87;refine(many_nat _ m _ hs hm).mono ?_;rintro e w' ⟨rfl,rfl⟩)
 generalize hcap:grownCap _ s.size 0 5=cap
 generalize hW:World.drew _=W0
 obtain⟨hrow,hbox,hby,hbel⟩:=words_start s m cap w hm1 W0 hW
 have hbf:=Lib.hid hbel
 have hbyH:=Lib.hid hby
 clear hmk hmc hcv hcap hW hbel hby
 go_loopw [24] (fun i wr=> ∃k:Nat,k≤s.size∧i= .int .i64 k∧wr.rowIs w.heap.size 22 m (fun j=> .int .u64 (partAt s.data.toList k j:Nat))∧W0.grownBy wr (some w.heap.size)) (fun i _=>s.size-(intOf i).toNat)
 case atStart=>exact⟨0,Nat.zero_le _,rfl,hrow,World.grownBy.refl _ _⟩
 case round=>
  obtain⟨k,hk,rfl,hr,hg⟩:=hrel
  have hbox' :wr.cell? ⟨w.heap.size+1,0,none⟩=some (.slice (some ⟨w.heap.size,0,none⟩) m m):=hg.cell hbox (by simp)
  by_cases hlt:k<s.size
  · have hby' :wr.cell? ⟨w.heap.size+1+1,k,none⟩=some (.int .u8 (byteAt s.data.toList k:Nat)):=hg.cell (hbyH.out k hlt) (by simp;omega)
    have hlay:=Lib.hid (lay_row s.data.toList k w.heap.size m m (w.heap.size+1) wr (by rw [hlenH.out];exact hs) (by rw [hlenH.out];exact hlt) (by rw [hlenH.out];exact hm.out) hbox' hr)
    clear hr hbox hrow
    go_wp2_with (go_at_call 99;refine(hlay.out).mono ?_;rintro e w1 ⟨rfl,hr1,hg1⟩)
    go_roundw
    case rel=>exact⟨k+1,by omega,by go_num,hr1,hg.trans hg1⟩
    case measure=>simp [intOf];omega
  · obtain rfl:k=s.size:=by omega
    have hbb:Below w.heap.size w wr:=hbf.out.grown hg (hbf.out.size) (fun k e=>by cases e;exact Nat.le_refl _)
    have hrH:=Lib.hid hr
    have hgH:=Lib.hid hbb
    clear hr hg hbb
    go_wp2
    go_ret2
    exact⟨rfl,hrH.out.congr fun j _=>by rw [←hlenH.out,partAt_end],hgH.out⟩
end Go.Proofs.YthcmecokejemcaaGreatDoor.Tx
