/- A part. -/
import Derived.Test.YtiopopoohglepaaGreatDoorVMa
import Derived.Test.YtiopopoohglepaaGreatDoorVMl
import Derived.Test.YtiopopoohglepaaGreatDoorChecked
import Derived.WalkKit
import Derived.Below
import Derived.WalkLawsBesides
import Derived.WalkSpells
import Derived.Deep.OwnRows
import Derived.Laws.IdiomStrings
import Derived.Lib.Hide
set_option linter.all false
set_option maxRecDepth 100000
namespace Go.Proofs.YtiopopoohglepaaGreatDoor.Tx
open Go.Proofs.Tryz
open Go.RowKit
theorem La(k m:Nat)(w:World)(d:k<=1000)(hm:Hid (m=many k)):
 Calls prog 132 #[.int .i64 k] w λe w' =>e= .returned (.int .i64 m)/\w=w' :=by
 go_enter func132,ntmps132;go_wp2;go_ret;exact⟨by rw [hm.out];simp [many];omega,rfl⟩
theorem XB(i c g n m:Nat)(v:Int)(B:Nat)(w:World)(hi:i<1000)(I:c<256)(J:1+i/8<n)(O:n<2000)
 (U:w.cell? ⟨B,0,none⟩=some (.slice (some ⟨g,0,none⟩) n m))
 (V:w.cell? ⟨g,1+i/8,none⟩=some (.int .u64 v)) (Z:w.frozen? ⟨g,1+i/8,none⟩=false):
 Calls prog 139 #[.int .i64 i, .int .u8 c, .pointer (some ⟨B,0,none⟩)] w λe w' =>e= .returned (.tuple #[])/\ ∃d,w' =(w.drewN d).setCell ⟨g,1+i/8,none⟩ (.int .u64 (bits .or .u64 v (IntKind.u64.wrap (c*2^(8*(7-i%8)))))):=by
 go_enter func139,ntmps139;go_wp2;refine Ck 15 (by kernel_rfl) (by kernel_rfl) ?_;simp only [List.take_succ_cons,List.take_zero,List.drop_succ_cons,List.drop_zero]
 repeat (go_big_quiet_step (fail))
 refine wpQuiet_nil ?_;rintro _ ⟨d,rfl⟩;go_wp2;go_end0;exact⟨rfl,d,rfl⟩
theorem Xo(l:List UInt8)(i g n m B:Nat)(w:World)(aa:l.length<=1000)(hi:i<l.length)(I:n=many l.length)
 (O:w.cell? ⟨B,0,none⟩=some (.slice (some ⟨g,0,none⟩) n m)) (d:w.rowIs g 22 n (λj=> .int .u64 (partAt l i j:Nat))):
 Calls prog 139 #[.int .i64 i, .int .u8 (A4 l i:Nat), .pointer (some ⟨B,0,none⟩)] w λe w' =>e= .returned (.tuple #[])/\
  w'.rowIs g 22 n (λj=> .int .u64 (partAt l (i+1) j:Nat))/\w.grownBy w' (some g):=by
 have J:1+i/8<n:=by rw [I];unfold many;omega
 have ab:=Ub l i (1+i/8) (by omega);have ac:A4 l i*2^(8*(7-i%8))<18446744073709551616:=by
  have h1:=Gl l i;have U:2^(8*(7-i%8))<=2^56:=Nat.pow_le_pow_right (by omega) (by omega);have ae:A4 l i*2^(8*(7-i%8))<=255*2^56:=Nat.mul_le_mul (by omega) U;have:(255:Nat)*2^56<18446744073709551616:=by decide
  omega
 refine(XB i (A4 l i) g n m _ B w (by omega) (Gl l i) J (by rw [I];unfold many;omega) O (d.cell J) (d.frozen _)).mono ?_;rintro e w' ⟨rfl,V,rfl⟩;refine⟨rfl, ?_, ?_⟩
 . have h1:(w.drewN V).rowIs g 22 n (λj=> .int .u64 (partAt l i j:Nat)):=d
   refine(h1.set (1+i/8) _).congr λj af=> ?_
   show(if j=1+i/8 then Value.int .u64 _ else _)=_
   rw [P9];by_cases h:j=1+i/8
   . rw [if_pos h,if_pos h]
     have hw:IntKind.u64.wrap ((A4 l i:Int)*2^(8*(7-i%8)))=((A4 l i*2^(8*(7-i%8)):Nat):Int):=by
      rw [IntWalk.u64_in]
      . push_cast;rfl
      . have:((A4 l i:Int)*2^(8*(7-i%8)))=((A4 l i*2^(8*(7-i%8)):Nat):Int):=by push_cast;rfl
        rw [this];omega
     rw [hw,bits_or_u64_nat _ _ (by omega) (by omega)]
   . rw [if_neg h,if_neg h]
 . exact⟨rfl,rfl,rfl,by simp [World.setCell],λk ag Z=>Below.heap_setCell _ _ _ _ (λe=>Z (by rw [e]))⟩
theorem Xa:(prog.info? 22).map (λi=>(i.zero,i.size,i.bytes))=some (some (.int .u64 0),1,8):=by kernel_rfl
theorem Qp(s:ByteArray)(m cap:Nat)(w:World)(hm:0<m):
 ∀d,(((w.alloc (Obj.cells ((madeCells #[Value.int IntKind.u64 0] m).setIfInBounds 0 (Value.int IntKind.u64 ↑s.size)) 22)).alloc
    (Obj.cells #[Value.slice (some { block:=w.heap.size,off:=0 }) m m] 149)).alloc
    (Obj.cells (bytesRow s cap) 5 ((bytesRow s cap).size,(bytesRow s cap).size+1))).drew=d->
 d.rowIs w.heap.size 22 m (λj=> .int .u64 (partAt s.data.toList 0 j:Nat))/\
 d.cell? ⟨w.heap.size+1,0,none⟩=some (.slice (some ⟨w.heap.size,0,none⟩) m m)/\
 (∀j,j<s.size->d.cell? ⟨w.heap.size+1+1,j,none⟩=some (.int .u8 (A4 s.data.toList j:Nat)))/\
 Below w.heap.size w d:=by
 rintro d rfl;refine⟨?_, ?_, ?_, ?_⟩
 . have h:=World.rowIs_alloc w ((madeCells #[Value.int IntKind.u64 0] m).setIfInBounds 0 (Value.int IntKind.u64 ↑s.size)) 22 (λj=> .int .u64 (partAt s.data.toList 0 j:Nat)) (λi hi=>by
    have I:(madeCells #[Value.int IntKind.u64 0] m).size=m:=size_madeCells _ _;rw [Array.size_setIfInBounds,I] at hi;rw [Array.getElem?_setIfInBounds,QB];by_cases h0:0=i
    . subst h0
      rw [if_pos rfl,if_pos (by rw [I];exact hm)];simp
    . rw [if_neg h0,if_neg (by omega)]
      simp [madeCells,hi,Nat.mod_one])
   rw [Array.size_setIfInBounds,size_madeCells] at h;exact((h.alloc _).alloc _).drew
 . exact(World.cell?_alloc_lt _ _ _ (by simp)).trans (by
    rw [cell_of_row ((w.alloc (Obj.cells ((madeCells #[Value.int IntKind.u64 0] m).setIfInBounds 0 (Value.int IntKind.u64 ↑s.size)) 22)).alloc (Obj.cells #[Value.slice (some { block:=w.heap.size,off:=0 }) m m] 149)) (w.heap.size+1) 0 #[Value.slice (some { block:=w.heap.size,off:=0 }) m m] 149 (0,0) (by
        have:=heap_alloc_new (w.alloc (Obj.cells ((madeCells #[Value.int IntKind.u64 0] m).setIfInBounds 0 (Value.int IntKind.u64 ↑s.size)) 22)) (Obj.cells #[Value.slice (some { block:=w.heap.size,off:=0 }) m m] 149)
        rwa [World.size_alloc] at this)]
    rfl)
 . intro j U
   have J:=heap_alloc_new ((w.alloc (Obj.cells ((madeCells #[Value.int IntKind.u64 0] m).setIfInBounds 0 (Value.int IntKind.u64 ↑s.size)) 22)).alloc (Obj.cells #[Value.slice (some { block:=w.heap.size,off:=0 }) m m] 149)) (Obj.cells (bytesRow s cap) 5 ((bytesRow s cap).size,(bytesRow s cap).size+1));rw [World.size_alloc,World.size_alloc] at J;have:=cell_of_row _ (w.heap.size+1+1) j _ 5 _ J;refine(show _=_ from this).trans ?_;have O:j<s.data.size:=U;unfold bytesRow A4;rw [Array.getElem?_append_left (by simpa using O)];rw [Array.getElem?_map,Array.getElem?_toList,Array.getElem?_eq_getElem O];rfl
 . exact(((((Below.refl _ w).alloc (Nat.le_refl _) _).alloc (by simp) _).alloc (by simp;omega) _)).drew
theorem Oe(s:ByteArray)(w:World)(hs:s.size<=1000):
 Calls prog 89 #[.string s] w λe w' =>e= .returned (.tuple #[.slice (some ⟨w.heap.size,0,none⟩) (many s.size) (many s.size), .int .i64 0])/\
  w'.rowIs w.heap.size 22 (many s.size) (λj=> .int .u64 (Fl s.data.toList j:Nat))/\Below w.heap.size w w' :=by
 obtain⟨m,d⟩: ∃m,m=many s.size:=⟨_,rfl⟩;rw [<-d];have ah:m=1+(s.size+7)/8:=d;have ay:m<=200:=by omega
 have O:0<m:=by omega
 clear ah;have hlen:s.data.toList.length=s.size:=Array.length_toList;have hm:=Lib.hid d;have I:=Lib.hid hlen;clear d hlen
 have ai: ∀W,(Instr.makeSlice 149 (.int .i64 (m:Int)) (.int .i64 (m:Int))).run prog W= .ok (.slice (some ⟨W.heap.size,0,none⟩) m m) (W.alloc (.cells (madeCells #[.int .u64 0] m) 22)):=λW=>
  run_make_row' (P:=prog) 149 22 (.int .u64 0) 8 Tryz.underlying149 Xa rfl .i64 .i64 m (by omega) (by omega) W
 have aj: ∀W,(convert 9 29 (.string s)).run prog W=_:=λW=>run_bytes_of_string (P:=prog) W 9 29 5 s Tryz.underlying9 Tryz.underlying29 Tryz.underlying5
 have al:(madeCells #[Value.int IntKind.u64 0] m)[0]? =some (Value.int IntKind.u64 0):=by simp [madeCells,O]
 go_enter func89,ntmps89;go_wp2_with (go_at_call 132;refine(La _ m _ hs hm).mono ?_;rintro e w' ⟨rfl,rfl⟩);generalize am:grownCap _ s.size 0 5=cap;generalize U:World.drew _=V;obtain⟨Z,aa,ab,ac⟩:=Qp s m cap w O V U;have ae:=Lib.hid ac;have an:=Lib.hid ab;clear ai al aj am U ac ab
 go_loopw [24] (λi wr=> ∃k:Nat,k<=s.size/\i= .int .i64 k/\wr.rowIs w.heap.size 22 m (λj=> .int .u64 (partAt s.data.toList k j:Nat))/\V.grownBy wr (some w.heap.size)) (λi _=>s.size-(intOf i).toNat)
 case atStart=>exact⟨0,Nat.zero_le _,rfl,Z,World.grownBy.refl _ _⟩
 case round=>
  obtain⟨k,az,rfl,J,hg⟩:=hrel;have ao :wr.cell? ⟨w.heap.size+1,0,none⟩=some (.slice (some ⟨w.heap.size,0,none⟩) m m):=hg.cell aa (by simp);by_cases af:k<s.size
  . have aA :wr.cell? ⟨w.heap.size+1+1,k,none⟩=some (.int .u8 (A4 s.data.toList k:Nat)):=hg.cell (an k af) (by simp;omega)
    have aq:=Lib.hid (Xo s.data.toList k w.heap.size m m (w.heap.size+1) wr (by rw [I.out];exact hs) (by rw [I.out];exact af) (by rw [I.out];exact hm.out) ao J);clear J aa Z;go_wp2_with (go_at_call 139;refine(aq).mono ?_;rintro e w1 ⟨rfl,ar,au⟩);go_roundw
    case rel=>exact⟨k+1,by omega,by go_num,ar,hg.trans au⟩
    case measure=>simp [intOf];omega
  . obtain rfl:k=s.size:=by omega
    have ag:Below w.heap.size w wr:=ae.grown hg (ae.size) (λk e=>by cases e;exact Nat.le_refl _);have aw:=Lib.hid J;have ax:=Lib.hid ag;clear J hg ag;go_wp2
    go_ret2
    exact⟨rfl,aw.congr λj _=>by rw [<-I.out,Si],ax⟩
end Go.Proofs.YtiopopoohglepaaGreatDoor.Tx
