/- A part. -/
import Derived.Test.YtiopopoohglepaaGreatDoorPMa
import Derived.Test.YtiopopoohglepaaGreatDoorPMl
import Derived.Test.YtiopopoohglepaaGreatDoorChecked
import Derived.WalkKit
import Derived.Below
import Derived.WalkLawsBesides
import Derived.WalkSpells
import Derived.Deep.OwnRows
import Derived.Laws.IdiomStrings
import Derived.Lib.Hide
set_option linter.all false
set_option maxRecDepth 100000
namespace Go.Proofs.YtiopopoohglepaaGreatDoor.Tx
open Go.Proofs.Tryz
open Go.RowKit
theorem Lg(k m:Nat)(w:World)(I:k<=1000)(hm:Hid (m=many k)):
 Calls prog 132 #[.int .i64 k] w λe w' =>e= .returned (.int .i64 m)/\w=w' :=by
 go_enter func132,ntmps132;go_wp2;go_ret;exact⟨by rw [hm.out];simp [many];omega,rfl⟩
theorem X2(i c g n m:Nat)(v:Int)(B:Nat)(w:World)(hi:i<1000)(J:c<256)(O:1+i/8<n)(U:n<2000)
 (V:w.cell? ⟨B,0,none⟩=some (.slice (some ⟨g,0,none⟩) n m))
 (Z:w.cell? ⟨g,1+i/8,none⟩=some (.int .u64 v)) (aa:w.frozen? ⟨g,1+i/8,none⟩=false):
 Calls prog 139 #[.int .i64 i, .int .u8 c, .pointer (some ⟨B,0,none⟩)] w λe w' =>e= .returned (.tuple #[])/\ ∃I,w' =(w.drewN I).setCell ⟨g,1+i/8,none⟩ (.int .u64 (bits .or .u64 v (IntKind.u64.wrap (c*2^(8*(7-i%8)))))):=by
 go_enter func139,ntmps139;go_wp2;refine Cj 15 (by kernel_rfl) (by kernel_rfl) ?_;simp only [List.take_succ_cons,List.take_zero,List.drop_succ_cons,List.drop_zero]
 repeat (go_big_quiet_step (fail))
 refine wpQuiet_nil ?_;rintro _ ⟨I,rfl⟩;go_wp2;go_end0;exact⟨rfl,I,rfl⟩
theorem XO(l:List UInt8)(i g n m B:Nat)(w:World)(ab:l.length<=1000)(hi:i<l.length)(J:n=many l.length)
 (U:w.cell? ⟨B,0,none⟩=some (.slice (some ⟨g,0,none⟩) n m)) (I:w.rowIs g 22 n (λj=> .int .u64 (partAt l i j:Nat))):
 Calls prog 139 #[.int .i64 i, .int .u8 (A4 l i:Nat), .pointer (some ⟨B,0,none⟩)] w λe w' =>e= .returned (.tuple #[])/\
  w'.rowIs g 22 n (λj=> .int .u64 (partAt l (i+1) j:Nat))/\w.grownBy w' (some g):=by
 have O:1+i/8<n:=by rw [J];unfold many;omega
 have ac:=Uw l i (1+i/8) (by omega);have ae:A4 l i*2^(8*(7-i%8))<18446744073709551616:=by
  have h1:=Gn l i;have V:2^(8*(7-i%8))<=2^56:=Nat.pow_le_pow_right (by omega) (by omega);have af:A4 l i*2^(8*(7-i%8))<=255*2^56:=Nat.mul_le_mul (by omega) V;have:(255:Nat)*2^56<18446744073709551616:=by decide
  omega
 refine(X2 i (A4 l i) g n m _ B w (by omega) (Gn l i) O (by rw [J];unfold many;omega) U (I.cell O) (I.frozen _)).mono ?_;rintro e w' ⟨rfl,Z,rfl⟩;refine⟨rfl, ?_, ?_⟩
 . have h1:(w.drewN Z).rowIs g 22 n (λj=> .int .u64 (partAt l i j:Nat)):=I
   refine(h1.set (1+i/8) _).congr λj ag=> ?_
   show(if j=1+i/8 then Value.int .u64 _ else _)=_
   rw [Qh];by_cases h:j=1+i/8
   . rw [if_pos h,if_pos h]
     have hw:IntKind.u64.wrap ((A4 l i:Int)*2^(8*(7-i%8)))=((A4 l i*2^(8*(7-i%8)):Nat):Int):=by
      rw [IntWalk.u64_in]
      . push_cast;rfl
      . have:((A4 l i:Int)*2^(8*(7-i%8)))=((A4 l i*2^(8*(7-i%8)):Nat):Int):=by push_cast;rfl
        rw [this];omega
     rw [hw,bits_or_u64_nat _ _ (by omega) (by omega)]
   . rw [if_neg h,if_neg h]
 . exact⟨rfl,rfl,rfl,by simp [World.setCell],λk ah aa=>Below.heap_setCell _ _ _ _ (λe=>aa (by rw [e]))⟩
theorem XC:(prog.info? 22).map (λi=>(i.zero,i.size,i.bytes))=some (some (.int .u64 0),1,8):=by kernel_rfl
theorem Qw(s:ByteArray)(m cap:Nat)(w:World)(hm:0<m):
 ∀I,(((w.alloc (Obj.cells ((madeCells #[Value.int IntKind.u64 0] m).setIfInBounds 0 (Value.int IntKind.u64 ↑s.size)) 22)).alloc
    (Obj.cells #[Value.slice (some { block:=w.heap.size,off:=0 }) m m] 149)).alloc
    (Obj.cells (bytesRow s cap) 5 ((bytesRow s cap).size,(bytesRow s cap).size+1))).drew=I->
 I.rowIs w.heap.size 22 m (λj=> .int .u64 (partAt s.data.toList 0 j:Nat))/\
 I.cell? ⟨w.heap.size+1,0,none⟩=some (.slice (some ⟨w.heap.size,0,none⟩) m m)/\
 (∀j,j<s.size->I.cell? ⟨w.heap.size+1+1,j,none⟩=some (.int .u8 (A4 s.data.toList j:Nat)))/\
 Below w.heap.size w I:=by
 rintro I rfl;refine⟨?_, ?_, ?_, ?_⟩
 . have h:=World.rowIs_alloc w ((madeCells #[Value.int IntKind.u64 0] m).setIfInBounds 0 (Value.int IntKind.u64 ↑s.size)) 22 (λj=> .int .u64 (partAt s.data.toList 0 j:Nat)) (λi hi=>by
    have J:(madeCells #[Value.int IntKind.u64 0] m).size=m:=size_madeCells _ _;rw [Array.size_setIfInBounds,J] at hi;rw [Array.getElem?_setIfInBounds,QJ];by_cases h0:0=i
    . subst h0
      rw [if_pos rfl,if_pos (by rw [J];exact hm)];simp
    . rw [if_neg h0,if_neg (by omega)]
      simp [madeCells,hi,Nat.mod_one])
   rw [Array.size_setIfInBounds,size_madeCells] at h;exact((h.alloc _).alloc _).drew
 . exact(World.cell?_alloc_lt _ _ _ (by simp)).trans (by
    rw [cell_of_row ((w.alloc (Obj.cells ((madeCells #[Value.int IntKind.u64 0] m).setIfInBounds 0 (Value.int IntKind.u64 ↑s.size)) 22)).alloc (Obj.cells #[Value.slice (some { block:=w.heap.size,off:=0 }) m m] 149)) (w.heap.size+1) 0 #[Value.slice (some { block:=w.heap.size,off:=0 }) m m] 149 (0,0) (by
        have:=heap_alloc_new (w.alloc (Obj.cells ((madeCells #[Value.int IntKind.u64 0] m).setIfInBounds 0 (Value.int IntKind.u64 ↑s.size)) 22)) (Obj.cells #[Value.slice (some { block:=w.heap.size,off:=0 }) m m] 149)
        rwa [World.size_alloc] at this)]
    rfl)
 . intro j V
   have O:=heap_alloc_new ((w.alloc (Obj.cells ((madeCells #[Value.int IntKind.u64 0] m).setIfInBounds 0 (Value.int IntKind.u64 ↑s.size)) 22)).alloc (Obj.cells #[Value.slice (some { block:=w.heap.size,off:=0 }) m m] 149)) (Obj.cells (bytesRow s cap) 5 ((bytesRow s cap).size,(bytesRow s cap).size+1));rw [World.size_alloc,World.size_alloc] at O;have:=cell_of_row _ (w.heap.size+1+1) j _ 5 _ O;refine(show _=_ from this).trans ?_;have U:j<s.data.size:=V;unfold bytesRow A4;rw [Array.getElem?_append_left (by simpa using U)];rw [Array.getElem?_map,Array.getElem?_toList,Array.getElem?_eq_getElem U];rfl
 . exact(((((Below.refl _ w).alloc (Nat.le_refl _) _).alloc (by simp) _).alloc (by simp;omega) _)).drew
theorem Oh(s:ByteArray)(w:World)(hs:s.size<=1000):
 Calls prog 89 #[.string s] w λe w' =>e= .returned (.tuple #[.slice (some ⟨w.heap.size,0,none⟩) (many s.size) (many s.size), .int .i64 0])/\
  w'.rowIs w.heap.size 22 (many s.size) (λj=> .int .u64 (Fo s.data.toList j:Nat))/\Below w.heap.size w w' :=by
 obtain⟨m,I⟩: ∃m,m=many s.size:=⟨_,rfl⟩;rw [<-I];have ai:m=1+(s.size+7)/8:=I;have az:m<=200:=by omega
 have U:0<m:=by omega
 clear ai;have hlen:s.data.toList.length=s.size:=Array.length_toList;have hm:=Lib.hid I;have J:=Lib.hid hlen;clear I hlen
 have aj: ∀W,(Instr.makeSlice 149 (.int .i64 (m:Int)) (.int .i64 (m:Int))).run prog W= .ok (.slice (some ⟨W.heap.size,0,none⟩) m m) (W.alloc (.cells (madeCells #[.int .u64 0] m) 22)):=λW=>
  run_make_row' (P:=prog) 149 22 (.int .u64 0) 8 Tryz.underlying149 XC rfl .i64 .i64 m (by omega) (by omega) W
 have al: ∀W,(convert 9 29 (.string s)).run prog W=_:=λW=>run_bytes_of_string (P:=prog) W 9 29 5 s Tryz.underlying9 Tryz.underlying29 Tryz.underlying5
 have am:(madeCells #[Value.int IntKind.u64 0] m)[0]? =some (Value.int IntKind.u64 0):=by simp [madeCells,U]
 go_enter func89,ntmps89;go_wp2_with (go_at_call 132;refine(Lg _ m _ hs hm).mono ?_;rintro e w' ⟨rfl,rfl⟩);generalize an:grownCap _ s.size 0 5=cap;generalize V:World.drew _=Z;obtain⟨aa,ab,ac,ae⟩:=Qw s m cap w U Z V;have af:=Lib.hid ae;have ao:=Lib.hid ac;clear aj am al an V ae ac
 go_loopw [24] (λi wr=> ∃k:Nat,k<=s.size/\i= .int .i64 k/\wr.rowIs w.heap.size 22 m (λj=> .int .u64 (partAt s.data.toList k j:Nat))/\Z.grownBy wr (some w.heap.size)) (λi _=>s.size-(intOf i).toNat)
 case atStart=>exact⟨0,Nat.zero_le _,rfl,aa,World.grownBy.refl _ _⟩
 case round=>
  obtain⟨k,aA,rfl,O,hg⟩:=hrel;have aq :wr.cell? ⟨w.heap.size+1,0,none⟩=some (.slice (some ⟨w.heap.size,0,none⟩) m m):=hg.cell ab (by simp);by_cases ag:k<s.size
  . have aB :wr.cell? ⟨w.heap.size+1+1,k,none⟩=some (.int .u8 (A4 s.data.toList k:Nat)):=hg.cell (ao k ag) (by simp;omega)
    have ar:=Lib.hid (XO s.data.toList k w.heap.size m m (w.heap.size+1) wr (by rw [J.out];exact hs) (by rw [J.out];exact ag) (by rw [J.out];exact hm.out) aq O);clear O ab aa;go_wp2_with (go_at_call 139;refine(ar).mono ?_;rintro e w1 ⟨rfl,au,aw⟩);go_roundw
    case rel=>exact⟨k+1,by omega,by go_num,au,hg.trans aw⟩
    case measure=>simp [intOf];omega
  . obtain rfl:k=s.size:=by omega
    have ah:Below w.heap.size w wr:=af.grown hg (af.size) (λk e=>by cases e;exact Nat.le_refl _);have ax:=Lib.hid O;have ay:=Lib.hid ah;clear O hg ah;go_wp2
    go_ret2
    exact⟨rfl,ax.congr λj _=>by rw [<-J.out,SF],ay⟩
end Go.Proofs.YtiopopoohglepaaGreatDoor.Tx
