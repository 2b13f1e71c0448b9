/- A part. -/
import Derived.Test.YtiopopoohglepaaGreatDoorVMxo
import Derived.Test.YtiopopoohglepaaGreatDoorRows
import Derived.LaidMore
import Derived.OpenShut
import Derived.ShutString
import Derived.ChangeOld
import Derived.Stop.Joined
import Derived.Deep.Slices
import Derived.Deep.Fields
import Derived.ChangeSame
import Derived.Deep.SlicePairs
import Derived.ChangeSlices
import Derived.SizedLaws
set_option linter.all false
set_option maxRecDepth 100000
set_option maxHeartbeats 16000000
namespace Go.Proofs.YtiopopoohglepaaGreatDoor
open Go.Proofs.Tryz
open Go.ChangeShapes Go.WideShapes Go.ChangeAt Go.WideMaps Go.WideElems Go.RowKit Go.Deep
variable {cs:List Value}{fuel:Nat}
theorem own:ownKnob prog.godebug=none:=by kernel_rfl
theorem laidOut:laidOutB prog=true:=by kernel_rfl
theorem ZM:prog.globalNamed "math/bits.deBruijn64tab" =some 1:=by kernel_rfl
theorem ZF:(prog.globals[1]?).map (·.type)=some 246:=by kernel_rfl
abbrev GD:List (String × DataW Unit):= [("math/bits.deBruijn64tab",Rows.laid_math_bits_deBruijn64tab)]
theorem N1:(Rows.laid_math_bits_deBruijn64tab:DataW Unit)= .agg (Lib.deBruijn64tab.map λn=> .lit (.int .u8 (n:Nat))):=rfl
theorem LL(os:Os)(args:Array Value):laidMetH prog GD ((World.doorLaid prog 400 os).forCall (λ_ _=>0) ⟨#[],args,[]⟩).memory:=
 laidMetH_of_parts3 (fuel:=8) (laidMet_of_run' 8 (by kernel_rfl) (by kernel_rfl)) (by kernel_rfl) (by kernel_rfl)
theorem Nf{W:World}(h:laidMetH prog GD W):Hc W:=by
 exact Yah
theorem Ie{n:Int}(h:(Lit.int .i64 n).wf=true): -9223372036854775808<=n/\n<=9223372036854775807:=by
 exact Yge
theorem Jf: ∀{l:List Pr} {j:Nat} {u:Value},(Bv l)[j]? =some u-> ∃(i:Nat) (hi:i<l.length),(j=i*2/\u= .string l[i].1)\/(j=i*2+1/\u= .string l[i].2)
 | [],j,u,h=>by simp [Bv] at h
 |p::l,0,u,h=>by simp [Bv] at h;exact⟨0,by simp, .inl ⟨rfl,h.symm⟩⟩
 |p::l,1,u,h=>by simp [Bv] at h;exact⟨0,by simp, .inr ⟨rfl,h.symm⟩⟩
 |p::l,j+2,u,h=>by
  obtain⟨i,hi,hh⟩:=Jf (l:=l) (j:=j) (u:=u) (by simpa [Bv] using h);refine⟨i+1,by simpa using hi, ?_⟩;rcases hh with ⟨h1,d⟩|⟨h1,d⟩
  . exact .inl ⟨by omega,d⟩
  . exact .inr ⟨by omega,d⟩
theorem E6(b o j:Nat):(⟨b,o,none⟩:Addr).add j=⟨b,o+j,none⟩:=by unfold Addr.add;split<;>simp_all
section
variable {H:Type} {enc:TypeId × Value->H} {w:World} {base:Nat} {held:Bool}
theorem Lg{x:DataW H × List MemPlace}(h:DataW.trod enc prog w base (λ_=>true) held fuel 38 cs=some x): ∃A len cap l,cs= [.slice A len cap]/\len=l.length/\Iz w A l:=by
 exact Yaf
theorem Rt{x:DataW H × List MemPlace}(h:DataW.trod enc prog w base (λ_=>true) held fuel 39 cs=some x): ∃A len cap zs,cs= [.slice A len cap]/\len=zs.length/\LR w A zs:=by
 exact Yaj
end
section
variable {H:Type} {enc:TypeId × Value->H} {w:World} {base:Nat} {held:Bool}
theorem L9{J:List TypeId}{O:List (DataW H)}(hw:(DataW.weightsEach prog J O).all (· <=reachBytes)=true){j len cap:Nat}{A:Option Addr}{d:DataW H}{p:List MemPlace}(I:J[j]? =some 39)(hd:O[j]? =some d)
 (h:DataW.trod enc prog w base (λ_=>true) held fuel 39 [.slice A len cap]=some (d,p)):len<=17592186043904:=by
 exact Yaw
end
end Go.Proofs.YtiopopoohglepaaGreatDoor
namespace Go.Proofs.YtiopopoohglepaaGreatDoor
open Go.Proofs.Tryz
open Go.RowKit Go.Shelf
variable {w:World}
theorem HG(d:Hc w)(t:Int)(l:List Pr)(A:Option Addr)(c:Nat)(zs:List Int)(Z:Option Addr)(I:Nat)(h:Iz w A l)(J:zs.length<=17592186043904)(hg:t<2\/16<t\/100<l.length\/CL l=true\/200<zs.length):
 Calls prog 4 #[.int .i64 t, .slice A l.length c, .slice Z zs.length I] w (FJ w):=by
 exact Yai
def MB(W:World)(F:Nat->Prop)(A:Option Addr)(c:Nat)(l:List Pr):Prop:=AJ W F A (Bv l)/\(A=none->c=0)/\l.length<=c
theorem LY(d:Hc w)(t:Nat)(J:BN.A1 t)(l:List Pr)(A:Option Addr)(c:Nat)(zs:List Int)(Z:Option Addr)(O:Nat)(h:Iz w A l)(I:LR w Z zs)(g1:l.length<=100)(g3:CL l=false)(g4:zs.length<=200):
 Calls prog 4 #[.int .i64 t, .slice A l.length c, .slice Z zs.length O] w (FJ w):=by
 exact Yaa
