/- What the cards' rows list: errors.errorType; what the condition gives a walk; a world that meets it. Turned from lines of the kit's worked example Toyas. -/
import Derived.Test.YtlaipigilikmbaaGreatDoorRows
import Derived.Test.YtlaipigilikmbaaGreatDoorToldMb
import Derived.ChangeSame
import Derived.ChangeVars
import Derived.JoinedOf
import Derived.RowKit
import Derived.RowKitTokens
import Derived.LaidLaws
import Derived.LaidHandle
import Derived.Stop.Joined
namespace Go.Proofs.YtlaipigilikmbaaGreatDoor
open Go.ChangeShapes Go.WideShapes Go.RowKit ToldW

theorem own:ownKnob Tryz.prog.godebug = none:=by kernel_rfl
theorem laidOut:laidOutB Tryz.prog = true:=by kernel_rfl
theorem et:Tryz.prog.globalNamed "errors.errorType" = some 0:=by kernel_rfl
theorem rt:(Tryz.prog.cutTypes.find? (·.1 == "internal/reflectlite.rtype")).map (·.2) = some 161:=by kernel_rfl
theorem oneRow:((List.range 231).filter fun t=>Tryz.prog.rowNamed t [101,114,114,111,114]) = [29]:=by kernel_rfl
theorem tsize:Tryz.prog.types.size = 231:=by kernel_rfl

def theList:List (String × DataW Unit):=[("errors.errorType",Rows.laid_errors_errorType)]

theorem handle_of_laid {W:World} (h:laidMetH Tryz.prog theList W):ErrT W:=by
  have h':laidMet Tryz.prog [] W∧handlesMet Tryz.prog theList W:=h
  obtain ⟨name,u,ty,e1,e2,e3,e4,e5⟩:=h'.2 _ (List.mem_singleton.2 rfl)
  have en:name = [101,114,114,111,114]:=(Option.some.inj e1).symm
  subst en
  obtain rfl:=Option.some.inj (rt.symm.trans e2)
  have hm:ty ∈ (List.range 231).filter fun t=>Tryz.prog.rowNamed t [101,114,114,111,114]:=List.mem_filter.2 ⟨List.mem_range.2 (by rw [← tsize]; exact e3),e4⟩
  rw [oneRow] at hm
  obtain rfl:=List.mem_singleton.1 hm
  have hh:typeHandle Tryz.prog 29 = .pointer (some ⟨2,29,none⟩):=by kernel_rfl
  rw [hh] at e5
  unfold ErrT
  simpa using World.var?_cell et e5 0

noncomputable def laidWorld (os:Os):World :=
  let w0:=World.holding Tryz.prog os ⟨#[],#[],[]⟩
  { w0 with heap:=w0.heap.modify 0 fun
      | .cells _ t frozen=>.cells #[.iface 161 (.agg #[.pointer (some ⟨2,29,none⟩)])] t frozen
      | o=>o }
theorem laidWorld_met (os:Os) (args:Array Value):laidMetH Tryz.prog theList ((laidWorld os).forCall (fun _ _=>0) ⟨#[],args,[]⟩).memory :=
  laidMetH_of_parts (laidMet_nil _ _) (by kernel_rfl)
end Go.Proofs.YtlaipigilikmbaaGreatDoor
