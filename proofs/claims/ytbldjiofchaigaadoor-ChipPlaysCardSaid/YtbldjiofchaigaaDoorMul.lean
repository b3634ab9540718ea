/- math/bits.Mul of one and a small number. -/
import Derived.Test.YtbldjiofchaigaaDoorBase
import Derived.Test.YtbldjiofchaigaaDoorChecked
set_option linter.unusedVariables false
namespace Go.Proofs.YtbldjiofchaigaaDoor.RepW
open Go.RowKit

theorem and_one : bits .and .u64 1 4294967295 = 1 := by kernel_rfl
theorem and_small (n : Nat) (hn : n ≤ 256) : bits .and .u64 (n : Int) 4294967295 = (n : Int) := by
  have h : ∀ m : Fin 257, bits .and .u64 ((m.val : Nat) : Int) 4294967295 = ((m.val : Nat) : Int) := by decide +kernel
  exact h ⟨n, by omega⟩
theorem and_zero : bits .and .u64 0 4294967295 = 0 := by kernel_rfl

set_option maxHeartbeats 1000000 in
theorem mul64_any (n : Nat) (w : World) (hn : n ≤ 256) :
    Calls Tryd.prog 41 #[.int .u64 1, .int .u64 n] w fun e w' => e = .returned (.tuple #[.int .u64 0, .int .u64 n]) ∧ w' = w := by
  have a1 := and_one
  have a2 := and_small n hn
  have a0 := and_zero
  have d1 : (n : Int) / 4294967296 = 0 := by omega
  have w1 : IntKind.u64.wrap (n : Int) = (n : Int) := by rw [IntKind.wrap_u64]; omega
  go_enter Tryd.func41, Tryd.ntmps41
  go_wp2
  go_ret2
  exact ⟨rfl, rfl⟩
set_option maxHeartbeats 1000000 in
theorem mul_any (n : Nat) (w : World) (hn : n ≤ 256) :
    Calls Tryd.prog 34 #[.int .u64 1, .int .u64 n] w fun e w' => e = .returned (.tuple #[.int .u64 0, .int .u64 n]) ∧ w' = w := by
  have c64 := hide (mul64_any n w hn)
  go_enter Tryd.func34, Tryd.ntmps34
  go_wp2_with fail
  refine c64.out.mono ?_
  rintro e w' ⟨rfl, rfl⟩
  go_wp2_with fail
  go_ret2
  exact ⟨rfl, rfl⟩
end Go.Proofs.YtbldjiofchaigaaDoor.RepW
