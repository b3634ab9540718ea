/- The walk of granarysame.Pick. -/
import Derived.Test.YtndiionpijjdbaaBase
import Derived.Test.YtndiionpijjdbaaChecked
import Derived.WalkLawsBesides
set_option linter.unusedVariables false
namespace Go.Proofs.Ytndiionpijjdbaa
open Go.RowKit

/-- What Pick gives of c and n. -/
def pickN (c : Int) (n : Nat) : Nat := ((if c < 0 then -(c + 1) else c) % (n : Int)).toNat
theorem pickN_lt (c : Int) (n : Nat) (hn : 0 < n) : pickN c n < n := by
  unfold pickN
  have h1 : 0 ≤ (if c < 0 then -(c + 1) else c) % (n : Int) := Int.emod_nonneg _ (by omega)
  have h2 := Int.emod_lt_of_pos (if c < 0 then -(c + 1) else c) (b := (n : Int)) (by omega)
  omega
theorem pickN_cast (c : Int) (n : Nat) (hn : 0 < n) : ((pickN c n : Nat) : Int) = (if c < 0 then -(c + 1) else c) % (n : Int) := by
  unfold pickN
  have h1 : 0 ≤ (if c < 0 then -(c + 1) else c) % (n : Int) := Int.emod_nonneg _ (by omega)
  omega

theorem pick_any (c : Int) (n : Nat) (q : Int) (hq : q = (n : Int)) (hn : 0 < n) (hn2 : n ≤ 4611686018427387904) (h1 : -9223372036854775808 ≤ c) (h2 : c ≤ 9223372036854775807) (w : World) :
    Calls Try.prog 7 #[.int .i64 c, .int .i64 q] w fun e w' => e = .returned (.int .i64 (pickN c n)) ∧ w = w' := by
  subst hq
  rw [pickN_cast c n hn]
  have hne : ((n : Int) == 0) = false := by simp; omega
  by_cases hc : c < 0
  · rw [if_pos hc]
    have hE : -(c + 1).tmod (n : Int) = -(c + 1) % (n : Int) := by
      rw [← Int.neg_tmod, Int.tmod_eq_emod_of_nonneg (by omega)]
    have HE := hide hE
    clear hE
    go_enter Try.func7, Try.ntmps7
    go_wp2
    go_ret
    exact ⟨congrArg (fun x => Ending.returned (.int .i64 x)) HE.out, rfl⟩
  · rw [if_neg hc]
    go_enter Try.func7, Try.ntmps7
    go_wp2
    go_ret
    exact ⟨rfl, rfl⟩

end Go.Proofs.Ytndiionpijjdbaa
