/- the walk of Names -/
import Derived.Test.YtmnhgpkbdiobkaaRows
import Derived.WalkKit
import Derived.WalkSpells
import Derived.WalkLawsBesides
import Derived.RowKit3
namespace Go.Proofs.Ytmnhgpkbdiobkaa.NamesW
open Go.RowKit

def nm : Nat → ByteArray
  | 0 => { data := #[79, 75] } | 1 => { data := #[69, 114, 114, 82, 97, 110, 103, 101] } | 2 => { data := #[69, 114, 114, 83, 104, 97, 112, 101] } | 3 => { data := #[69, 114, 114, 70, 117, 108, 108] }
  | 4 => { data := #[69, 114, 114, 78, 111, 110, 101] } | 5 => { data := #[69, 114, 114, 79, 114, 100, 101, 114] } | 6 => { data := #[69, 114, 114, 70, 97, 105, 108] } | 7 => { data := #[69, 114, 114, 80, 111, 119, 101, 114] }
  | 8 => { data := #[69, 114, 114, 76, 111, 115, 116] } | 9 => { data := #[69, 114, 114, 76, 97, 116, 99, 104, 101, 100] } | 10 => { data := #[69, 114, 114, 83, 116, 97, 116, 101] } | _ => { data := #[69, 114, 114, 83, 121, 110, 116, 97, 120] }

theorem err_any (k : Nat) (hk : k < 12) (w : World) : Calls Try.prog 12 #[.int .i64 k] w fun e w' => e = .returned (.string (nm k)) ∧ w = w' := by
  match k, hk with
  | 0, _ | 1, _ | 2, _ | 3, _ | 4, _ | 5, _ | 6, _ | 7, _ | 8, _ | 9, _ | 10, _ | 11, _ =>
    go_enter Try.func12, Try.ntmps12
    go_wp2
    go_ret
    exact ⟨rfl, rfl⟩
  | k + 12, h => omega

theorem cells_of (w : World) (k : Nat) (hk : k < 12) : (w.alloc (.cells #[.string (nm 0), .string (nm 1), .string (nm 2), .string (nm 3), .string (nm 4), .string (nm 5), .string (nm 6), .string (nm 7), .string (nm 8), .string (nm 9), .string (nm 10), .string (nm 11)] 9)).cell? ⟨w.heap.size, k, none⟩ = some (.string (nm k)) := by
  match k, hk with
  | 0, _ | 1, _ | 2, _ | 3, _ | 4, _ | 5, _ | 6, _ | 7, _ | 8, _ | 9, _ | 10, _ | 11, _ => simp [go_sem]
  | k + 12, h => omega

theorem names_any (w : World) : Calls Try.prog 3 #[] w fun e w' => e = .returned (.bool true) ∧ Below w.heap.size w w' := by
  have hc := cells_of w
  have hb : Below w.heap.size w (w.alloc (.cells #[.string (nm 0), .string (nm 1), .string (nm 2), .string (nm 3), .string (nm 4), .string (nm 5), .string (nm 6), .string (nm 7), .string (nm 8), .string (nm 9), .string (nm 10), .string (nm 11)] 9)) := (Below.refl _ _).alloc (Nat.le_refl _) _
  simp only [nm] at hc hb
  go_enter Try.func3, Try.ntmps3
  go_wp2
  generalize w.alloc _ = w1 at hc hb ⊢
  go_loop [2] (fun i => ∃ k : Nat, k ≤ 12 ∧ i = .int .i64 k) (fun i => 12 - (intOf i).toNat)
  case atStart => exact ⟨0, by omega, rfl⟩
  case round =>
    obtain ⟨k, hk, rfl⟩ := hrel
    by_cases hlt : k < 12
    · have hck : w1.cell? ⟨w.heap.size, k, none⟩ = some (.string (nm k)) := by
        rw [hc k hlt]; match k, hlt with
          | 0, _ | 1, _ | 2, _ | 3, _ | 4, _ | 5, _ | 6, _ | 7, _ | 8, _ | 9, _ | 10, _ | 11, _ => rfl
          | k + 12, h => omega
      clear hc
      have hne : ((nm k).toList == (nm k).toList) = true := by simp
      go_wp2_with (go_at_call 12; refine (err_any k hlt _).mono ?_; rintro e w' ⟨rfl, rfl⟩)
      go_round
      case rel => exact ⟨k + 1, by omega, by go_num⟩
      case measure => simp [intOf]; omega
    · clear hc
      go_wp2
      go_ret
      exact ⟨rfl, hb⟩
end Go.Proofs.Ytmnhgpkbdiobkaa.NamesW
