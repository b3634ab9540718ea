/- The walk of granaryref1.ofLow. -/
import Derived.Test.YtmnhgpkbdiobkaaSame
import Derived.Test.YtmnhgpkbdiobkaaFramePlain
set_option linter.unusedVariables false
namespace Go.Proofs.Ytmnhgpkbdiobkaa.RefW
open Go.RowKit Fram

theorem leN_cons (b : UInt8) (l : List UInt8) : leN (b :: l) = b.toNat + 256 * leN l := rfl

theorem leN_drop_le (l : List UInt8) (k : Nat) : leN (l.drop k) ≤ leN l := by
  induction k generalizing l with
  | zero => simp
  | succ k ih =>
    cases l with
    | nil => simp
    | cons b t =>
      rw [List.drop_succ_cons, leN_cons]
      have := ih t
      omega

set_option maxHeartbeats 1000000 in
theorem ofLow_any (A : Option Addr) (l : List UInt8) (n cap : Nat) (w : World) (hn : n = l.length) (h0 : 0 < l.length) (h8 : leN l < 9223372036854775808) (hl8 : l.length ≤ 8) (hr : Rd w A (u8v l)) :
    Calls Try.prog 37 #[.slice A n cap] w fun e w' => e = .returned (.int .i64 (leN l)) ∧ w = w' := by
  obtain ⟨b, off, rfl, _, hc⟩ := hr.form (by simp [u8v]; omega)
  simp only [u8v, List.getElem_map, List.length_map] at hc
  have HC := hide hc
  have HN := hide hn
  have hn8 : n ≤ 8 := by omega
  have H8 := hide h8
  clear hc hn h8 h0 hl8
  go_enter Try.func37, Try.ntmps37
  go_wp2
  go_loop [3, 4] (fun c i => ∃ (k x : Nat), k ≤ n ∧ i = .int .i64 ((k : Int) - 1) ∧ c = .int .i64 x ∧ Hid (x = leN (l.drop k))) (fun _ i => (intOf i + 1).toNat)
  case atStart => exact ⟨n, 0, by omega, rfl, rfl, hide (by rw [List.drop_of_length_le (by rw [← HN.out]; exact Nat.le_refl _)]; rfl)⟩
  case round =>
    obtain ⟨k, x, hk, rfl, rfl, HX⟩ := hrel
    by_cases hlt : 0 < k
    · obtain ⟨j, rfl⟩ : ∃ j, k = j + 1 := ⟨k - 1, by omega⟩
      have ej : (((j + 1 : Nat) : Int) - 1) = (j : Int) := by omega
      rw [ej]
      clear ej
      have hin : j < l.length := by rw [← HN.out]; omega
      have hck := HC.out j hin
      have hbd := l[j].toNat_lt
      have e1 : leN (l.drop j) = l[j].toNat + 256 * leN (l.drop (j + 1)) := by rw [List.drop_eq_getElem_cons hin, leN_cons]
      have hx : (x : Int) * 256 + (l[j].toNat : Int) ≤ 9223372036854775807 := by
        have h1 := leN_drop_le l j
        have h2 := H8.out
        rw [e1, ← HX.out] at h1
        omega
      have HN2 : Hid (l[j].toNat + 256 * x = leN (l.drop j)) := hide (by rw [e1, HX.out])
      clear e1
      generalize l[j].toNat = z at hck hbd hx HN2
      go_wp2
      go_round
      case rel => exact ⟨j, z + 256 * x, by omega, by go_num, by congr 1; omega, HN2⟩
      case measure => simp [intOf]
    · obtain rfl : k = 0 := by omega
      go_wp2
      go_ret
      exact ⟨by rw [HX.out]; rfl, rfl⟩
end Go.Proofs.Ytmnhgpkbdiobkaa.RefW
