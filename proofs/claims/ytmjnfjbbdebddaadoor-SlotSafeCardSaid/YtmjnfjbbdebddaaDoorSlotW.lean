/- The walks of slot.number, slot.low. -/
import Derived.Test.YtmjnfjbbdebddaaDoorSame
import Derived.Test.YtmjnfjbbdebddaaDoorSlotPlain
import Derived.Laws.BitsAllLaws
set_option linter.unusedVariables false
namespace Go.Proofs.YtmjnfjbbdebddaaDoor.SlotW
open Go.RowKit Fram SlotP

/-- One byte more in front, as the program writes it. -/
theorem or_front (x : Nat) (b : UInt8) (hx : x * 256 < 18446744073709551616) : bits .or .u64 (IntKind.u64.wrap ((x : Int) * 256)) (b.toNat : Int) = ((b.toNat + 256 * x : Nat) : Int) := by
  have hb := b.toNat_lt
  have e1 : ((x : Int) * 256) = ((x * 256 : Nat) : Int) := by omega
  rw [e1, IntKind.wrap_u64]
  have e2 : (((x * 256 : Nat) : Int) % 18446744073709551616) = ((x * 256 : Nat) : Int) := by omega
  rw [e2, u64_or_nat _ _ (by omega) (by omega), nat_join 8 (x * 256) b.toNat (by omega) (by omega)]
  omega

theorem leN_cons (b : UInt8) (l : List UInt8) : leN (b :: l) = b.toNat + 256 * leN l := rfl

set_option maxHeartbeats 1000000 in
theorem number_any (A : Option Addr) (l : List UInt8) (n cap : Nat) (w : World) (hn : n = l.length) (h8 : l.length ≤ 8) (hr : Rd w A (u8v l)) :
    Calls Tryd.prog 46 #[.slice A n cap] w fun e w' => e = .returned (.int .u64 (leN l)) ∧ w = w' := by
  rcases Nat.eq_zero_or_pos l.length with h0 | h0
  · obtain rfl : n = 0 := by omega
    have hl : leN l = 0 := by rw [List.eq_nil_of_length_eq_zero h0]; rfl
    have HL := hide hl
    clear hl hn h0 h8
    go_enter Tryd.func46, Tryd.ntmps46
    go_wp2
    go_loop [2, 3] (fun c i => c = .int .u64 0 ∧ i = .int .i64 (-1)) (fun _ i => 0)
    case atStart => exact ⟨rfl, rfl⟩
    case round =>
      obtain ⟨rfl, rfl⟩ := hrel
      go_wp2
      go_ret
      exact ⟨by rw [HL.out]; rfl, rfl⟩
  obtain ⟨b, off, rfl, _, hc⟩ := hr.form (by simp [u8v]; omega)
  simp only [u8v, List.getElem_map, List.length_map] at hc
  have HC := hide hc
  have HN := hide hn
  have hn8 : n ≤ 8 := by omega
  clear hc hn h8 h0
  go_enter Tryd.func46, Tryd.ntmps46
  go_wp2
  go_loop [2, 3] (fun c i => ∃ (k x : Nat), k ≤ n ∧ i = .int .i64 ((k : Int) - 1) ∧ c = .int .u64 x ∧ Hid (x = leN (l.drop k))) (fun _ i => (intOf i + 1).toNat)
  case atStart => exact ⟨n, 0, by omega, rfl, rfl, hide (by rw [List.drop_of_length_le (by rw [← HN.out]; exact Nat.le_refl _)]; rfl)⟩
  case round =>
    obtain ⟨k, x, hk, rfl, rfl, HX⟩ := hrel
    by_cases hlt : 0 < k
    · obtain ⟨j, rfl⟩ : ∃ j, k = j + 1 := ⟨k - 1, by omega⟩
      have ej : (((j + 1 : Nat) : Int) - 1) = (j : Int) := by omega
      rw [ej]
      clear ej
      have hin : j < l.length := by rw [← HN.out]; omega
      have hck := HC.out j hin
      have hbd := l[j].toNat_lt
      have hx : x * 256 < 18446744073709551616 := by
        have h1 := leN_lt (l.drop (j + 1))
        rw [← HX.out] at h1
        have h2 : (256 : Nat) ^ (l.drop (j + 1)).length ≤ 256 ^ 7 := Nat.pow_le_pow_right (by omega) (by simp; have := HN.out; omega)
        have h3 : (256 : Nat) ^ 7 = 72057594037927936 := by decide
        omega
      have hor := or_front x l[j] hx
      have HN2 : Hid (l[j].toNat + 256 * x = leN (l.drop j)) := by
        rw [List.drop_eq_getElem_cons hin, leN_cons, HX.out]
        exact hide rfl
      generalize l[j].toNat + 256 * x = y at hor HN2
      clear hx
      go_wp2
      go_round
      case rel => exact ⟨j, y, by omega, by go_num, rfl, HN2⟩
      case measure => simp [intOf]
    · obtain rfl : k = 0 := by omega
      go_wp2
      go_ret
      exact ⟨by rw [HX.out]; rfl, rfl⟩

/-- One byte as the program writes it. -/
theorem byte_low (x k : Nat) : ((x : Int) / 2 ^ (8 * k)) % 256 = ((UInt8.ofNat (x / 256 ^ k)).toNat : Int) := by
  have e0 : (256 : Nat) ^ k = 2 ^ (8 * k) := by rw [show (256 : Nat) = 2 ^ 8 from rfl, ← Nat.pow_mul]
  rw [UInt8.toNat_ofNat', e0]
  have : ((x : Int) / 2 ^ (8 * k)) = ((x / 2 ^ (8 * k) : Nat) : Int) := by simp
  rw [this]
  omega

theorem u8v_snoc (l : List UInt8) (z : UInt8) : u8v (l ++ [z]) = u8v l ++ [.int .u8 (z.toNat : Int)] := by simp [u8v]

set_option maxHeartbeats 1000000 in
theorem low_any (base : Nat) (v : Value) (k m : Nat) (xs : List UInt8) (x : Nat) (w : World) (hown : w.ownsRow base 5 1 v k (u8v xs)) (hbase : base ≤ w.heap.size) (hk : k ≤ 1000000) (hm : m ≤ 8) :
    Calls Tryd.prog 28 #[v, .int .u64 x, .int .i64 m] w fun e w' => ∃ v', e = .returned v' ∧ w'.ownsRow base 5 1 v' (k + m) (u8v (xs ++ lowB x m)) ∧ Below base w w' := by
  obtain ⟨i0, hi0, hz0, hz1, hz2⟩ := info_parts u8_info
  go_enter Tryd.func28, Tryd.ntmps28
  go_wp2
  go_loopw [0, 9] (fun u i wr => ∃ j : Nat, j ≤ m ∧ i = .int .i64 j ∧ wr.ownsRow base 5 1 u (k + j) (u8v (xs ++ lowB x j)) ∧ Below base w wr ∧ base ≤ wr.heap.size) (fun _ i _ => m - (intOf i).toNat)
  case atStart => exact ⟨0, by omega, rfl, by simpa [lowB_zero] using hown, Below.refl _ _, hbase⟩
  case round =>
    clear hown hbase
    obtain ⟨j, hj, rfl, hown, hb, hbase⟩ := hrel
    by_cases hlt : j < m
    · have hby := byte_low x j
      obtain ⟨z, hz⟩ : ∃ z, z = UInt8.ofNat (x / 256 ^ j) := ⟨_, rfl⟩
      rw [← hz] at hby
      have HS : Hid (u8v (xs ++ lowB x (j + 1)) = u8v (xs ++ lowB x j) ++ [.int .u8 (z.toNat : Int)]) := by
        rw [lowB_succ, ← hz, ← List.append_assoc, u8v_snoc]; exact hide rfl
      clear hz
      generalize u8v (xs ++ lowB x j) = cs at hown HS
      go_wp2_with (first
        | (at_builtin
           refine wpList_append_rd _ rfl (.tmp 12) (.tmp 18) 22 rfl base 5 i0 _ 1 Tryd.underlying22 hi0 hz0 hz1 hz2 rfl _ (k + j) cs rfl (by exact hown.alloc _) _ 1 1 [.int .u8 (z.toNat : Int)] rfl rfl (Rd.one _ _ _) ?_ ?_ ?_ ?_ ?_
           · intro u hu; simp at hu; subst hu; rfl
           · simp only [maxLen]; omega
           · omega
           · simp; omega
           intro v' w4 hown4 hg4
           have hb4 := below_own (hb.alloc hbase _) (hown.alloc _) hg4 (by simp; omega) (Nat.le_refl _)
           have hs4 := hg4.size
           simp at hs4))
      go_roundw
      case rel => exact ⟨j + 1, by omega, by go_num, by rw [HS.out]; exact hown4, hb4, by omega⟩
      case measure => simp [intOf]; omega
    · go_wp2
      go_ret
      obtain rfl : j = m := by omega
      exact ⟨_, rfl, hown, hb⟩
end Go.Proofs.YtmjnfjbbdebddaaDoor.SlotW
