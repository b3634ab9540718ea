/- The walks of code.word, code.check, code.fits. -/
import Derived.Test.YtakgbejeaheihaaDoorBase
import Derived.Test.YtakgbejeaheihaaDoorPlaces
namespace Go.Proofs.YtakgbejeaheihaaDoor.WordW
open Go.RowKit Pop

/-- The number whose bytes these are, the lowest first. -/
def le : List UInt8 → Nat
  | [] => 0
  | b :: t => b.toNat + 256 * le t

theorem le_lt (l : List UInt8) : le l < 256 ^ l.length := by
  induction l with
  | nil => simp [le]
  | cons b t ih =>
    have := b.toNat_lt
    simp only [le, List.length_cons, Nat.pow_succ]
    omega

theorem le_snoc (l : List UInt8) (b : UInt8) : le (l ++ [b]) = le l + b.toNat * 256 ^ l.length := by
  induction l with
  | nil => simp [le]
  | cons c t ih =>
    simp only [List.cons_append, le, ih, List.length_cons, Nat.pow_succ]
    rw [Nat.mul_add, Nat.add_assoc]
    congr 2
    rw [Nat.mul_comm (256 ^ t.length) 256, ← Nat.mul_assoc, ← Nat.mul_assoc, Nat.mul_comm 256]

/-- One byte more, as the program writes it. -/
theorem or_byte (x k : Nat) (b : UInt8) (hk : k < 8) (hx : x < 256 ^ k) : bits .or .u64 (x : Int) (IntKind.u64.wrap ((b.toNat : Int) * 2 ^ (8 * k))) = ((x + b.toNat * 256 ^ k : Nat) : Int) := by
  have hb := b.toNat_lt
  have e0 : (256 : Nat) ^ k = 2 ^ (8 * k) := by rw [show (256 : Nat) = 2 ^ 8 from rfl, ← Nat.pow_mul]
  have e1 : (((b.toNat : Int) * 2 ^ (8 * k))) = ((b.toNat * 2 ^ (8 * k) : Nat) : Int) := by simp
  have hp : (2 : Nat) ^ (8 * k) ≤ 2 ^ 56 := Nat.pow_le_pow_right (by omega) (by omega)
  have hm : b.toNat * 2 ^ (8 * k) ≤ 255 * 2 ^ (8 * k) := Nat.mul_le_mul_right _ (by omega)
  rw [e1, IntKind.wrap_u64]
  have e2 : (((b.toNat * 2 ^ (8 * k) : Nat) : Int) % 18446744073709551616) = ((b.toNat * 2 ^ (8 * k) : Nat) : Int) := by omega
  rw [e0] at hx
  rw [e2, u64_or_nat _ _ (by omega) (by omega), Nat.or_comm, nat_join (8 * k) _ _ (Nat.mul_mod_left _ _) hx, e0, Nat.add_comm]

theorem word_any (A : Option Addr) (l : List UInt8) (n cap : Nat) (w : World) (hn : n = l.length) (h8 : 8 ≤ l.length) (hr : Rd w A (u8v l)) :
    Calls Tryd.prog 20 #[.slice A n cap] w fun e w' => e = .returned (.int .u64 (le (l.take 8))) ∧ w = w' := by
  subst hn
  obtain ⟨b, off, rfl, _, hc⟩ := hr.form (by simp [u8v]; omega)
  simp only [u8v, List.getElem_map, List.length_map] at hc
  have HC := hide hc
  clear hc
  go_enter Tryd.func20, Tryd.ntmps20
  go_wp2
  go_loop [2, 4] (fun c i => ∃ (k x : Nat), k ≤ 8 ∧ i = .int .i64 k ∧ c = .int .u64 x ∧ Hid (x = le (l.take k))) (fun _ i => 8 - (intOf i).toNat)
  case atStart => exact ⟨0, 0, by omega, rfl, rfl, hide (by simp [le])⟩
  case round =>
    obtain ⟨k, x, hk, rfl, rfl, HX⟩ := hrel
    by_cases hlt : k < 8
    · have hck := HC.out k (by omega)
      have hbd := l[k].toNat_lt
      have hin : k < l.length := by omega
      have hlen : (l.take k).length = k := by simp; omega
      have hlx : x < 256 ^ k := by have := le_lt (l.take k); rw [hlen] at this; rw [HX.out]; exact this
      have hor := or_byte x k l[k] hlt hlx
      have HN : Hid (x + l[k].toNat * 256 ^ k = le (l.take (k + 1))) := by
        have e := le_snoc (l.take k) l[k]
        rw [← List.take_succ_eq_append_getElem hin, hlen, ← HX.out] at e
        exact hide e.symm
      generalize x + l[k].toNat * 256 ^ k = y at hor HN
      clear hlx hlen
      go_wp2
      go_round
      case rel => exact ⟨k + 1, y, by omega, by go_num, rfl, HN⟩
      case measure => simp [intOf]; omega
    · go_wp2
      go_ret
      obtain rfl : k = 8 := by omega
      exact ⟨by rw [← HX.out]; rfl, rfl⟩

/-- The seven parities of a word under seven masks. -/
def par7 (m : Nat → Nat) (x : Nat) : Nat → Nat
  | 0 => 0
  | k + 1 => par7 m x k + popc 64 (x &&& m k) % 2 * 2 ^ k

theorem par7_lt (m : Nat → Nat) (x k : Nat) : par7 m x k < 2 ^ k := by
  induction k with
  | zero => simp [par7]
  | succ k ih =>
    simp only [par7, Nat.pow_succ]
    have : popc 64 (x &&& m k) % 2 ≤ 1 := by omega
    have h2 : popc 64 (x &&& m k) % 2 * 2 ^ k ≤ 1 * 2 ^ k := Nat.mul_le_mul_right _ this
    omega

/-- The check byte. -/
def chkBy (m : Nat → Nat) (x : Nat) : Nat := par7 m x 7 + (popc 64 x + popc 8 (par7 m x 7)) % 2 * 128

theorem mask_at0 (a0 a1 a2 a3 a4 a5 a6 : Int) : ∀ w : World, (Instr.index 46 (.agg #[.int .u64 a0, .int .u64 a1, .int .u64 a2, .int .u64 a3, .int .u64 a4, .int .u64 a5, .int .u64 a6]) (.int .i64 0)).run Tryd.prog w = .ok (.int .u64 a0) w := fun _ => by kernel_rfl
theorem mask_at1 (a0 a1 a2 a3 a4 a5 a6 : Int) : ∀ w : World, (Instr.index 46 (.agg #[.int .u64 a0, .int .u64 a1, .int .u64 a2, .int .u64 a3, .int .u64 a4, .int .u64 a5, .int .u64 a6]) (.int .i64 1)).run Tryd.prog w = .ok (.int .u64 a1) w := fun _ => by kernel_rfl
theorem mask_at2 (a0 a1 a2 a3 a4 a5 a6 : Int) : ∀ w : World, (Instr.index 46 (.agg #[.int .u64 a0, .int .u64 a1, .int .u64 a2, .int .u64 a3, .int .u64 a4, .int .u64 a5, .int .u64 a6]) (.int .i64 2)).run Tryd.prog w = .ok (.int .u64 a2) w := fun _ => by kernel_rfl
theorem mask_at3 (a0 a1 a2 a3 a4 a5 a6 : Int) : ∀ w : World, (Instr.index 46 (.agg #[.int .u64 a0, .int .u64 a1, .int .u64 a2, .int .u64 a3, .int .u64 a4, .int .u64 a5, .int .u64 a6]) (.int .i64 3)).run Tryd.prog w = .ok (.int .u64 a3) w := fun _ => by kernel_rfl
theorem mask_at4 (a0 a1 a2 a3 a4 a5 a6 : Int) : ∀ w : World, (Instr.index 46 (.agg #[.int .u64 a0, .int .u64 a1, .int .u64 a2, .int .u64 a3, .int .u64 a4, .int .u64 a5, .int .u64 a6]) (.int .i64 4)).run Tryd.prog w = .ok (.int .u64 a4) w := fun _ => by kernel_rfl
theorem mask_at5 (a0 a1 a2 a3 a4 a5 a6 : Int) : ∀ w : World, (Instr.index 46 (.agg #[.int .u64 a0, .int .u64 a1, .int .u64 a2, .int .u64 a3, .int .u64 a4, .int .u64 a5, .int .u64 a6]) (.int .i64 5)).run Tryd.prog w = .ok (.int .u64 a5) w := fun _ => by kernel_rfl
theorem mask_at6 (a0 a1 a2 a3 a4 a5 a6 : Int) : ∀ w : World, (Instr.index 46 (.agg #[.int .u64 a0, .int .u64 a1, .int .u64 a2, .int .u64 a3, .int .u64 a4, .int .u64 a5, .int .u64 a6]) (.int .i64 6)).run Tryd.prog w = .ok (.int .u64 a6) w := fun _ => by kernel_rfl

theorem mask_at (m : Nat → Nat) (k : Nat) (hk : k < 7) (w : World) :
    (Instr.index 46 (.agg #[.int .u64 (m 0), .int .u64 (m 1), .int .u64 (m 2), .int .u64 (m 3), .int .u64 (m 4), .int .u64 (m 5), .int .u64 (m 6)]) (.int .i64 k)).run Tryd.prog w = .ok (.int .u64 (m k)) w := by
  have h : k = 0 ∨ k = 1 ∨ k = 2 ∨ k = 3 ∨ k = 4 ∨ k = 5 ∨ k = 6 := by omega
  rcases h with rfl | rfl | rfl | rfl | rfl | rfl | rfl
  · exact mask_at0 _ _ _ _ _ _ _ w
  · exact mask_at1 _ _ _ _ _ _ _ w
  · exact mask_at2 _ _ _ _ _ _ _ w
  · exact mask_at3 _ _ _ _ _ _ _ w
  · exact mask_at4 _ _ _ _ _ _ _ w
  · exact mask_at5 _ _ _ _ _ _ _ w
  · exact mask_at6 _ _ _ _ _ _ _ w

/-- One parity more, as the program writes it. -/
theorem or_par (y k p : Nat) (hk : k < 8) (hy : y < 2 ^ k) (hp : p ≤ 128) : bits .or .u8 (y : Int) (bits .and .i64 (p : Int) 1 % 256 * 2 ^ k % 256) = ((y + p % 2 * 2 ^ k : Nat) : Int) := by
  rw [and_i64 p 1 _ 1 rfl rfl (by omega) (by omega), Nat.and_one_is_mod]
  have hpow : (2 : Nat) ^ k ≤ 2 ^ 7 := Nat.pow_le_pow_right (by omega) (by omega)
  have e0 : (((p % 2 : Nat) : Int) % 256) = ((p % 2 : Nat) : Int) := by omega
  have e1 : (((p % 2 : Nat) : Int) * 2 ^ k) = ((p % 2 * 2 ^ k : Nat) : Int) := by simp
  have hm : p % 2 * 2 ^ k ≤ 1 * 2 ^ k := Nat.mul_le_mul_right _ (by omega)
  have e2 : (((p % 2 * 2 ^ k : Nat) : Int) % 256) = ((p % 2 * 2 ^ k : Nat) : Int) := by omega
  rw [e0, e1, e2, u8_or_nat _ _ (by omega) (by omega), Nat.or_comm, nat_join k _ _ (Nat.mul_mod_left _ _) hy, Nat.add_comm]

theorem par7_zero (m : Nat → Nat) (x : Nat) : par7 m x 0 = 0 := rfl
theorem par7_succ (m : Nat → Nat) (x k : Nat) : par7 m x (k + 1) = par7 m x k + popc 64 (x &&& m k) % 2 * 2 ^ k := rfl

attribute [local irreducible] popc par7

theorem check_any (m : Nat → Nat) (x : Nat) (hx : x < 18446744073709551616) (hm : ∀ k, m k < 18446744073709551616) (w : World) :
    Calls Tryd.prog 19 #[.int .u64 x, .agg #[.int .u64 (m 0), .int .u64 (m 1), .int .u64 (m 2), .int .u64 (m 3), .int .u64 (m 4), .int .u64 (m 5), .int .u64 (m 6)]] w fun e w' =>
      e = .returned (.int .u8 (chkBy m x)) ∧ Below w.heap.size w w' := by
  have hb : Below w.heap.size w (w.alloc (.cells #[.int .u64 (m 0), .int .u64 (m 1), .int .u64 (m 2), .int .u64 (m 3), .int .u64 (m 4), .int .u64 (m 5), .int .u64 (m 6)] 46)) := (Below.refl _ _).alloc (Nat.le_refl _) _
  have HM := hide hm
  clear hm
  go_enter Tryd.func19, Tryd.ntmps19
  go_wp2
  generalize w.alloc _ = w1 at hb ⊢
  go_loop [5, 9] (fun c i => ∃ (k y : Nat), k ≤ 7 ∧ i = .int .i64 k ∧ c = .int .u8 y ∧ Hid (y = par7 m x k)) (fun _ i => 7 - (intOf i).toNat)
  case atStart => exact ⟨0, 0, by omega, rfl, rfl, hide (par7_zero m x).symm⟩
  case round =>
    obtain ⟨k, y, hk, rfl, rfl, HY⟩ := hrel
    by_cases hlt : k < 7
    · have hidx := mask_at m k hlt
      have hand := u64_and_nat x (m k) hx (HM.out k)
      have hlx : x &&& m k < 18446744073709551616 := Nat.lt_of_le_of_lt Nat.and_le_left hx
      have hpc := popc_le 64 (x &&& m k)
      have hor := or_par y k (popc 64 (x &&& m k)) (by omega) (by rw [HY.out]; exact par7_lt m x k) (by omega)
      have HN : Hid (y + popc 64 (x &&& m k) % 2 * 2 ^ k = par7 m x (k + 1)) := by rw [HY.out]; exact hide (par7_succ m x k).symm
      generalize y + popc 64 (x &&& m k) % 2 * 2 ^ k = z at hor HN
      go_wp2_with (go_at_call 22; refine (BitsW.ones64 _ hlx _).mono ?_; rintro e w' ⟨rfl, rfl⟩)
      go_round
      case rel => exact ⟨k + 1, z, by omega, by go_num, rfl, HN⟩
      case measure => simp [intOf]; omega
    · obtain rfl : k = 7 := by omega
      have hy : y < 128 := by rw [HY.out]; exact par7_lt m x 7
      have h1 := popc_le 64 x
      have h2 := popc_le 8 y
      have hor := or_par y 7 (popc 64 x + popc 8 y) (by omega) (by omega) (by omega)
      have HO := hide hor
      clear hor
      go_wp2_with (first | (go_at_call 22; refine (BitsW.ones64 _ hx _).mono ?_; rintro e w' ⟨rfl, rfl⟩) | (go_at_call 23; refine (BitsW.ones8 _ (by omega) _).mono ?_; rintro e w' ⟨rfl, rfl⟩))
      go_ret
      refine ⟨congrArg (fun n => Ending.returned (.int .u8 n)) (a₁ := bits .or .u8 _ _) (HO.out.trans ?_), hb⟩
      unfold chkBy
      rw [HY.out]

theorem fits_ok (A : Option Addr) (n cap : Nat) (w : World) (h : n % 8 = 0) (h2 : n ≤ 4096) :
    Calls Tryd.prog 17 #[.slice A n cap] w fun e w' => e = .returned .nilIface ∧ w = w' := by
  have ht : ((n : Int) % 8 != 0) = false := by simp; omega
  clear h
  go_enter Tryd.func17, Tryd.ntmps17
  go_wp2
  go_ret
  exact ⟨rfl, rfl⟩

theorem fits_shape (A : Option Addr) (n cap : Nat) (w : World) (h : n % 8 ≠ 0) :
    Calls Tryd.prog 17 #[.slice A n cap] w fun e w' => e = .returned (.iface 25 (.int .i64 2)) ∧ w = w' := by
  have ht : ((n : Int) % 8 != 0) = true := by simp; omega
  clear h
  go_enter Tryd.func17, Tryd.ntmps17
  go_wp2
  go_ret
  exact ⟨rfl, rfl⟩

theorem fits_full (A : Option Addr) (n cap : Nat) (w : World) (h : n % 8 = 0) (h2 : 4096 < n) :
    Calls Tryd.prog 17 #[.slice A n cap] w fun e w' => e = .returned (.iface 25 (.int .i64 3)) ∧ w = w' := by
  have ht : ((n : Int) % 8 != 0) = false := by simp; omega
  clear h
  go_enter Tryd.func17, Tryd.ntmps17
  go_wp2
  go_ret
  exact ⟨rfl, rfl⟩
end Go.Proofs.YtakgbejeaheihaaDoor.WordW
