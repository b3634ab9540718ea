/- The walks of granaryref1.lowFirst, Crc (XRefW over Bytes in place of Same). -/
import Derived.Test.YtndhmdengadmjaaDoorBytes
import Derived.Test.YtndhmdengadmjaaDoorCrc
import Derived.Test.YtndhmdengadmjaaDoorFramePlain
set_option linter.unusedVariables false
namespace Go.Proofs.YtndhmdengadmjaaDoor.RefW
open Go.RowKit Fram Crc CrcW

theorem byte_low (x k : Nat) : ((x : Int) / 2 ^ (8 * k)) % 256 = ((UInt8.ofNat (x / 256 ^ k)).toNat : Int) := by
  have e0 : (256 : Nat) ^ k = 2 ^ (8 * k) := by rw [show (256 : Nat) = 2 ^ 8 from rfl, ← Nat.pow_mul]
  rw [UInt8.toNat_ofNat', e0]
  have : ((x : Int) / 2 ^ (8 * k)) = ((x / 2 ^ (8 * k) : Nat) : Int) := by simp
  rw [this]
  omega
theorem u8v_snoc (l : List UInt8) (z : UInt8) : u8v (l ++ [z]) = u8v l ++ [.int .u8 (z.toNat : Int)] := by simp [u8v]

set_option maxHeartbeats 1000000 in
theorem lowFirst_any (x m : Nat) (w : World) (hm : m ≤ 8) (hx : x ≤ 9223372036854775807) :
    Calls Tryd.prog 32 #[.int .i64 x, .int .i64 m] w fun e w' => ∃ A c, e = .returned (.slice A m c) ∧ m ≤ c ∧ w'.ownsRow w.heap.size 5 1 (.slice A m c) m (u8v (lowB x m)) ∧ Below w.heap.size w w' := by
  obtain ⟨i0, hi0, hz0, hz1, hz2⟩ := info_parts u8_info
  go_enter Tryd.func32, Tryd.ntmps32
  go_wp2
  go_loopw [5, 6] (fun u i wr => ∃ j : Nat, j ≤ m ∧ i = .int .i64 j ∧ wr.ownsRow w.heap.size 5 1 u j (u8v (lowB x j)) ∧ Below w.heap.size w wr) (fun _ i _ => m - (intOf i).toNat)
  case atStart => exact ⟨0, by omega, rfl, by simpa [lowB_zero, u8v] using World.ownsRow_nil _ _ _ _, Below.refl _ _⟩
  case round =>
    obtain ⟨j, hj, rfl, hown, hb⟩ := hrel
    have hbase := hb.size
    by_cases hlt : j < m
    · have hd : decide ((j : Int) < (m : Int)) = true := by simp; omega
      have hby := byte_low x j
      obtain ⟨z, hz⟩ : ∃ z, z = UInt8.ofNat (x / 256 ^ j) := ⟨_, rfl⟩
      rw [← hz] at hby
      have HS : Hid (u8v (lowB x (j + 1)) = u8v (lowB x j) ++ [.int .u8 (z.toNat : Int)]) := by
        rw [lowB_succ, ← hz, u8v_snoc]; exact hide rfl
      clear hz
      generalize u8v (lowB x j) = cs at hown HS
      go_wp2_with (first
        | (at_builtin
           refine wpList_append_rd _ rfl (.tmp 12) (.tmp 18) 23 rfl w.heap.size 5 i0 _ 1 Tryd.underlying23 hi0 hz0 hz1 hz2 rfl _ j cs rfl (by exact hown.alloc _) _ 1 1 [.int .u8 (z.toNat : Int)] rfl rfl (Rd.one _ _ _) ?_ ?_ ?_ ?_ ?_
           · intro u hu; simp at hu; subst hu; rfl
           · simp only [maxLen]; omega
           · omega
           · simp; omega
           intro v' w4 hown4 hg4
           have hb4 := below_own (hb.alloc hbase _) (hown.alloc _) hg4 (by simp; omega) (Nat.le_refl _)))
      go_roundw
      case rel => exact ⟨j + 1, by omega, by go_num, by rw [HS.out]; exact hown4, hb4⟩
      case measure => simp [intOf]; omega
    · go_wp2
      go_ret
      obtain rfl : j = m := by omega
      obtain ⟨A, c, rfl, hc, -, -, -, -⟩ := own_form hown
      exact ⟨A, c, rfl, hc, hown, hb⟩

theorem lowFirst_int (x : Int) (m : Nat) (q : Int) (w : World) (hq : q = (m : Int)) (hm : m ≤ 8) (h0 : 0 ≤ x) (hx : x ≤ 9223372036854775807) :
    Calls Tryd.prog 32 #[.int .i64 x, .int .i64 q] w fun e w' => ∃ A c, e = .returned (.slice A m c) ∧ m ≤ c ∧ w'.ownsRow w.heap.size 5 1 (.slice A m c) m (u8v (lowB x.toNat m)) ∧ Below w.heap.size w w' := by
  subst hq
  obtain ⟨x, rfl⟩ := Int.eq_ofNat_of_zero_le h0
  exact lowFirst_any x m w hm (by omega)

theorem step_one (x : BitVec 32) (h : x.toNat % 2 = 1) : bits .xor .u32 ((x.toNat : Int) / 2) 3988292384 = ((bitStep x).toNat : Int) := by
  have hx := x.isLt
  rw [bitStep_toNat, if_pos h]
  have e2 : ((x.toNat : Int) / 2) = ((x.toNat / 2 : Nat) : Int) := by omega
  rw [e2, show (3988292384 : Int) = ((3988292384 : Nat) : Int) from rfl]
  exact u32_xor_nat _ _ (by omega) (by omega)
theorem step_none (x : BitVec 32) (h : ¬ x.toNat % 2 = 1) : ((x.toNat : Int) / 2) = ((bitStep x).toNat : Int) := by
  rw [bitStep_toNat, if_neg h, Nat.xor_zero]
  omega
theorem not_ref (x : BitVec 32) : bits .xor .u32 (x.toNat : Int) 4294967295 = ((~~~ x).toNat : Int) := by
  have hx := x.isLt
  rw [show (4294967295 : Int) = ((4294967295 : Nat) : Int) from rfl, u32_xor_nat _ _ hx (by omega), BitVec.toNat_not]
  have := congrArg BitVec.toNat (BitVec.xor_allOnes (x := x))
  rw [BitVec.toNat_xor, BitVec.toNat_not, BitVec.toNat_allOnes] at this
  exact congrArg Int.ofNat this

set_option maxHeartbeats 1000000 in
theorem refCrc_any (A : Option Addr) (l : List UInt8) (n cap : Nat) (w : World) (hn : n = l.length) (hl : n ≤ 140737488355328) (hr : Rd w A (u8v l)) :
    Calls Tryd.prog 31 #[.slice A n cap] w fun e w' => e = .returned (.int .u32 (crc l).toNat) ∧ w = w' := by
  subst hn
  go_enter Tryd.func31, Tryd.ntmps31
  go_wp2
  go_loop [3, 4, 5, 6] (fun c i _ _ => ∃ (k : Nat) (x : BitVec 32), k ≤ l.length ∧ i = .int .i64 k ∧ c = .int .u32 x.toNat ∧ Hid (x = reg 0xFFFFFFFF#32 (l.take k))) (fun _ i _ _ => l.length - (intOf i).toNat)
  case atStart => exact ⟨0, 0xFFFFFFFF#32, by omega, rfl, rfl, hide (by simp [reg])⟩
  case round =>
    obtain ⟨k, x, hk, rfl, rfl, HX⟩ := hrel
    by_cases hlt : k < l.length
    · obtain ⟨b, off, rfl, hck⟩ := hr.at_ (i := k) (by simpa [u8v] using hlt)
      simp only [u8v, List.getElem_map] at hck
      have hd : decide ((k : Int) < (l.length : Int)) = true := by simp; omega
      have hms := mix_spelt x l[k]
      have HR := hide (congrArg (fun t => reg 0xFFFFFFFF#32 t) (List.take_succ_eq_append_getElem hlt))
      simp only [reg_snoc] at HR
      have HB : Hid (byteStep x l[k] = bitSteps 8 (x ^^^ BitVec.ofNat 32 l[k].toNat)) := hide rfl
      generalize x ^^^ BitVec.ofNat 32 l[k].toNat = y at hms HB
      go_wp2
      clear hms hck
      go_loop [3, 5, 6] (fun c i _ => ∃ (j : Nat) (z : BitVec 32), j ≤ 8 ∧ i = .int .i64 j ∧ c = .int .u32 z.toNat ∧ Hid (z = bitSteps j y)) (fun _ i _ => 8 - (intOf i).toNat)
      case atStart => exact ⟨0, y, by omega, rfl, rfl, hide rfl⟩
      case round =>
        obtain ⟨j, z, hj, rfl, rfl, HZ⟩ := hrel
        by_cases hlt : j < 8
        · have HZ' : Hid (bitStep z = bitSteps (j + 1) y) := by rw [HZ.out]; exact hide rfl
          by_cases hb : z.toNat % 2 = 1
          · have hst := step_one z hb
            have hbi : (z.toNat : Int) % 2 = 1 := by omega
            generalize bitStep z = z' at hst HZ'
            go_wp2
            go_round
            case rel => exact ⟨j + 1, z', by omega, by go_num, rfl, HZ'⟩
            case measure => simp [intOf]; omega
          · have hst := step_none z hb
            have hbi : (z.toNat : Int) % 2 = 0 := by omega
            have HST := hide hst
            clear hst
            generalize bitStep z = z' at HST HZ'
            go_wp2
            go_round
            case rel => exact ⟨j + 1, z', by omega, by go_num, by rw [HST.out], HZ'⟩
            case measure => simp [intOf]; omega
        · go_wp2
          go_round
          case rel =>
            refine ⟨k + 1, z, by omega, by go_num, rfl, ?_⟩
            obtain rfl : j = 8 := by omega
            have h1 := HR.out
            unfold Hid
            rw [h1, HZ.out, ← HB.out, HX.out]
          case measure => simp [intOf]; omega
    · have hn := not_ref x
      have HF : Hid (crc l = ~~~ x) := by
        obtain rfl : k = l.length := by omega
        rw [HX.out, List.take_length]; exact hide rfl
      generalize ~~~ x = y at hn HF
      go_wp2
      go_ret
      exact ⟨by rw [HF.out]; rfl, rfl⟩
end Go.Proofs.YtndhmdengadmjaaDoor.RefW
