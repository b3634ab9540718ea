/- The walk of granaryref1.Crc (for seats without lowFirst). -/
import Derived.Test.YtakgbejeaheihaaDoorSame
import Derived.Test.YtakgbejeaheihaaDoorCrc
set_option linter.unusedVariables false
namespace Go.Proofs.YtakgbejeaheihaaDoor.RefW
open Go.RowKit Crc CrcW

theorem step_one (x : BitVec 32) (h : x.toNat % 2 = 1) : bits .xor .u32 ((x.toNat : Int) / 2) 3988292384 = ((bitStep x).toNat : Int) := by
  have hx := x.isLt
  rw [bitStep_toNat, if_pos h]
  have e2 : ((x.toNat : Int) / 2) = ((x.toNat / 2 : Nat) : Int) := by omega
  rw [e2, show (3988292384 : Int) = ((3988292384 : Nat) : Int) from rfl]
  exact u32_xor_nat _ _ (by omega) (by omega)
theorem step_none (x : BitVec 32) (h : ¬ x.toNat % 2 = 1) : ((x.toNat : Int) / 2) = ((bitStep x).toNat : Int) := by
  rw [bitStep_toNat, if_neg h, Nat.xor_zero]
  omega
theorem not_ref (x : BitVec 32) : bits .xor .u32 (x.toNat : Int) 4294967295 = ((~~~ x).toNat : Int) := by
  have hx := x.isLt
  rw [show (4294967295 : Int) = ((4294967295 : Nat) : Int) from rfl, u32_xor_nat _ _ hx (by omega), BitVec.toNat_not]
  have := congrArg BitVec.toNat (BitVec.xor_allOnes (x := x))
  rw [BitVec.toNat_xor, BitVec.toNat_not, BitVec.toNat_allOnes] at this
  exact congrArg Int.ofNat this

set_option maxHeartbeats 1000000 in
theorem refCrc_any (A : Option Addr) (l : List UInt8) (n cap : Nat) (w : World) (hn : n = l.length) (hl : n ≤ 140737488355328) (hr : Rd w A (u8v l)) :
    Calls Tryd.prog 6 #[.slice A n cap] w fun e w' => e = .returned (.int .u32 (crc l).toNat) ∧ w = w' := by
  subst hn
  go_enter Tryd.func6, Tryd.ntmps6
  go_wp2
  go_loop [3, 4, 5, 6] (fun c i _ _ => ∃ (k : Nat) (x : BitVec 32), k ≤ l.length ∧ i = .int .i64 k ∧ c = .int .u32 x.toNat ∧ Hid (x = reg 0xFFFFFFFF#32 (l.take k))) (fun _ i _ _ => l.length - (intOf i).toNat)
  case atStart => exact ⟨0, 0xFFFFFFFF#32, by omega, rfl, rfl, hide (by simp [reg])⟩
  case round =>
    obtain ⟨k, x, hk, rfl, rfl, HX⟩ := hrel
    by_cases hlt : k < l.length
    · obtain ⟨b, off, rfl, hck⟩ := hr.at_ (i := k) (by simpa [u8v] using hlt)
      simp only [u8v, List.getElem_map] at hck
      have hd : decide ((k : Int) < (l.length : Int)) = true := by simp; omega
      have hms := mix_spelt x l[k]
      have HR := hide (congrArg (fun t => reg 0xFFFFFFFF#32 t) (List.take_succ_eq_append_getElem hlt))
      simp only [reg_snoc] at HR
      have HB : Hid (byteStep x l[k] = bitSteps 8 (x ^^^ BitVec.ofNat 32 l[k].toNat)) := hide rfl
      generalize x ^^^ BitVec.ofNat 32 l[k].toNat = y at hms HB
      go_wp2
      clear hms hck
      go_loop [3, 5, 6] (fun c i _ => ∃ (j : Nat) (z : BitVec 32), j ≤ 8 ∧ i = .int .i64 j ∧ c = .int .u32 z.toNat ∧ Hid (z = bitSteps j y)) (fun _ i _ => 8 - (intOf i).toNat)
      case atStart => exact ⟨0, y, by omega, rfl, rfl, hide rfl⟩
      case round =>
        obtain ⟨j, z, hj, rfl, rfl, HZ⟩ := hrel
        by_cases hlt : j < 8
        · have HZ' : Hid (bitStep z = bitSteps (j + 1) y) := by rw [HZ.out]; exact hide rfl
          by_cases hb : z.toNat % 2 = 1
          · have hst := step_one z hb
            have hbi : (z.toNat : Int) % 2 = 1 := by omega
            generalize bitStep z = z' at hst HZ'
            go_wp2
            go_round
            case rel => exact ⟨j + 1, z', by omega, by go_num, rfl, HZ'⟩
            case measure => simp [intOf]; omega
          · have hst := step_none z hb
            have hbi : (z.toNat : Int) % 2 = 0 := by omega
            have HST := hide hst
            clear hst
            generalize bitStep z = z' at HST HZ'
            go_wp2
            go_round
            case rel => exact ⟨j + 1, z', by omega, by go_num, by rw [HST.out], HZ'⟩
            case measure => simp [intOf]; omega
        · go_wp2
          go_round
          case rel =>
            refine ⟨k + 1, z, by omega, by go_num, rfl, ?_⟩
            obtain rfl : j = 8 := by omega
            have h1 := HR.out
            unfold Hid
            rw [h1, HZ.out, ← HB.out, HX.out]
          case measure => simp [intOf]; omega
    · have hn := not_ref x
      have HF : Hid (crc l = ~~~ x) := by
        obtain rfl : k = l.length := by omega
        rw [HX.out, List.take_length]; exact hide rfl
      generalize ~~~ x = y at hn HF
      go_wp2
      go_ret
      exact ⟨by rw [HF.out]; rfl, rfl⟩
end Go.Proofs.YtakgbejeaheihaaDoor.RefW
