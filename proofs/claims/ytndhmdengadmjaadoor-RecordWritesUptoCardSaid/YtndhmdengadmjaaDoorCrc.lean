/- The walk of code.Crc: it returns the check sum of its bytes. -/
import Derived.Test.YtndhmdengadmjaaDoorBase
import Derived.Test.YtndhmdengadmjaaDoorCrcPlain
import Derived.Test.YtndhmdengadmjaaDoorChecked
import Derived.WalkLawsBesides
namespace Go.Proofs.YtndhmdengadmjaaDoor.CrcW
open Go.RowKit Crc

theorem lsb_toNat (x : BitVec 32) : x.getLsbD 0 = decide (x.toNat % 2 = 1) := by
  rw [BitVec.getLsbD, Nat.testBit_zero]

theorem bitStep_toNat (x : BitVec 32) : (bitStep x).toNat = (x.toNat / 2) ^^^ (if x.toNat % 2 = 1 then 3988292384 else 0) := by
  unfold bitStep
  rw [BitVec.toNat_xor, lsb_toNat]
  by_cases h : x.toNat % 2 = 1 <;> simp [h, Nat.shiftRight_eq_div_pow]

/-- One step as the program writes it. -/
theorem step_spelt (x : BitVec 32) : bits .xor .u32 ((x.toNat : Int) / 2) (bits .and .u32 3988292384 (-bits .and .u32 (x.toNat : Int) 1 % 4294967296)) = ((bitStep x).toNat : Int) := by
  have hx := x.isLt
  have e1 : bits .and .u32 (x.toNat : Int) 1 = ((x.toNat &&& 1 : Nat) : Int) := u32_and_nat x.toNat 1 hx (by omega)
  rw [e1, Nat.and_one_is_mod, bitStep_toNat]
  have e2 : ((x.toNat : Int) / 2) = ((x.toNat / 2 : Nat) : Int) := by omega
  rw [e2]
  by_cases h : x.toNat % 2 = 1
  · rw [h, if_pos rfl]
    have e3 : (-((1 : Nat) : Int)) % 4294967296 = ((4294967295 : Nat) : Int) := by decide
    rw [e3]
    have e4 : bits .and .u32 3988292384 ((4294967295 : Nat) : Int) = ((3988292384 &&& 4294967295 : Nat) : Int) := u32_and_nat 3988292384 4294967295 (by omega) (by omega)
    rw [e4, show (3988292384 &&& 4294967295 : Nat) = 3988292384 from by decide]
    exact u32_xor_nat _ _ (by omega) (by omega)
  · have h0 : x.toNat % 2 = 0 := by omega
    rw [if_neg h, h0]
    have e3 : (-((0 : Nat) : Int)) % 4294967296 = ((0 : Nat) : Int) := by decide
    rw [e3]
    have e4 : bits .and .u32 3988292384 ((0 : Nat) : Int) = ((3988292384 &&& 0 : Nat) : Int) := u32_and_nat 3988292384 0 (by omega) (by omega)
    rw [e4, Nat.and_zero]
    exact u32_xor_nat _ _ (by omega) (by omega)

/-- One byte mixed in, as the program writes it. -/
theorem mix_spelt (x : BitVec 32) (b : UInt8) : bits .xor .u32 (x.toNat : Int) ((b.toNat : Int) % 4294967296) = ((x ^^^ BitVec.ofNat 32 b.toNat).toNat : Int) := by
  have hb := b.toNat_lt
  have e : ((b.toNat : Int) % 4294967296) = ((b.toNat : Nat) : Int) := by omega
  rw [e, u32_xor_nat _ _ x.isLt (by omega), BitVec.toNat_xor, BitVec.toNat_ofNat, Nat.mod_eq_of_lt (show b.toNat < 2 ^ 32 by omega)]

theorem not_spelt (x : BitVec 32) : bits .xor .u32 IntKind.u32.max (x.toNat : Int) = ((~~~ x).toNat : Int) := by
  have hx := x.isLt
  have e : IntKind.u32.max = ((4294967295 : Nat) : Int) := by decide
  rw [e, u32_xor_nat _ _ (by omega) hx, BitVec.toNat_not, Nat.xor_comm]
  have := congrArg BitVec.toNat (BitVec.xor_allOnes (x := x))
  rw [BitVec.toNat_xor, BitVec.toNat_not, BitVec.toNat_allOnes] at this
  exact congrArg Int.ofNat this

/-- code.Crc: of whatever slice of bytes. -/
theorem crc_any (A : Option Addr) (l : List UInt8) (n cap : Nat) (w : World) (hn : n = l.length) (hl : n ≤ 140737488355328) (hr : Rd w A (u8v l)) :
    Calls Tryd.prog 20 #[.slice A n cap] w fun e w' => e = .returned (.int .u32 (crc l).toNat) ∧ w = w' := by
  subst hn
  go_enter Tryd.func20, Tryd.ntmps20
  go_wp2
  go_loop [3, 8, 5, 16] (fun c i _ _ => ∃ (k : Nat) (x : BitVec 32), k ≤ l.length ∧ i = .int .i64 k ∧ c = .int .u32 x.toNat ∧ Hid (x = reg 0xFFFFFFFF#32 (l.take k))) (fun _ i _ _ => l.length - (intOf i).toNat)
  case atStart => exact ⟨0, 0xFFFFFFFF#32, by omega, rfl, rfl, hide (by simp [reg])⟩
  case round =>
    obtain ⟨k, x, hk, rfl, rfl, HX⟩ := hrel
    by_cases hlt : k < l.length
    · obtain ⟨b, off, rfl, hck⟩ := hr.at_ (i := k) (by simpa [u8v] using hlt)
      simp only [u8v, List.getElem_map] at hck
      have hms := mix_spelt x l[k]
      have HR := hide (congrArg (fun t => reg 0xFFFFFFFF#32 t) (List.take_succ_eq_append_getElem hlt))
      simp only [reg_snoc] at HR
      have HB : Hid (byteStep x l[k] = bitSteps 8 (x ^^^ BitVec.ofNat 32 l[k].toNat)) := hide rfl
      generalize x ^^^ BitVec.ofNat 32 l[k].toNat = y at hms HB
      go_wp2
      clear hms hck
      go_loop [3, 16] (fun c i => ∃ (j : Nat) (z : BitVec 32), j ≤ 8 ∧ i = .int .i64 j ∧ c = .int .u32 z.toNat ∧ Hid (z = bitSteps j y)) (fun _ i => 8 - (intOf i).toNat)
      case atStart => exact ⟨0, y, by omega, rfl, rfl, hide rfl⟩
      case round =>
        obtain ⟨j, z, hj, rfl, rfl, HZ⟩ := hrel
        by_cases hlt : j < 8
        · have hst := step_spelt z
          have HZ' : Hid (bitStep z = bitSteps (j + 1) y) := by rw [HZ.out]; exact hide rfl
          generalize bitStep z = z' at hst HZ'
          go_wp2
          go_round
          case rel => exact ⟨j + 1, z', by omega, by go_num, rfl, HZ'⟩
          case measure => simp [intOf]; omega
        · go_wp2
          go_round
          case rel =>
            refine ⟨k + 1, z, by omega, by go_num, rfl, ?_⟩
            obtain rfl : j = 8 := by omega
            have h1 := HR.out
            unfold Hid
            rw [h1, HZ.out, ← HB.out, HX.out]
          case measure => simp [intOf]; omega
    · have hn := not_spelt x
      have HF : Hid (crc l = ~~~ x) := by
        obtain rfl : k = l.length := by omega
        rw [HX.out, List.take_length]; exact hide rfl
      generalize ~~~ x = y at hn HF
      go_wp2
      go_ret
      exact ⟨by rw [HF.out]; rfl, rfl⟩

end Go.Proofs.YtndhmdengadmjaaDoor.CrcW
