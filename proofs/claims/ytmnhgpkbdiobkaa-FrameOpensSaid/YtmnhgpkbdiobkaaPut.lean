/- The walk of frame.put. -/
import Derived.Test.YtmnhgpkbdiobkaaBase
import Derived.Test.YtmnhgpkbdiobkaaPutPlain
import Derived.Test.YtmnhgpkbdiobkaaChecked
import Derived.WalkLawsBesides
set_option linter.unusedVariables false
namespace Go.Proofs.Ytmnhgpkbdiobkaa.PutW
open Go.RowKit

theorem bytes_at (l : List UInt8) (i : Nat) (h : i < l.length) : (u8v l).toArray[i]? = some (.int .u8 (l[i].toNat : Int)) := by simp [u8v, h]
theorem bytes_set (l : List UInt8) (i : Nat) (x : UInt8) : (u8v l).toArray.setIfInBounds i (.int .u8 (x.toNat : Int)) = (u8v (l.set i x)).toArray := by simp [u8v, List.map_set]

theorem grown_drew {w w' : World} {row : Option Nat} (h : w.grownBy w' row) : w.grownBy w'.drew row := ⟨h.os, h.tape, h.output, h.size, h.block⟩
theorem grown_put {w w' : World} {g : Nat} (h : w.grownBy w' (some g)) (i : Nat) (u : Value) : w.grownBy (w'.setCell ⟨g, i, none⟩ u) (some g) :=
  ⟨h.os, h.tape, h.output, by simpa [World.setCell] using h.size, fun k hk hne => (Below.heap_setCell w' ⟨g, i, none⟩ u k (by rintro rfl; exact hne rfl)).trans (h.block k hk hne)⟩
theorem grown_trans {w w1 w2 : World} {row : Option Nat} (h : w.grownBy w1 row) (h2 : w1.grownBy w2 row) : w.grownBy w2 row :=
  ⟨h2.os.trans h.os, h2.tape.trans h.tape, h2.output.trans h.output, Nat.le_trans h.size h2.size, fun k hk hne => (h2.block k (Nat.lt_of_lt_of_le hk h.size) hne).trans (h.block k hk hne)⟩

/-- One byte as the program writes it. -/
theorem byte_spelt (x k : Nat) : ((x : Int) / 2 ^ (8 * k)) % 256 = ((UInt8.ofNat (x / 256 ^ k)).toNat : Int) := by
  have e0 : (256 : Nat) ^ k = 2 ^ (8 * k) := by rw [show (256 : Nat) = 2 ^ 8 from rfl, ← Nat.pow_mul]
  rw [UInt8.toNat_ofNat', e0]
  have : ((x : Int) / 2 ^ (8 * k)) = ((x / 2 ^ (8 * k) : Nat) : Int) := by simp
  rw [this]
  omega

theorem put_any (g off m c : Nat) (l : List UInt8) (x : Nat) (w : World) (hB : Bk w g 5 (u8v l).toArray) (hin : off + m ≤ l.length) (hm : m ≤ 8) :
    Calls Try.prog 25 #[.slice (some ⟨g, off, none⟩) m c, .int .u64 x] w fun e w' => e = .returned (.tuple #[]) ∧ Bk w' g 5 (u8v (splL l off (lowB x m))).toArray ∧ w.grownBy w' (some g) := by
  go_enter Try.func25, Try.ntmps25
  go_wp2
  go_loopw [7] (fun i wr => ∃ k : Nat, k ≤ m ∧ i = .int .i64 k ∧ Bk wr g 5 (u8v (splL l off (lowB x k))).toArray ∧ w.grownBy wr (some g)) (fun i _ => m - (intOf i).toNat)
  case atStart => exact ⟨0, by omega, rfl, by rw [lowB_zero, splL_nil]; exact hB, World.grownBy.refl _ _⟩
  case round =>
    obtain ⟨k, hk, rfl, hB, hg⟩ := hrel
    by_cases hlt : k < m
    · have hd : decide ((k : Int) < (m : Int)) = true := by simp; omega
      have hlen : off + (lowB x k).length ≤ l.length := by rw [lowB_length]; omega
      have hl2 := splL_length l off (lowB x k) hlen
      have hc := hB.at_ (bytes_at (splL l off (lowB x k)) (off + k) (by rw [hl2]; omega))
      have hf := hB.free (off + k)
      have HS := hide (splL_snoc l off (lowB x k) (UInt8.ofNat (x / 256 ^ k)) (by rw [lowB_length]; omega))
      have HL := hide (lowB_length x k)
      have hby := byte_spelt x k
      generalize ((splL l off (lowB x k))[off + k]'(by rw [hl2]; omega)).toNat = q at hc
      clear hl2 hlen
      obtain ⟨z, hz⟩ : ∃ z, z = UInt8.ofNat (x / 256 ^ k) := ⟨_, rfl⟩
      rw [← hz] at hby HS
      have HZ := hide hz.symm
      clear hz
      go_wp2
      go_roundw
      case rel =>
        refine ⟨k + 1, by omega, by go_num, ?_, grown_put hg _ _⟩
        have hput := hB.put (off + k) (.int .u8 (z.toNat : Int))
        rw [bytes_set] at hput
        have hs := HS.out
        rw [HL.out] at hs
        rw [lowB_succ, show lowB x k ++ [UInt8.ofNat (x / 256 ^ k)] = lowB x k ++ [UInt8.ofNat (x / 256 ^ k)] from rfl, HZ.out, hs]
        exact hput
      case measure => simp [intOf]; omega
    · go_wp2
      go_end0
      obtain rfl : k = m := by omega
      exact ⟨rfl, hB, hg⟩

theorem put_int (g off m c : Nat) (l : List UInt8) (x : Int) (w : World) (hB : Bk w g 5 (u8v l).toArray) (hin : off + m ≤ l.length) (hm : m ≤ 8) (hx : 0 ≤ x) :
    Calls Try.prog 25 #[.slice (some ⟨g, off, none⟩) m c, .int .u64 x] w fun e w' => e = .returned (.tuple #[]) ∧ Bk w' g 5 (u8v (splL l off (lowB x.toNat m))).toArray ∧ w.grownBy w' (some g) := by
  obtain ⟨x, rfl⟩ := Int.eq_ofNat_of_zero_le hx
  exact put_any g off m c l x w hB hin hm
end Go.Proofs.Ytmnhgpkbdiobkaa.PutW
