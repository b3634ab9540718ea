/- Plain: the check sum of the exclusive or of three lists. -/
import Derived.Test.YtmnhgpkbdiobkaaCrcPlain
namespace Go.Proofs.Ytmnhgpkbdiobkaa.Sums
open Crc

/-- The exclusive or of three lists, as far as k. -/
def xor3 (a b c : List UInt8) (k : Nat) : List UInt8 := (List.range k).map fun i => a.getD i 0 ^^^ b.getD i 0 ^^^ c.getD i 0
theorem xor3_length (a b c : List UInt8) (k : Nat) : (xor3 a b c k).length = k := by simp [xor3]
theorem xor3_zero (a b c : List UInt8) : xor3 a b c 0 = [] := rfl
theorem xor3_succ (a b c : List UInt8) (k : Nat) : xor3 a b c (k + 1) = xor3 a b c k ++ [a.getD k 0 ^^^ b.getD k 0 ^^^ c.getD k 0] := by simp [xor3, List.range_succ]

theorem xor3_zip (a b c : List UInt8) (k : Nat) (ha : k ≤ a.length) (hb : k ≤ b.length) (hc : k ≤ c.length) :
    xor3 a b c k = List.zipWith (· ^^^ ·) (List.zipWith (· ^^^ ·) (a.take k) (b.take k)) (c.take k) := by
  apply List.ext_getElem
  · simp [xor3]; omega
  · intro i h1 h2
    simp only [xor3_length] at h1
    simp [xor3, show i < a.length by omega, show i < b.length by omega, show i < c.length by omega]

theorem crc_xor3 (a b c : List UInt8) (k : Nat) (ha : k ≤ a.length) (hb : k ≤ b.length) (hc : k ≤ c.length) :
    crc (xor3 a b c k) = crc (a.take k) ^^^ crc (b.take k) ^^^ crc (c.take k) := by
  rw [xor3_zip a b c k ha hb hc]
  unfold crc
  have e : (0xFFFFFFFF#32) = (0xFFFFFFFF#32 ^^^ 0xFFFFFFFF#32) ^^^ 0xFFFFFFFF#32 := by decide
  have h1 := reg_xor (a.take k) (b.take k) (by simp; omega) 0xFFFFFFFF#32 0xFFFFFFFF#32
  have h2 := reg_xor (List.zipWith (fun x y => x ^^^ y) (a.take k) (b.take k)) (c.take k) (by simp; omega) (0xFFFFFFFF#32 ^^^ 0xFFFFFFFF#32) 0xFFFFFFFF#32
  rw [← e, h1] at h2
  rw [h2]
  generalize reg 0xFFFFFFFF#32 (a.take k) = x
  generalize reg 0xFFFFFFFF#32 (b.take k) = y
  generalize reg 0xFFFFFFFF#32 (c.take k) = z
  apply BitVec.eq_of_getLsbD_eq
  intro i hi
  simp only [BitVec.getLsbD_not, BitVec.getLsbD_xor, hi, decide_true, Bool.true_and]
  cases x.getLsbD i <;> cases y.getLsbD i <;> cases z.getLsbD i <;> rfl
end Go.Proofs.Ytmnhgpkbdiobkaa.Sums
