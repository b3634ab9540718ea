/- Plain: a slot's bytes, and what is read of them. No program here. -/
import Derived.Test.YtmjnfjbbdebddaaDoorFramePlain
import Derived.Test.YtmjnfjbbdebddaaDoorCrcPlain
namespace Go.Proofs.YtmjnfjbbdebddaaDoor.SlotP
open Fram Crc

def headB (seq : Nat) (body : List UInt8) : List UInt8 := lowB seq 8 ++ (lowB body.length 4 ++ body)
def slotB (seq : Nat) (body : List UInt8) : List UInt8 := headB seq body ++ lowB (crc (headB seq body)).toNat 4
theorem headB_length (seq : Nat) (body : List UInt8) : (headB seq body).length = 12 + body.length := by simp [headB, lowB_length]; omega
theorem slotB_length (seq : Nat) (body : List UInt8) : (slotB seq body).length = 16 + body.length := by simp [slotB, headB_length, lowB_length]; omega

def seqS (l : List UInt8) : Nat := leN (l.take 8)
def longS (l : List UInt8) : Nat := leN ((l.drop 8).take 4)
def bodyS (l : List UInt8) : List UInt8 := (l.drop 12).take (longS l)
def sumS (l : List UInt8) : Nat := leN ((l.drop (12 + longS l)).take 4)

/-- The bytes begin with a whole slot. -/
def Whole (l : List UInt8) : Prop := 16 ≤ l.length ∧ seqS l ≤ 4611686018427387904 ∧ longS l ≤ 4096 ∧ 16 + longS l ≤ l.length ∧ (crc (l.take (12 + longS l))).toNat = sumS l

theorem seqS_lt (l : List UInt8) : seqS l < 18446744073709551616 := by
  unfold seqS
  have h := leN_lt (l.take 8)
  have h2 : (256 : Nat) ^ (l.take 8).length ≤ 256 ^ 8 := Nat.pow_le_pow_right (by omega) (by simp; omega)
  have : (256 : Nat) ^ 8 = 18446744073709551616 := by decide
  omega
theorem longS_lt (l : List UInt8) : longS l < 4294967296 := by
  unfold longS
  have h := leN_lt ((l.drop 8).take 4)
  have h2 : (256 : Nat) ^ ((l.drop 8).take 4).length ≤ 256 ^ 4 := Nat.pow_le_pow_right (by omega) (by simp; omega)
  have : (256 : Nat) ^ 4 = 4294967296 := by decide
  omega
theorem sumS_lt (l : List UInt8) : sumS l < 4294967296 := by
  unfold sumS
  have h := leN_lt ((l.drop (12 + longS l)).take 4)
  have h2 : (256 : Nat) ^ ((l.drop (12 + longS l)).take 4).length ≤ 256 ^ 4 := Nat.pow_le_pow_right (by omega) (by simp; omega)
  have : (256 : Nat) ^ 4 = 4294967296 := by decide
  omega
theorem bodyS_length {l : List UInt8} (h : 16 + longS l ≤ l.length) : (bodyS l).length = longS l := by
  unfold bodyS; simp; omega

/-- Whole bytes begin with the slot of their fields; and only such do. -/
theorem whole_iff {l : List UInt8} (h16 : 16 ≤ l.length) (hl : 16 + longS l ≤ l.length) : (crc (l.take (12 + longS l))).toNat = sumS l ↔ l.take (16 + longS l) = slotB (seqS l) (bodyS l) := by
  have hb := bodyS_length hl
  have e1 : headB (seqS l) (bodyS l) = l.take (12 + longS l) := by
    unfold headB
    rw [hb]
    have a1 : lowB (seqS l) 8 = l.take 8 := by
      have := lowB_leN (l.take 8)
      rwa [show (l.take 8).length = 8 by simp; omega] at this
    have a2 : lowB (longS l) 4 = (l.drop 8).take 4 := by
      have := lowB_leN ((l.drop 8).take 4)
      rwa [show ((l.drop 8).take 4).length = 4 by simp; omega] at this
    rw [a1, a2]
    unfold bodyS
    have s1 : l.take (12 + longS l) = l.take 8 ++ (l.drop 8).take (4 + longS l) := by rw [show 12 + longS l = 8 + (4 + longS l) by omega, List.take_add]
    rw [s1]
    congr 1
    rw [List.take_add, List.drop_drop]
  have e2 : l.take (16 + longS l) = l.take (12 + longS l) ++ (l.drop (12 + longS l)).take 4 := by rw [show 16 + longS l = (12 + longS l) + 4 by omega, List.take_add]
  have e3 : lowB (sumS l) 4 = (l.drop (12 + longS l)).take 4 := by
    have := lowB_leN ((l.drop (12 + longS l)).take 4)
    rwa [show ((l.drop (12 + longS l)).take 4).length = 4 by simp; omega] at this
  unfold slotB
  rw [e1, e2, ← e3]
  constructor
  · intro h; rw [h]
  · intro h
    have h2 := List.append_cancel_left h
    exact (lowB_inj (n := 4) (by have := sumS_lt l; omega) (by have := (crc (l.take (12 + longS l))).isLt; omega) h2).symm

/-- Which of two is chosen: none, the first, the second. -/
inductive Pick where
  | none | first | second
noncomputable def pickS (a b : List UInt8) : Pick := by
  classical exact if Whole a then (if Whole b ∧ seqS a < seqS b then .second else .first) else (if Whole b then .second else .none)

/-- What is made is whole, and reads as what it was made of; whatever stands behind. -/
theorem slot_reads (seq : Nat) (body rest : List UInt8) (hs : seq ≤ 4611686018427387904) (hb : body.length ≤ 4096) :
    seqS (slotB seq body ++ rest) = seq ∧ longS (slotB seq body ++ rest) = body.length ∧ bodyS (slotB seq body ++ rest) = body ∧ Whole (slotB seq body ++ rest) := by
  have e : ∀ s, headB seq body ++ s = lowB seq 8 ++ (lowB body.length 4 ++ (body ++ s)) := by intro s; simp [headB]
  have e0 : slotB seq body ++ rest = lowB seq 8 ++ (lowB body.length 4 ++ (body ++ (lowB (crc (headB seq body)).toNat 4 ++ rest))) := by
    unfold slotB; rw [List.append_assoc, e]
  have h1 : seqS (slotB seq body ++ rest) = seq := by
    unfold seqS
    rw [e0, List.take_left' (lowB_length _ _), leN_lowB, Nat.mod_eq_of_lt (by omega)]
  have h2 : longS (slotB seq body ++ rest) = body.length := by
    unfold longS
    rw [e0, List.drop_left' (lowB_length _ _), List.take_left' (lowB_length _ _), leN_lowB, Nat.mod_eq_of_lt (by omega)]
  have h3 : bodyS (slotB seq body ++ rest) = body := by
    unfold bodyS
    rw [h2, e0, ← List.append_assoc, List.drop_left' (by simp [lowB_length]), List.take_left' rfl]
  have hl : (slotB seq body ++ rest).length = 16 + body.length + rest.length := by rw [List.length_append, slotB_length]
  refine ⟨h1, h2, h3, ?_⟩
  have hw := whole_iff (l := slotB seq body ++ rest) (by omega) (by rw [h2]; omega)
  refine ⟨by omega, by rw [h1]; exact hs, by rw [h2]; exact hb, by rw [h2]; omega, hw.2 ?_⟩
  rw [h1, h2, h3, List.take_left' (by rw [slotB_length])]

/-- A beginning of a slot is not whole. -/
theorem part_not_whole (seq : Nat) (body : List UInt8) (hs : seq ≤ 4611686018427387904) (hb : body.length ≤ 4096) (c : Nat) (hc : c < 16 + body.length) : ¬ Whole ((slotB seq body).take c) := by
  rintro ⟨h16, -, -, hl, -⟩
  rw [List.length_take, slotB_length] at h16 hl
  have e : longS ((slotB seq body).take c) = body.length := by
    have h := (slot_reads seq body [] hs hb).2.1
    rw [List.append_nil] at h
    rw [← h]
    unfold longS
    rw [List.drop_take, List.take_take]
    congr 2
    omega
  rw [e] at hl
  omega
end Go.Proofs.YtmjnfjbbdebddaaDoor.SlotP
