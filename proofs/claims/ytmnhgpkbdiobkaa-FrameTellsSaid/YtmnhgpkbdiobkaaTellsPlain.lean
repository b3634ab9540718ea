/- Plain: a packed page with one bit turned is no packed page. -/
import Derived.Test.YtmnhgpkbdiobkaaOpenPlain
import Derived.Test.YtmnhgpkbdiobkaaSums
set_option linter.unusedVariables false
namespace Go.Proofs.Ytmnhgpkbdiobkaa.OpenW
open Go.RowKit PutW CrcW Fram Crc PackW FrameW GetW ApartW

/-- A page with its check sum blanked. -/
def blank16 (l : List UInt8) : List UInt8 := l.take 16 ++ ([0, 0, 0, 0] ++ l.drop 20)

theorem page_parts (k lba seq : Nat) (sum d : List UInt8) (n : Nat) (hs : sum.length = 4) : ((page k lba seq sum d n).drop 16).take 4 = sum ∧ blank16 (page k lba seq sum d n) = page k lba seq [0, 0, 0, 0] d n := by
  have e : ∀ s, page k lba seq s d n = ([165, UInt8.ofNat k] ++ (lowB lba 4 ++ (lowB seq 8 ++ lowB d.length 2))) ++ (s ++ (d ++ (List.replicate (n - 21 - d.length) 0 ++ [90]))) := by
    intro s
    unfold page
    simp only [List.append_assoc]
  have hl : ([165, UInt8.ofNat k] ++ (lowB lba 4 ++ (lowB seq 8 ++ lowB d.length 2))).length = 16 := by simp [lowB_length]
  refine ⟨by rw [e, part_at hl.symm hs.symm], ?_⟩
  unfold blank16
  rw [e sum, e [0, 0, 0, 0], List.take_left' hl]
  congr 2
  rw [← List.append_assoc, List.drop_left' (by rw [List.length_append, hl, hs])]

theorem pack_parts (n k lba seq : Nat) (d : List UInt8) : ((pack n k lba seq d).drop 16).take 4 = lowB (crc (blank16 (pack n k lba seq d))).toNat 4 := by
  have h := page_parts k lba seq (lowB (crc (page k lba seq [0, 0, 0, 0] d n)).toNat 4) d n (lowB_length _ _)
  unfold pack
  rw [h.1, h.2]

theorem set_inside {l : List UInt8} {i : Nat} {x : UInt8} (h1 : 16 ≤ i) (h2 : i < 20) : blank16 (l.set i x) = blank16 l := by
  unfold blank16
  rw [List.take_set_of_le h1, List.drop_set_of_lt h2]

theorem set_outside {l : List UInt8} {i : Nat} {x : UInt8} (hl : 20 ≤ l.length) (h : i < 16 ∨ 20 ≤ i) : ((l.set i x).drop 16).take 4 = (l.drop 16).take 4 ∧ blank16 (l.set i x) = (blank16 l).set i x := by
  unfold blank16
  have ht : (l.take 16).length = 16 := by simp; omega
  rcases h with h | h
  · rw [List.drop_set_of_lt (by omega), List.drop_set_of_lt (by omega)]
    refine ⟨rfl, ?_⟩
    rw [List.take_set, List.set_append_left _ _ (by omega)]
  · refine ⟨?_, ?_⟩
    · rw [List.drop_set, if_neg (by omega), List.take_set_of_le (by omega)]
    · rw [List.take_set_of_le (by omega), List.drop_set, if_neg (by omega), List.set_append_right _ _ (by omega), List.set_append_right _ _ (by simp; omega)]
      congr 3
      simp only [ht, List.length_cons, List.length_nil]
      omega

theorem flip_ne {l : List UInt8} {q : Nat} (h : q < 8 * l.length) : flipBit l q ≠ l := by
  intro e
  have := congrArg (fun m => crc m) e
  exact SumsW.flip_crc l q h this

theorem flip_other {n k lba seq k' lba' seq' : Nat} {d d' : List UInt8} (hd : d.length + 21 ≤ n) {q : Nat} (hq : q < 8 * n) : flipBit (pack n k lba seq d) q ≠ pack n k' lba' seq' d' := by
  intro h
  have hl := pack_length n k lba seq d hd
  have p1 := pack_parts n k lba seq d
  have p2 := pack_parts n k' lba' seq' d'
  rw [← h] at p2
  generalize pack n k lba seq d = l at *
  have hq' : q < 8 * l.length := by rw [hl]; exact hq
  by_cases hi : q / 8 < 16 ∨ 20 ≤ q / 8
  · obtain ⟨s1, s2⟩ := set_outside (l := l) (x := l.getD (q / 8) 0 ^^^ UInt8.ofNat (2 ^ (q % 8))) (by omega) hi
    have hb : blank16 (flipBit l q) = flipBit (blank16 l) q := by
      have hg : (blank16 l).getD (q / 8) 0 = l.getD (q / 8) 0 := by
        unfold blank16
        have ht : (l.take 16).length = 16 := by simp; omega
        simp only [List.getD_eq_getElem?_getD]
        rcases hi with hi | hi
        · rw [List.getElem?_append_left (by omega), List.getElem?_take, if_pos hi]
        · rw [List.getElem?_append_right (by omega), List.getElem?_append_right (by simp; omega), List.getElem?_drop]
          congr 2
          simp only [ht, List.length_cons, List.length_nil]
          omega
      unfold flipBit
      rw [s2, hg]
    have hs : ((flipBit l q).drop 16).take 4 = (l.drop 16).take 4 := s1
    rw [hs, p1, hb] at p2
    have hc := lowB_inj (n := 4) (by have := (crc (blank16 l)).isLt; omega) (by have := (crc (flipBit (blank16 l) q)).isLt; omega) p2
    have hbl : (blank16 l).length = l.length := by
      unfold blank16
      simp
      omega
    exact SumsW.flip_crc (blank16 l) q (by rw [hbl]; exact hq') (BitVec.eq_of_toNat_eq hc.symm)
  · have h1 : 16 ≤ q / 8 := Nat.le_of_not_lt fun x => hi (.inl x)
    have h2 : q / 8 < 20 := Nat.lt_of_not_le fun x => hi (.inr x)
    have hb : blank16 (flipBit l q) = blank16 l := set_inside h1 h2
    rw [hb, ← p1] at p2
    have hsplit : ∀ m : List UInt8, m = m.take 16 ++ ((m.drop 16).take 4 ++ m.drop 20) := by
      intro m
      rw [show m.drop 20 = (m.drop 16).drop 4 by rw [List.drop_drop], List.take_append_drop, List.take_append_drop]
    apply flip_ne hq'
    rw [hsplit (flipBit l q), p2]
    conv => rhs; rw [hsplit l]
    unfold flipBit
    rw [List.take_set_of_le h1, List.drop_set_of_lt h2]

/-- One bit turned: no frame any more. -/
theorem flip_bad {n : Nat} {k lba seq : Nat} {d : List UInt8} (hd : d.length + 21 ≤ n) {q : Nat} (hq : q < 8 * n) : ¬ Good (flipBit (pack n k lba seq d) q) n :=
  fun h => flip_other hd hq h.2.2.symm
end Go.Proofs.Ytmnhgpkbdiobkaa.OpenW
