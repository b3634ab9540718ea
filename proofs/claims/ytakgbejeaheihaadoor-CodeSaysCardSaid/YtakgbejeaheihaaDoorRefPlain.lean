/- Plain: what mending by trial makes of word after word. No program here. -/
import Derived.Test.YtakgbejeaheihaaDoorCheckPlain
namespace Go.Proofs.YtakgbejeaheihaaDoor.CheckP
open Pop PlacesW WordW ProtectW MendW Ham

theorem flipAt_bit (l : List UInt8) (i j : Nat) : flipAt l i j = flipBit l (64 * i + j) := by
  unfold flipAt flipBit
  rw [show (64 * i + j) / 8 = 8 * i + j / 8 by omega, show (64 * i + j) % 8 = j % 8 by omega]
theorem flipBit_drop (l : List UInt8) (k m : Nat) (h : k / 8 < m) : (flipBit l k).drop m = l.drop m := by
  unfold flipBit
  rw [List.drop_set_of_lt h]
theorem flipBit_len (l : List UInt8) (k : Nat) : (flipBit l k).length = l.length := by simp [flipBit]

theorem fix_le (x c : Nat) : fixOf x c ≤ 65 ∨ fixOf x c = 100 := by
  unfold fixOf
  repeat' split
  all_goals omega

theorem mend_drop (l cs : List UInt8) : ∀ (k : Nat) (out : List UInt8) (c : Nat), mendTo l cs k = some (out, c) → out.drop (8 * k) = l.drop (8 * k) := by
  intro k
  induction k with
  | zero =>
    intro out c h
    simp [mendTo] at h
    rw [h.1]
  | succ k ih =>
    intro out c h
    simp only [mendTo] at h
    cases hr : mendTo l cs k with
    | none => rw [hr] at h; cases h
    | some r =>
      obtain ⟨o, q⟩ := r
      rw [hr] at h
      have h0 := ih o q hr
      have h1 : o.drop (8 * (k + 1)) = l.drop (8 * (k + 1)) := by
        rw [show 8 * (k + 1) = 8 * k + 8 by omega, ← List.drop_drop, ← List.drop_drop, h0]
      simp only [Option.bind_some] at h
      split at h
      · cases h
      · rename_i hf
        have hle := fix_le (wordAt l k) (cs.getD k 0).toNat
        split at h
        · injection h with h; injection h with h _; rw [← h]; exact h1
        · split at h
          · injection h with h; injection h with h _; rw [← h]; exact h1
          · injection h with h; injection h with h _
            rw [← h, flipAt_bit]
            by_cases hj : fixOf (wordAt l k) (cs.getD k 0).toNat - 2 ≤ 63
            · rw [flipBit_drop _ _ _ (by omega)]
              exact h1
            · exfalso
              omega

/-- The first k + 1 words, one more fine. -/
theorem take_fine {l out : List UInt8} {k : Nat} (h : out.drop (8 * k) = l.drop (8 * k)) : out.take (8 * (k + 1)) = out.take (8 * k) ++ chunk l k := by
  rw [take_chunk]
  unfold chunk
  rw [h]
/-- .. one more with a bit turned. -/
theorem take_flip {l out : List UInt8} {k j : Nat} (h : out.drop (8 * k) = l.drop (8 * k)) (hj : j < 64) (hl : 8 * (k + 1) ≤ out.length) : (flipAt out k j).take (8 * (k + 1)) = out.take (8 * k) ++ flipBit (chunk l k) j := by
  have h1 : out = out.take (8 * k) ++ (chunk l k ++ out.drop (8 * (k + 1))) := by
    rw [← List.append_assoc, ← take_fine h, List.take_append_drop]
  have hlen : (out.take (8 * k)).length = 8 * k := by rw [List.length_take]; omega
  have hcl : (chunk l k).length = 8 := by
    have : chunk l k = (out.drop (8 * k)).take 8 := by unfold chunk; rw [h]
    rw [this, List.length_take, List.length_drop]
    omega
  rw [flipAt_bit]
  have h2 : flipBit out (64 * k + j) = out.take (8 * k) ++ (flipBit (chunk l k) j ++ out.drop (8 * (k + 1))) := by
    have e : 64 * k + j = 8 * (out.take (8 * k)).length + j := by rw [hlen]; omega
    rw [← flipBit_append_left _ _ _ (by rw [hcl]; omega), ← flipBit_append_right, ← h1, e]
  rw [h2, ← List.append_assoc, List.take_append_of_le_length (by simp [flipBit_len, hlen, hcl]; omega), List.take_of_length_le (by simp [flipBit_len, hlen, hcl]; omega)]
end Go.Proofs.YtakgbejeaheihaaDoor.CheckP
