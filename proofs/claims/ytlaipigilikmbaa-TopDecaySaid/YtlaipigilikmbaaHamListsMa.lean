/- Plain: lists of words with their check bytes, of which at most one bit each is turned, are mended. -/
import Derived.Test.YtlaipigilikmbaaHamPlainMa
set_option linter.unusedVariables false
namespace Go.Proofs.Ytlaipigilikmbaa.Ham
open Pop PlacesW WordW ProtectW BitsW MendW

theorem bit_toNat (b : UInt8) (r : Nat) (hr : r < 8) : (b ^^^ UInt8.ofNat (2 ^ r)).toNat = b.toNat ^^^ 2 ^ r := by
  have : (2 : Nat) ^ r ≤ 2 ^ 7 := Nat.pow_le_pow_right (by omega) (by omega)
  rw [UInt8.toNat_xor, UInt8.toNat_ofNat', Nat.mod_eq_of_lt (a := 2 ^ r) (by omega)]

theorem flipBit_cons_low (b : UInt8) (t : List UInt8) (j : Nat) (hj : j < 8) : flipBit (b :: t) j = (b ^^^ UInt8.ofNat (2 ^ j)) :: t := by
  unfold flipBit
  rw [Nat.div_eq_of_lt hj, Nat.mod_eq_of_lt hj]
  rfl

theorem flipBit_cons_high (b : UInt8) (t : List UInt8) (j : Nat) : flipBit (b :: t) (j + 8) = b :: flipBit t j := by
  unfold flipBit
  rw [show (j + 8) / 8 = j / 8 + 1 from by omega, show (j + 8) % 8 = j % 8 from by omega]
  rfl

theorem le_flip (t : List UInt8) (j : Nat) (hj : j < 8 * t.length) : le (flipBit t j) = le t ^^^ 2 ^ j := by
  induction t generalizing j with
  | nil => simp at hj
  | cons b t ih =>
    have hb := b.toNat_lt
    by_cases h : j < 8
    · rw [flipBit_cons_low b t j h]
      simp only [le]
      rw [bit_toNat b j h]
      have hp : (2 : Nat) ^ j < 2 ^ 8 := Nat.pow_lt_pow_right (by omega) h
      have := xor_join 8 b.toNat (le t) (2 ^ j) 0 hb hp
      simp only [Nat.zero_mul, Nat.add_zero, Nat.xor_zero] at this
      rw [Nat.mul_comm 256, show (256 : Nat) = 2 ^ 8 from rfl, this]
    · obtain ⟨j', rfl⟩ : ∃ j', j = j' + 8 := ⟨j - 8, by omega⟩
      rw [flipBit_cons_high]
      simp only [le]
      rw [ih j' (by simp at hj; omega)]
      have := xor_join 8 b.toNat (le t) 0 (2 ^ j') hb (by omega)
      simp only [Nat.zero_add, Nat.xor_zero] at this
      rw [Nat.mul_comm 256, Nat.mul_comm 256, show (256 : Nat) = 2 ^ 8 from rfl, Nat.pow_add, this]

theorem flipBit_twice (t : List UInt8) (j : Nat) : flipBit (flipBit t j) j = t := by
  unfold flipBit
  by_cases h : j / 8 < t.length
  · have e : (t.set (j / 8) (t.getD (j / 8) 0 ^^^ UInt8.ofNat (2 ^ (j % 8)))).getD (j / 8) 0 = t.getD (j / 8) 0 ^^^ UInt8.ofNat (2 ^ (j % 8)) := by
      simp [List.getD, h]
    rw [e, List.set_set, UInt8.xor_assoc, UInt8.xor_self, UInt8.xor_zero]
    simp [List.getD, h]
  · rw [List.set_eq_of_length_le (by simp; omega), List.set_eq_of_length_le (by omega)]

theorem flipBit_append_left (c r : List UInt8) (j : Nat) (h : j < 8 * c.length) : flipBit (c ++ r) j = flipBit c j ++ r := by
  have hi : j / 8 < c.length := by omega
  unfold flipBit
  rw [List.set_append_left _ _ hi]
  congr 2
  simp [List.getD, List.getElem?_append_left hi]

theorem flipBit_append_right (c r : List UInt8) (j : Nat) : flipBit (c ++ r) (8 * c.length + j) = c ++ flipBit r j := by
  unfold flipBit
  have hi : (8 * c.length + j) / 8 = c.length + j / 8 := by omega
  have hm : (8 * c.length + j) % 8 = j % 8 := by omega
  rw [hi, hm, List.set_append_right _ _ (by omega), Nat.add_sub_cancel_left]
  congr 2
  rw [List.getD_eq_getElem?_getD, List.getD_eq_getElem?_getD, List.getElem?_append_right (by omega), Nat.add_sub_cancel_left]

/-- The i-th eight bytes. -/
def chunk (l : List UInt8) (i : Nat) : List UInt8 := (l.drop (8 * i)).take 8
theorem wordAt_chunk (l : List UInt8) (i : Nat) : wordAt l i = le (chunk l i) := rfl
theorem chunk_length (l : List UInt8) (i K : Nat) (hl : l.length = 8 * K) (hi : i < K) : (chunk l i).length = 8 := by simp [chunk]; omega
theorem drop_chunk (l : List UInt8) (i : Nat) : l.drop (8 * i) = chunk l i ++ l.drop (8 * (i + 1)) := by
  unfold chunk
  rw [show 8 * (i + 1) = 8 * i + 8 from by omega, ← List.drop_drop, List.take_append_drop]
theorem take_chunk (l : List UInt8) (i : Nat) : l.take (8 * (i + 1)) = l.take (8 * i) ++ chunk l i := by
  unfold chunk
  rw [show 8 * (i + 1) = 8 * i + 8 from by omega, List.take_add]

/-- One bit of a list turned, word by word. -/
theorem chunk_flip (l : List UInt8) (k i : Nat) (hk : k < 8 * l.length) : chunk (flipBit l k) i = if k / 64 = i then flipBit (chunk l i) (k % 64) else chunk l i := by
  unfold chunk flipBit
  rw [List.drop_set]
  by_cases h1 : k / 8 < 8 * i
  · rw [if_pos h1, if_neg (by omega)]
  · rw [if_neg h1, List.take_set]
    by_cases h2 : k / 64 = i
    · rw [if_pos h2]
      have e1 : k / 8 - 8 * i = k % 64 / 8 := by omega
      have e2 : k % 64 % 8 = k % 8 := by omega
      rw [e1, e2]
      congr 2
      simp only [List.getD_eq_getElem?_getD, List.getElem?_take, List.getElem?_drop]
      rw [if_pos (by omega), show 8 * i + k % 64 / 8 = k / 8 from by omega]
    · rw [if_neg h2, List.set_eq_of_length_le]
      simp; omega

/-- At most one bit of a word and its check is turned. -/
def OneOff (l a cs : List UInt8) (E : Nat → Nat) (i : Nat) : Prop :=
  (E i = 0 ∧ chunk a i = chunk l i ∧ (cs.getD i 0).toNat = chk (wordAt l i)) ∨
  (E i = 1 ∧ chunk a i = chunk l i ∧ ∃ j, j < 8 ∧ (cs.getD i 0).toNat = chk (wordAt l i) ^^^ 2 ^ j) ∨
  (E i = 1 ∧ ∃ j, j < 64 ∧ chunk a i = flipBit (chunk l i) j ∧ (cs.getD i 0).toNat = chk (wordAt l i))

def total (E : Nat → Nat) : Nat → Nat
  | 0 => 0
  | i + 1 => total E i + E i

theorem mend_upto (l a cs : List UInt8) (K : Nat) (hl : l.length = 8 * K) (ha : a.length = 8 * K) (E : Nat → Nat) (h : ∀ i, i < K → OneOff l a cs E i) (i : Nat) (hi : i ≤ K) :
    mendTo a cs i = some (l.take (8 * i) ++ a.drop (8 * i), total E i) := by
  induction i with
  | zero => simp [mendTo, total]
  | succ i ih =>
    have hm := ih (by omega)
    have hlen := chunk_length l i K hl (by omega)
    rw [take_chunk]
    simp only [total]
    rcases h i (by omega) with ⟨he, hch, hc⟩ | ⟨he, hch, j, hj, hc⟩ | ⟨he, j, hj, hch, hc⟩
    · rw [he, step_fine hm (by rw [hc, wordAt_chunk a, hch, ← wordAt_chunk]; exact fix_none _), drop_chunk a, hch]
      simp
    · rw [he, step_check hm (by rw [hc, wordAt_chunk a, hch, ← wordAt_chunk]; exact fix_check1 _ j hj), drop_chunk a, hch]
      simp
    · rw [he]
      rw [step_flip j (by omega) hm (by rw [hc, wordAt_chunk a, hch, le_flip _ _ (by omega), ← wordAt_chunk]; exact fix_word _ j hj)]
      congr 2
      unfold flipAt
      have e0 : (l.take (8 * i)).length = 8 * i := by simp; omega
      have hfl := flipBit_append_right (l.take (8 * i)) (a.drop (8 * i)) j
      rw [e0] at hfl
      unfold flipBit at hfl
      rw [show (8 * (8 * i) + j) / 8 = 8 * i + j / 8 from by omega, show (8 * (8 * i) + j) % 8 = j % 8 from by omega] at hfl
      rw [hfl]
      have hx := flipBit_append_left (chunk a i) (a.drop (8 * (i + 1))) j (by rw [hch, flipBit_length]; omega)
      rw [← drop_chunk, hch, flipBit_twice] at hx
      unfold flipBit at hx
      rw [hx, List.append_assoc]

theorem mend_all (l a cs : List UInt8) (K : Nat) (hl : l.length = 8 * K) (ha : a.length = 8 * K) (E : Nat → Nat) (h : ∀ i, i < K → OneOff l a cs E i) : mendTo a cs K = some (l, total E K) := by
  rw [mend_upto l a cs K hl ha E h K (Nat.le_refl _), List.take_of_length_le (by omega), List.drop_of_length_le (by omega), List.append_nil]

theorem prot_get (l : List UInt8) (K i : Nat) (hi : i < K) : ((prot l K).getD i 0).toNat = chk (wordAt l i) := by
  have := chk_lt (wordAt l i)
  simp [prot, List.getD, hi]
  omega

/-- Where one bit is turned. -/
theorem total_one (E : Nat → Nat) (q K : Nat) (h : ∀ i, E i = if i = q then 1 else 0) : total E K = if q < K then 1 else 0 := by
  induction K with
  | zero => simp [total]
  | succ K ih =>
    simp only [total, ih, h]
    by_cases h1 : q < K
    · rw [if_pos h1, if_neg (by omega), if_pos (by omega)]
    · by_cases h2 : K = q
      · subst h2; rw [if_neg h1, if_pos rfl, if_pos (by omega)]
      · rw [if_neg h1, if_neg h2, if_neg (by omega)]

theorem flip_get (p : List UInt8) (q i : Nat) (hi : i < p.length) : ((flipBit p q).getD i 0).toNat = if q / 8 = i then (p.getD i 0).toNat ^^^ 2 ^ (q % 8) else (p.getD i 0).toNat := by
  unfold flipBit
  by_cases h : q / 8 = i
  · subst h
    rw [if_pos rfl, ← bit_toNat _ _ (by omega)]
    simp [List.getD, hi]
  · rw [if_neg h]
    simp [List.getD, h]

/-- One bit of a list or of its check bytes turned. -/
theorem turned_off (l : List UInt8) (K k : Nat) (hl : l.length = 8 * K) (hk : k < 72 * K) (i : Nat) (hi : i < K) :
    OneOff l (turnL l (prot l K) k).1 (turnL l (prot l K) k).2 (fun i => if i = (if k < 64 * K then k / 64 else (k - 64 * K) / 8) then 1 else 0) i := by
  unfold turnL
  by_cases h : k < 8 * l.length
  · rw [if_pos h]
    have hk2 : k < 64 * K := by omega
    by_cases hq : k / 64 = i
    · right; right
      refine ⟨by simp [hk2, hq], k % 64, by omega, ?_, prot_get l K i hi⟩
      show chunk (flipBit l k) i = _
      rw [chunk_flip l k i h, if_pos hq]
    · left
      refine ⟨by simp only [hk2, if_true]; rw [if_neg (by omega)], ?_, prot_get l K i hi⟩
      show chunk (flipBit l k) i = _
      rw [chunk_flip l k i h, if_neg hq]
  · rw [if_neg h]
    have hk2 : ¬ k < 64 * K := by omega
    have e : k - 8 * l.length = k - 64 * K := by omega
    have hg := flip_get (prot l K) (k - 64 * K) i (by rw [prot_length]; exact hi)
    rw [prot_get l K i hi] at hg
    simp only [e]
    by_cases hq : (k - 64 * K) / 8 = i
    · right; left
      rw [if_pos hq] at hg
      exact ⟨by simp [hk2, hq], rfl, (k - 64 * K) % 8, by omega, hg⟩
    · left
      rw [if_neg hq] at hg
      exact ⟨by simp only [hk2, if_false]; rw [if_neg (by omega)], rfl, hg⟩

theorem mend_turned (l : List UInt8) (K k : Nat) (hl : l.length = 8 * K) (hk : k < 72 * K) : mendTo (turnL l (prot l K) k).1 (turnL l (prot l K) k).2 K = some (l, 1) := by
  have hlen : (turnL l (prot l K) k).1.length = 8 * K := by
    unfold turnL
    split
    · simp [flipBit_length, hl]
    · exact hl
  rw [mend_all l _ _ K hl hlen _ (fun i hi => turned_off l K k hl hk i hi), total_one _ (if k < 64 * K then k / 64 else (k - 64 * K) / 8) K (fun i => rfl)]
  rw [if_pos]
  split <;> omega

theorem mend_whole (l : List UInt8) (K : Nat) (hl : l.length = 8 * K) : mendTo l (prot l K) K = some (l, 0) := by
  rw [mend_all l l (prot l K) K hl hl (fun _ => 0) (fun i hi => .inl ⟨rfl, rfl, prot_get l K i hi⟩)]
  congr 2
  induction K with
  | zero => rfl
  | succ K ih => clear ih; show total _ (K + 1) = 0; clear hl; induction (K + 1) with
    | zero => rfl
    | succ n ih => simp [total, ih]

end Go.Proofs.Ytlaipigilikmbaa.Ham
