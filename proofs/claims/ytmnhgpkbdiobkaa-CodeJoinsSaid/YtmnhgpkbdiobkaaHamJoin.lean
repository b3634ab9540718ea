/- Plain: joined lists of words, and their check bytes. -/
import Derived.Test.YtmnhgpkbdiobkaaHamLists
set_option linter.unusedVariables false
namespace Go.Proofs.Ytmnhgpkbdiobkaa.Ham
open Pop PlacesW WordW ProtectW BitsW MendW

theorem chunk_left (x y : List UInt8) (K i : Nat) (hx : x.length = 8 * K) (hi : i < K) : chunk (x ++ y) i = chunk x i := by
  unfold chunk
  rw [List.drop_append_of_le_length (by omega), List.take_append_of_le_length (by simp; omega)]

theorem chunk_right (x y : List UInt8) (K i : Nat) (hx : x.length = 8 * K) : chunk (x ++ y) (K + i) = chunk y i := by
  unfold chunk
  rw [show 8 * (K + i) = x.length + 8 * i from by omega, List.drop_append]
  rw [List.drop_of_length_le (by omega), List.nil_append, Nat.add_sub_cancel_left]

theorem getD_left (u v : List UInt8) (K i : Nat) (hu : u.length = K) (hi : i < K) : (u ++ v).getD i 0 = u.getD i 0 := by
  simp only [List.getD_eq_getElem?_getD]
  rw [List.getElem?_append_left (by omega)]

theorem getD_right (u v : List UInt8) (K i : Nat) (hu : u.length = K) : (u ++ v).getD (K + i) 0 = v.getD i 0 := by
  simp only [List.getD_eq_getElem?_getD]
  rw [List.getElem?_append_right (by omega), hu, Nat.add_sub_cancel_left]

theorem total_add (E : Nat → Nat) (K L : Nat) : total E (K + L) = total E K + total (fun i => E (K + i)) L := by
  induction L with
  | zero => rfl
  | succ L ih => rw [← Nat.add_assoc]; simp only [total]; rw [ih]; omega

theorem total_congr (E F : Nat → Nat) (K : Nat) (h : ∀ i, i < K → E i = F i) : total E K = total F K := by
  induction K with
  | zero => rfl
  | succ K ih => simp only [total]; rw [ih (fun i hi => h i (by omega)), h K (by omega)]

theorem off_left {l a cs m b ds : List UInt8} {E F : Nat → Nat} {K i : Nat} (hl : l.length = 8 * K) (ha : a.length = 8 * K) (hc : cs.length = K) (hi : i < K) (hE : F i = E i) (h : OneOff l a cs E i) : OneOff (l ++ m) (a ++ b) (cs ++ ds) F i := by
  unfold OneOff at h ⊢
  rw [wordAt_chunk, chunk_left l m K i hl hi, chunk_left a b K i ha hi, getD_left cs ds K i hc hi, hE, ← wordAt_chunk]
  exact h

theorem off_right {l a cs m b ds : List UInt8} {E F : Nat → Nat} {K i : Nat} (hl : l.length = 8 * K) (ha : a.length = 8 * K) (hc : cs.length = K) (hE : F (K + i) = E i) (h : OneOff m b ds E i) : OneOff (l ++ m) (a ++ b) (cs ++ ds) F (K + i) := by
  unfold OneOff at h ⊢
  rw [wordAt_chunk, chunk_right l m K i hl, chunk_right a b K i ha, getD_right cs ds K i hc, hE, ← wordAt_chunk]
  exact h

theorem turnL_len (l p : List UInt8) (k : Nat) : (turnL l p k).1.length = l.length ∧ (turnL l p k).2.length = p.length := by
  unfold turnL
  split <;> simp [flipBit_length]

theorem wordAt_left (x y : List UInt8) (K i : Nat) (hx : x.length = 8 * K) (hi : i < K) : wordAt (x ++ y) i = wordAt x i := by
  rw [wordAt_chunk (x ++ y) i, wordAt_chunk x i, chunk_left x y K i hx hi]
theorem wordAt_right (x y : List UInt8) (K i : Nat) (hx : x.length = 8 * K) : wordAt (x ++ y) (K + i) = wordAt y i := by
  rw [wordAt_chunk (x ++ y) (K + i), wordAt_chunk y i, chunk_right x y K i hx]

theorem prot_zero (l : List UInt8) : prot l 0 = [] := rfl

attribute [local irreducible] chk wordAt prot chunk

theorem prot_join (a b : List UInt8) (K L : Nat) (ha : a.length = 8 * K) : prot (a ++ b) (K + L) = prot a K ++ prot b L := by
  have h1 : ∀ k, k ≤ K → prot (a ++ b) k = prot a k := by
    intro k hk
    induction k with
    | zero => rw [prot_zero, prot_zero]
    | succ k ih => rw [prot_succ (a ++ b) k, prot_succ a k, ih (by omega), wordAt_left a b K k ha (by omega)]
  induction L with
  | zero => rw [Nat.add_zero, h1 K (Nat.le_refl _), prot_zero, List.append_nil]
  | succ L ih => rw [← Nat.add_assoc, prot_succ (a ++ b) (K + L), ih, prot_succ b L, wordAt_right a b K L ha, List.append_assoc]

attribute [local irreducible] turnL mendTo

theorem mend_join (a b : List UInt8) (K L k m : Nat) (ha : a.length = 8 * K) (hb : b.length = 8 * L) (hk : k < 72 * K) (hm : m < 72 * L) :
    mendTo ((turnL a (prot a K) k).1 ++ (turnL b (prot b L) m).1) ((turnL a (prot a K) k).2 ++ (turnL b (prot b L) m).2) (K + L) = some (a ++ b, 2) := by
  obtain ⟨l1, l2⟩ := turnL_len a (prot a K) k
  obtain ⟨l3, l4⟩ := turnL_len b (prot b L) m
  rw [prot_length] at l2 l4
  have q1 : (if k < 64 * K then k / 64 else (k - 64 * K) / 8) < K := by split <;> omega
  have q2 : (if m < 64 * L then m / 64 else (m - 64 * L) / 8) < L := by split <;> omega
  have t1 := fun i hi => turned_off a K k ha hk i hi
  have t2 := fun i hi => turned_off b L m hb hm i hi
  generalize (if k < 64 * K then k / 64 else (k - 64 * K) / 8) = q at q1 t1
  generalize (if m < 64 * L then m / 64 else (m - 64 * L) / 8) = r at q2 t2
  have hE1 : ∀ i, i < K → (fun i => if i < K then (if i = q then 1 else 0) else (if i - K = r then 1 else 0)) i = (fun i => if i = q then 1 else 0) i := fun i hi => by simp [hi]
  have hE2 : ∀ i, (fun i => if i < K then (if i = q then 1 else 0) else (if i - K = r then 1 else 0)) (K + i) = (fun i => if i = r then 1 else 0) i := fun i => by
    show (if K + i < K then _ else _) = _
    rw [if_neg (by omega), Nat.add_sub_cancel_left]
  generalize (turnL a (prot a K) k).1 = x at *
  generalize (turnL a (prot a K) k).2 = u at *
  generalize (turnL b (prot b L) m).1 = y at *
  generalize (turnL b (prot b L) m).2 = v at *
  rw [mend_all (a ++ b) _ _ (K + L) (by simp; omega) (by simp; omega) (fun i => if i < K then (if i = q then 1 else 0) else (if i - K = r then 1 else 0))]
  · rw [total_add, total_congr _ (fun i => if i = q then 1 else 0) K hE1, total_congr _ (fun i => if i = r then 1 else 0) L (fun i _ => hE2 i), total_one _ q K (fun i => rfl), total_one _ r L (fun i => rfl), if_pos q1, if_pos q2]
  · intro i hi
    by_cases h : i < K
    · exact off_left ha (by omega) l2 h (hE1 i h) (t1 i h)
    · obtain ⟨j, rfl⟩ : ∃ j, i = K + j := ⟨i - K, by omega⟩
      exact off_right ha (by omega) l2 (hE2 j) (t2 j (by omega))

end Go.Proofs.Ytmnhgpkbdiobkaa.Ham
