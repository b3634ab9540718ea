/- ScanBlanks: the plain law; a list of pages as a list of slices. -/
import Derived.Test.YtlaipigilikmbaaMa30
import Derived.Test.YtlaipigilikmbaaBlWMa
set_option linter.unusedVariables false
namespace Go.Proofs.Ytlaipigilikmbaa.BlW
open Go Go.Conc Go.RowKit Go.Proofs Go.Proofs.Ytlaipigilikmbaa Go.Proofs.Ytlaipigilikmbaa.Co Go.Proofs.Ytlaipigilikmbaa.Cl Go.Proofs.Ytlaipigilikmbaa.Ph Go.Proofs.Ytlaipigilikmbaa.LwW Go.Proofs.Ytlaipigilikmbaa.OpenW
def bump (k : Nat) (x : Fnd) : Fnd := { x with page := if (k : Int) ≤ x.page then x.page + 1 else x.page }
/-- The pages with a blank one between. -/
def pgB (pg : Nat → List UInt8) (k m : Nat) (i : Nat) : List UInt8 := if i < k then pg i else if i = k then blk m else pg (i - 1)
def sh (k j : Nat) : Nat := if j < k then j else j + 1
theorem pgB_sh (pg : Nat → List UInt8) (k m j : Nat) : pgB pg k m (sh k j) = pg j := by
  unfold pgB sh
  by_cases h : j < k
  · rw [if_pos h, if_pos h]
  · rw [if_neg h, if_neg (by omega), if_neg (by omega), Nat.add_sub_cancel]
theorem fnd_sh (pg : Nat → List UInt8) (k m j : Nat) : fndOf (pgB pg k m) (sh k j) = bump k (fndOf pg j) := by
  unfold fndOf bump
  rw [pgB_sh]
  unfold sh
  by_cases h : j < k
  · simp only [if_pos h]
    rw [if_neg (by omega)]
  · simp only [if_neg h]
    rw [if_pos (by omega)]
    rfl
theorem counts_sh (pg : Nat → List UInt8) (k m j : Nat) : Counts (pgB pg k m) (sh k j) ↔ Counts pg j := by
  unfold Counts
  rw [pgB_sh]
theorem blk_bad (m n : Nat) : ¬ OpenW.Good (blk m) n := by
  intro h
  obtain ⟨h1, h2, h3⟩ := h
  have h4 := (good_pack n (kindOf (blk m)) (lbaOf (blk m)) (seqI (blk m)) (dataOf (blk m)) ?_ ?_).2.1
  · rw [Int.toNat_natCast, h3] at h4
    unfold blk at h4
    cases m with
    | zero => simp at h4
    | succ m => simp [List.replicate_succ] at h4
  · have : (dataOf (blk m)).length ≤ longOf (blk m) := by unfold dataOf; rw [List.length_take]; omega
    unfold PackW.Fits at h2 ⊢
    exact h2
  · have : (dataOf (blk m)).length ≤ longOf (blk m) := by unfold dataOf; rw [List.length_take]; omega
    omega
theorem blk_counts (pg : Nat → List UInt8) (k m : Nat) : ¬ Counts (pgB pg k m) k := by
  intro h
  have e : pgB pg k m k = blk m := by
    unfold pgB
    rw [if_neg (Nat.lt_irrefl _), if_pos rfl]
  unfold Counts at h
  rw [e] at h
  unfold opn at h
  rw [if_neg (blk_bad m _)] at h
  split at h
  · exact absurd h.1 (by decide)
  · exact absurd h.1 (by decide)
theorem is_sh {L k i : Nat} (hk : k ≤ L) (hi : i < L + 1) (hne : i ≠ k) : ∃ j, j < L ∧ i = sh k j := by
  unfold sh
  by_cases h : i < k
  · exact ⟨i, by omega, by rw [if_pos h]⟩
  · exact ⟨i - 1, by omega, by rw [if_neg (by omega)]; omega⟩
theorem blank_law {pg : Nat → List UInt8} {L k m : Nat} {l l2 : List Fnd} (hk : k ≤ L) (h : NewI pg L l) (h2 : NewI (pgB pg k m) (L + 1) l2) : l2 = l.map (bump k) := by
  refine h2.uniq ⟨?_, fun e he => ?_, fun e he i hi hc hx => ?_, fun i hi hc => ?_⟩
  · exact List.pairwise_map.2 (h.srt.imp fun hab => hab)
  · obtain ⟨e0, h0, rfl⟩ := List.mem_map.1 he
    obtain ⟨j, h1, h3, rfl⟩ := h.is_ e0 h0
    refine ⟨sh k j, by unfold sh; split <;> omega, (counts_sh pg k m j).2 h3, (fnd_sh pg k m j).symm⟩
  · obtain ⟨e0, h0, rfl⟩ := List.mem_map.1 he
    obtain ⟨j, h1, rfl⟩ := is_sh hk hi fun e => by subst e; exact blk_counts pg i m hc
    rw [fnd_sh] at hx ⊢
    have := h.max e0 h0 j h1 ((counts_sh pg k m j).1 hc) hx
    unfold Better bump at *
    dsimp only at *
    intro hb
    apply this
    rcases hb with hb | ⟨hb, hb2⟩
    · exact .inl hb
    · refine .inr ⟨hb, ?_⟩
      split at hb2 <;> split at hb2 <;> omega
  · obtain ⟨j, h1, rfl⟩ := is_sh hk hi fun e => by subst e; exact blk_counts pg i m hc
    obtain ⟨e, he, hx⟩ := h.has j h1 ((counts_sh pg k m j).1 hc)
    refine ⟨bump k e, List.mem_map.2 ⟨e, he, rfl⟩, ?_⟩
    rw [fnd_sh]
    exact hx
/-- The pages' slices as a list. -/
theorem pages_list {w : World} {A : Option Addr} {L : Nat} {pg : Nat → List UInt8} (h : LArgs w A L pg) : ∃ P : List Value, P.length = L ∧ Rd w A P ∧ (∀ k v, P[k]? = some v → PgAt w v (pg k)) ∧ ∀ u ∈ P, u.oneCell' = true := by
  have h1 : ∀ k, ∃ v, k < L → ∃ b off, A = some ⟨b, off, none⟩ ∧ w.cell? ⟨b, off + k, none⟩ = some v ∧ PgAt w v (pg k) := fun k => by
    by_cases hk : k < L
    · obtain ⟨b, off, pv, e1, e2, e3⟩ := h k hk
      exact ⟨pv, fun _ => ⟨b, off, e1, e2, e3⟩⟩
    · exact ⟨undef, fun h => absurd h hk⟩
  obtain ⟨f, hf⟩ := Classical.axiomOfChoice h1
  have hat : ∀ k v, ((List.range L).map f)[k]? = some v → k < L ∧ v = f k := fun k v hv => by
    rw [List.getElem?_map] at hv
    obtain ⟨j, hj, rfl⟩ := Option.map_eq_some_iff.1 hv
    have hl := (List.getElem?_eq_some_iff.1 hj).1
    rw [List.length_range] at hl
    rw [List.getElem?_range hl] at hj
    cases hj
    exact ⟨hl, rfl⟩
  refine ⟨(List.range L).map f, by simp, ?_, fun k v hv => ?_, fun u hu => ?_⟩
  · rcases Nat.eq_zero_or_pos L with h0 | h0
    · subst h0
      exact Rd.nil _ _
    · obtain ⟨b, off, rfl, -, -⟩ := hf 0 h0
      refine .inr ⟨b, off, rfl, fun i u hu => ?_⟩
      obtain ⟨hi, rfl⟩ := hat i u hu
      obtain ⟨b', off', e1, e2, -⟩ := hf i hi
      cases e1
      exact e2
  · obtain ⟨hk, rfl⟩ := hat k v hv
    obtain ⟨-, -, -, -, e3⟩ := hf k hk
    exact e3
  · obtain ⟨k, hk, rfl⟩ := List.mem_map.1 hu
    obtain ⟨-, -, -, -, e3⟩ := hf k (List.mem_range.1 hk)
    generalize f k = v at e3 ⊢
    generalize pg k = lk at e3
    cases e3 <;> rfl
/-- .. with a page more between. -/
theorem more_args {w : World} {B n c : Nat} {D : Option Addr} {P : List Value} {L k m : Nat} {pg : Nat → List UInt8} {vb : Value} (ho : w.ownsRow B 22 1 (.slice D n c) n (P.take k ++ [vb] ++ P.drop k)) (hP : P.length = L) (hk : k ≤ L) (hpg : ∀ j v, P[j]? = some v → PgAt w v (pg j)) (hvb : PgAt w vb (blk m)) : LArgs w D n (pgB pg k m) := by
  intro i hi
  have hlen := ho.1
  rw [List.length_append, List.length_append, List.length_take, List.length_drop, hP] at hlen
  simp only [List.length_cons, List.length_nil] at hlen
  rcases ho.2 with ⟨hv, h0⟩ | ⟨g, cap, cur, hv, hb, hg, hnc, hm, hs, ht⟩
  · omega
  · injection hv with hv
    subst hv
    have hxi : ∃ v, (P.take k ++ [vb] ++ P.drop k)[i]? = some v ∧ PgAt w v (pgB pg k m i) := by
      unfold pgB
      by_cases h1 : i < k
      · rw [if_pos h1, List.append_assoc, List.getElem?_append_left (by rw [List.length_take]; omega), List.getElem?_take, if_pos h1]
        have : i < P.length := by omega
        exact ⟨P[i], List.getElem?_eq_getElem this, hpg i _ (List.getElem?_eq_getElem this)⟩
      · rw [if_neg h1]
        by_cases h2 : i = k
        · rw [if_pos h2]
          refine ⟨vb, ?_, hvb⟩
          rw [List.append_assoc, List.getElem?_append_right (by rw [List.length_take]; omega), List.length_take, show i - min k P.length = 0 by omega]
          rfl
        · rw [if_neg h2]
          have h3 : i - 1 < P.length := by omega
          refine ⟨P[i - 1], ?_, hpg (i - 1) _ (List.getElem?_eq_getElem h3)⟩
          rw [List.getElem?_append_right (by rw [List.length_append, List.length_take]; simp; omega), List.length_append, List.length_take, List.getElem?_drop]
          simp only [List.length_cons, List.length_nil]
          rw [show k + (i - (min k P.length + (0 + 1))) = i - 1 by omega]
          exact List.getElem?_eq_getElem h3
    obtain ⟨v, hv, hpv⟩ := hxi
    refine ⟨g, 0, v, rfl, ?_, hpv⟩
    have h4 : (cur.toList.take (n * 1))[i]? = some v := by rw [ht]; exact hv
    rw [List.getElem?_take, if_pos (by omega)] at h4
    unfold World.cell?
    simp only [hg, Nat.zero_add]
    simpa using h4
theorem RdF.congr {w : World} {A : Option Addr} {n : Nat} {a p s q a' p' s' q' : Nat → Int} (h : RdF w A n a p s q) (e : ∀ i, i < n → a i = a' i ∧ p i = p' i ∧ s i = s' i ∧ q i = q' i) : RdF w A n a' p' s' q' := fun i hi => by
  obtain ⟨b, off, h0, h1, h2, h3, h4⟩ := h i hi
  obtain ⟨e1, e2, e3, e4⟩ := e i hi
  exact ⟨b, off, h0, e1 ▸ h1, e2 ▸ h2, e3 ▸ h3, e4 ▸ h4⟩
end Go.Proofs.Ytlaipigilikmbaa.BlW
