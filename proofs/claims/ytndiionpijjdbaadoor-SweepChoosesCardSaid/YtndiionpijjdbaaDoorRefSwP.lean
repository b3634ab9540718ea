/- The walks of granaryref1.PlanOf, Ints. -/
import Derived.Test.YtndiionpijjdbaaDoorRefSwC
import Derived.Test.YtndiionpijjdbaaDoorSweepB
import Derived.Test.YtndiionpijjdbaaDoorIntsOpen
set_option linter.unusedVariables false
namespace Go.Proofs.YtndiionpijjdbaaDoor.SwW
open Go.RowKit I64 Stab

theorem rblk_info : (Tryd.prog.info? 41).map (fun i => (i.zero, i.size, i.bytes)) = some (some (.agg #[.bool false, .int .i64 0, .int .i64 0]), 3, 24) := by kernel_rfl
theorem flatB_get {S : Nat → Blk} {n j : Nat} {u : Value} (h : (flatB S n)[j]? = some u) : ∃ i r, j = i * 3 + r ∧ i < n ∧ [Value.bool (S i).u, .int .i64 (S i).lv, .int .i64 (S i).wr][r]? = some u := by
  have hj := (List.getElem?_eq_some_iff.1 h).1
  rw [flatB_len] at hj
  refine ⟨j / 3, j % 3, by omega, by omega, ?_⟩
  have hr : j % 3 < 3 := by omega
  obtain ⟨v, hv⟩ : ∃ v, [Value.bool (S (j / 3)).u, .int .i64 (S (j / 3)).lv, .int .i64 (S (j / 3)).wr][j % 3]? = some v := ⟨_, List.getElem?_eq_getElem (by simpa using hr)⟩
  have h1 := flatB_at S n (j / 3) (j % 3) (by omega) v hv
  rw [show j / 3 * 3 + j % 3 = j from by omega, h] at h1
  rw [hv, h1]
theorem flatB_one (S : Nat → Blk) (n : Nat) : ∀ u ∈ flatB S n, u.oneCell' = true := by
  intro u hu
  obtain ⟨j, hj⟩ := List.getElem?_of_mem hu
  obtain ⟨i, r, -, -, h⟩ := flatB_get hj
  rcases r with _ | _ | _ | r <;> simp at h <;> subst h <;> rfl
theorem own3 {w : World} {base : Nat} {e : TypeId} {v : Value} {n : Nat} {xs : List Value} (h : w.ownsRow base e 3 v n xs) : ∃ D c, v = .slice D n c ∧ n ≤ c := by
  rcases h.2 with ⟨rfl, rfl⟩ | ⟨g, cap, cur, rfl, _, _, hnc, _⟩
  · exact ⟨none, 0, rfl, Nat.le_refl _⟩
  · exact ⟨_, cap, rfl, hnc⟩
/-- append of blocks to an empty row. -/
theorem run_append_blks (w : World) (base : Nat) (ty : TypeId) (v : Value) (hown : w.ownsRow base 41 3 v 0 []) (A : Option Addr) (n c : Nat) (S : Nat → Blk) (T : Nat) (hr : RdB w A n S T) (hn : n * 24 ≤ 140737488351232) (hbase : base ≤ w.heap.size) :
    ∃ D c' w', (Builtin.append_ #[22, 22] ty #[v, .slice A n c]).run Tryd.prog w = .ok (.slice D n c') w' ∧ n ≤ c' ∧ w'.ownsRow base 41 3 (.slice D n c') n (flatB S n) ∧ Below base w w' := by
  obtain ⟨i0, hi0, hz0, hz1, hz2⟩ := info_parts rblk_info
  cases A with
  | none =>
    obtain rfl : n = 0 := by
      rcases Nat.eq_zero_or_pos n with h | h
      · exact h
      · obtain ⟨b, off, h1, -⟩ := hr 0 h
        cases h1
    obtain ⟨D, c', rfl, hc'⟩ := own3 hown
    refine ⟨D, c', w, ?_, hc', hown, Below.refl _ _⟩
    rcases hown.2 with ⟨hv, -⟩ | ⟨g, cap, cur, hv, _, _, hnc, _⟩
    · injection hv with h1 h2 h3
      subst h1 h3
      simp [Builtin.append_, run_underlying Tryd.underlying22, sizeOf, typeInfo, hi0, Builtin.lenOf, Builtin.firstCells]
    · injection hv with h1 h2 h3
      subst h1 h3
      simp [Builtin.append_, run_underlying Tryd.underlying22, sizeOf, typeInfo, hi0, Builtin.lenOf, Builtin.firstCells, hnc, storeCells]
  | some ad =>
    obtain ⟨v', w', hrun, h2, h3, -, h5⟩ := run_append_own_at (P := Tryd.prog) w base 22 ty 41 i0 _ 3 24 Tryd.underlying22 hi0 hz0 hz1 hz2 rfl (by omega) v 0 [] hown ad n c (flatB S n) (flatB_len S n) (by
      intro j u hu
      obtain ⟨i, r, rfl, hi, hv⟩ := flatB_get hu
      obtain ⟨b, off, hA, -, c0, c1, c2⟩ := hr i hi
      injection hA with hA
      subst hA
      rw [Addr.add_lit]
      rcases r with _ | _ | _ | r <;> simp at hv <;> subst hv
      · exact c0
      · rw [← Nat.add_assoc]; exact c1
      · rw [← Nat.add_assoc]; exact c2) (flatB_one S n) (by simp only [maxLen]; omega) (by omega) hbase
    rw [Nat.zero_add, List.nil_append] at h2
    obtain ⟨D, c', rfl, hc'⟩ := own3 h2
    exact ⟨D, c', w', hrun, hc', h2, (Below.refl _ _).grown h3 hbase (fun k h => (hown.lt k h).1)⟩

/-- The first j of Z are emptied. -/
noncomputable def useS (S : Nat → Blk) (Z : List Int) (j : Nat) : Nat → Blk := fun i => if (i : Int) ∈ Z.take j then { S i with u := false } else S i
theorem useS_lv {S : Nat → Blk} {Z : List Int} {j i : Nat} : (useS S Z j i).lv = (S i).lv ∧ (useS S Z j i).wr = (S i).wr := by
  unfold useS
  split <;> exact ⟨rfl, rfl⟩
theorem useS_zero {S : Nat → Blk} {Z : List Int} : useS S Z 0 = S := by
  funext i
  unfold useS
  rw [if_neg (by simp)]
theorem useS_ckey {S : Nat → Blk} {Z : List Int} {j : Nat} : ckey (useS S Z j) = ckey S := by
  funext x y
  unfold ckey
  rw [useS_lv.1, useS_lv.1, useS_lv.2, useS_lv.2]
theorem useS_elig {S : Nat → Blk} {Z : List Int} {j n : Nat} {pages y : Int} : y ∈ elig (useS S Z j) pages n ↔ y ∈ elig S pages n ∧ y ∉ Z.take j := by
  rw [elig_mem, elig_mem]
  constructor
  · rintro ⟨i, rfl, hi, hu, hl⟩
    rw [useS_lv.1] at hl
    unfold useS at hu
    by_cases h : (i : Int) ∈ Z.take j
    · rw [if_pos h] at hu; cases hu
    · rw [if_neg h] at hu
      exact ⟨⟨i, rfl, hi, hu, hl⟩, h⟩
  · rintro ⟨⟨i, rfl, hi, hu, hl⟩, h⟩
    refine ⟨i, rfl, hi, ?_, by rw [useS_lv.1]; exact hl⟩
    unfold useS
    rw [if_neg h]
    exact hu
section
variable {S : Nat → Blk} {Z : List Int} {n j : Nat} {pages : Int} (hp : Z.Perm (elig S pages n)) (hs : Srt (ckey S) Z)
include hp
theorem z_nodup : Z.Nodup := hp.nodup_iff.2 ((elig_pw S pages n).imp (fun h => by omega))
theorem use_none (hj : Z.length ≤ j) : elig (useS S Z j) pages n = [] := by
  apply List.eq_nil_iff_forall_not_mem.2
  intro y hy
  obtain ⟨h1, h2⟩ := useS_elig.1 hy
  rw [List.take_of_length_le hj] at h2
  exact h2 (hp.mem_iff.2 h1)
include hs
theorem use_first (hj : j < Z.length) : First (useS S Z j) pages n (Z.getD j 0) := by
  have hz : Z = Z.take j ++ Z.getD j 0 :: Z.drop (j + 1) := split_at Z j hj
  have hnd := z_nodup hp
  have hsr := hs
  unfold Srt at hsr
  rw [hz] at hnd hsr
  obtain ⟨-, n1, n2⟩ := List.nodup_append.1 hnd
  obtain ⟨-, s1, -⟩ := List.pairwise_append.1 hsr
  refine ⟨useS_elig.2 ⟨hp.mem_iff.1 (getD_mem Z j hj), fun h => n2 _ h _ (List.mem_cons_self ..) rfl⟩, fun y hy hne => ?_⟩
  obtain ⟨h1, h2⟩ := useS_elig.1 hy
  have h3 := hp.mem_iff.2 h1
  rw [hz] at h3
  rw [useS_ckey]
  rcases List.mem_append.1 h3 with h3 | h3
  · exact absurd h3 h2
  · rcases List.mem_cons.1 h3 with h3 | h3
    · exact absurd h3 hne
    · exact (List.pairwise_cons.1 s1).1 y h3
end
theorem take_succ_mem {Z : List Int} {j : Nat} (hj : j < Z.length) {y : Int} : y ∈ Z.take (j + 1) ↔ y ∈ Z.take j ∨ y = Z.getD j 0 := by
  rw [List.take_add_one, List.getElem?_eq_getElem hj, Option.toList_some, List.mem_append, List.getD_eq_getElem?_getD, List.getElem?_eq_getElem hj]
  simp
theorem flatB_off (S S' : Nat → Blk) (n k : Nat) (hk : k < n) (h1 : ∀ i, i ≠ k → S' i = S i) (h2 : S' k = { S k with u := false }) : (flatB S n).set (k * 3) (.bool false) = flatB S' n := by
  induction n with
  | zero => omega
  | succ n ih =>
    unfold flatB
    by_cases e : k = n
    · subst e
      rw [List.set_append_right _ _ (by rw [flatB_len]; omega), flatB_len, Nat.sub_self, h2]
      congr 1
      exact (List.ext_getElem? fun j => by
        by_cases hj : j < k * 3
        · obtain ⟨v, hv⟩ : ∃ v, (flatB S k)[j]? = some v := ⟨_, List.getElem?_eq_getElem (by rw [flatB_len]; exact hj)⟩
          obtain ⟨i, r, rfl, hi, hvv⟩ := flatB_get hv
          rw [hv, flatB_at S' k i r hi v (by rw [h1 i (by omega)]; exact hvv)]
        · rw [List.getElem?_eq_none (by rw [flatB_len]; omega), List.getElem?_eq_none (by rw [flatB_len]; omega)])
    · rw [List.set_append_left _ _ (by rw [flatB_len]; omega), ih (by omega), h1 n (fun e' => e e'.symm)]
theorem useS_step {S : Nat → Blk} {Z : List Int} {j k : Nat} (hj : j < Z.length) (hk : Z.getD j 0 = k) : (∀ i, i ≠ k → useS S Z (j + 1) i = useS S Z j i) ∧ useS S Z (j + 1) k = { useS S Z j k with u := false } := by
  constructor
  · intro i hi
    unfold useS
    by_cases h : (i : Int) ∈ Z.take j
    · rw [if_pos h, if_pos ((take_succ_mem hj).2 (.inl h))]
    · rw [if_neg h, if_neg (fun h' => ((take_succ_mem hj).1 h').elim h (fun e => by rw [hk] at e; omega))]
  · unfold useS
    rw [if_pos ((take_succ_mem hj).2 (.inr hk.symm))]
    split <;> rfl
/-- The row of the copied blocks. -/
def CpB (w : World) (base n c : Nat) (D : Option Addr) (S : Nat → Blk) : Prop := w.ownsRow base 41 3 (.slice D n c) n (flatB S n)
theorem CpB.rd {w : World} {base n c : Nat} {D : Option Addr} {S : Nat → Blk} (h : CpB w base n c D S) : RdB w D n S w.heap.size := by
  intro i hi
  rcases h.2 with ⟨hv, hn⟩ | ⟨g, cap, cur, hv, hb, hg, hnc, hm, hs, ht⟩
  · omega
  · injection hv with hA
    subst hA
    refine ⟨g, 0, rfl, (Array.getElem?_eq_some_iff.1 hg).1, ?_, ?_, ?_⟩
    all_goals
      have hc : ∀ j u, j < 3 → [Value.bool (S i).u, .int .i64 (S i).lv, .int .i64 (S i).wr][j]? = some u → cur[i * 3 + j]? = some u := by
        intro j u hj hu
        have h1 := flatB_at S n i j hi u hu
        rw [← ht, List.getElem?_take, if_pos (by omega)] at h1
        simpa using h1
    · rw [cell_of_row w g _ cur _ _ hg]; simpa using hc 0 _ (by omega) rfl
    · rw [cell_of_row w g _ cur _ _ hg]; simpa using hc 1 _ (by omega) rfl
    · rw [cell_of_row w g _ cur _ _ hg]; simpa using hc 2 _ (by omega) rfl
theorem CpB.step {w : World} {base n c k : Nat} {D : Option Addr} {S S' : Nat → Blk} (h : CpB w base n c D S) (hk : k < n) (h1 : ∀ i, i ≠ k → S' i = S i) (h2 : S' k = { S k with u := false }) :
    ∃ g, D = some ⟨g, 0, none⟩ ∧ base ≤ g ∧ g < w.heap.size ∧ w.frozen? ⟨g, k * 3, none⟩ = false ∧ w.cell? ⟨g, k * 3, none⟩ = some (.bool (S k).u) ∧ w.cell? ⟨g, k * 3 + 1, none⟩ = some (.int .i64 (S k).lv) ∧ CpB (w.setCell ⟨g, k * 3, none⟩ (.bool false)) base n c D S' := by
  obtain ⟨b, off, hD, -, hc0, hc1, -⟩ := h.rd k hk
  rcases h.2 with ⟨hv, hn⟩ | ⟨g, cap, cur, hv, hb, hg, hnc, hm, hs, ht⟩
  · omega
  · injection hv with hA hl hc'
    subst hA
    subst hc'
    injection hD with hD
    injection hD with hD1 hD2
    subst hD1 hD2
    have hbk : Bk w g 41 cur := hg
    refine ⟨g, rfl, hb, hbk.lt, hbk.free _, by simpa using hc0, by simpa using hc1, ?_, .inr ⟨g, c, _, rfl, hb, hbk.put (k * 3) (.bool false), hnc, hm, by simpa using hs, ?_⟩⟩
    · rw [flatB_len]
    · rw [Array.toList_setIfInBounds, List.take_set, ht]
      exact flatB_off S S' n k hk h1 h2
theorem CpB.below {w w' : World} {base n c : Nat} {D : Option Addr} {S : Nat → Blk} (h : CpB w base n c D S) (hb : Below w.heap.size w w') : CpB w' base n c D S := own_below h hb (Nat.le_refl _)
end Go.Proofs.YtndiionpijjdbaaDoor.SwW
