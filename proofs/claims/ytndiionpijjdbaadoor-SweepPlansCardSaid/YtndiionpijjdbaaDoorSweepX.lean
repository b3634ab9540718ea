/- Plain laws on blocks: who is first; what as much more wear of each changes; no fewer win more. -/
import Derived.Test.YtndiionpijjdbaaDoorSweepH
import Derived.Test.YtndiionpijjdbaaDoorSweepL
import Derived.Test.YtndiionpijjdbaaDoorSweepP
set_option linter.unusedVariables false
namespace Go.Proofs.YtndiionpijjdbaaDoor.SwW
open Go.RowKit I64 Stab

/-- z is emptied first. -/
def First (S : Nat → Blk) (pages : Int) (n : Nat) (z : Int) : Prop := z ∈ elig S pages n ∧ ∀ y ∈ elig S pages n, y ≠ z → LT (ckey S) z y
theorem first_one {S : Nat → Blk} {pages : Int} {n : Nat} {y z : Int} (hy : First S pages n y) (hz : First S pages n z) : y = z := by
  by_cases h : y = z
  · exact h
  · exact absurd (hy.2 z hz.1 (fun e => h e.symm)) (fun a => (LT.asymm (ckey_cmp S) a (hz.2 y hy.1 h)).elim)
theorem first_head {S : Nat → Blk} {pages : Int} {n : Nat} {z : Int} {Z : List Int} (hp : (z :: Z).Perm (elig S pages n)) (hs : Srt (ckey S) (z :: Z)) : First S pages n z := by
  refine ⟨hp.mem_iff.1 (List.mem_cons_self ..), fun y hy hne => ?_⟩
  rcases List.mem_cons.1 (hp.mem_iff.2 hy) with rfl | h
  · exact absurd rfl hne
  · exact (List.pairwise_cons.1 hs).1 y h
theorem first_not {S : Nat → Blk} {pages : Int} {n : Nat} {z : Int} (hp : ([] : List Int).Perm (elig S pages n)) : ¬ First S pages n z := fun h => by
  have := hp.mem_iff.2 h.1
  cases this

/-- Each is worn by more. -/
def More (S S2 : Nat → Blk) (n : Nat) (d : Int) : Prop := ∀ i, i < n → (S2 i).u = (S i).u ∧ (S2 i).lv = (S i).lv ∧ (S2 i).wr = (S i).wr + d
section
variable {S S2 : Nat → Blk} {n : Nat} {d : Int}
theorem elig_congr {pages : Int} (h : ∀ i, i < n → (S2 i).u = (S i).u ∧ (S2 i).lv = (S i).lv) : elig S2 pages n = elig S pages n := by
  unfold elig
  congr 1
  apply List.filter_congr
  intro i hi
  obtain ⟨h1, h2⟩ := h i (List.mem_range.1 hi)
  rw [h1, h2]
theorem More.elig (h : More S S2 n d) (pages : Int) : elig S2 pages n = elig S pages n := elig_congr fun i hi => ⟨(h i hi).1, (h i hi).2.1⟩
theorem cmpv_add (x y d : Int) : cmpv (x + d) (y + d) = cmpv x y := by
  unfold cmpv
  by_cases h1 : x < y
  · rw [if_pos h1, if_pos (by omega)]
  · rw [if_neg h1, if_neg (show ¬ x + d < y + d by omega)]
    by_cases h2 : y < x
    · rw [if_pos h2, if_pos (by omega)]
    · rw [if_neg h2, if_neg (by omega)]
theorem More.ckey (h : More S S2 n d) {i j : Nat} (hi : i < n) (hj : j < n) : ckey S2 i j = ckey S i j := by
  obtain ⟨-, a1, a2⟩ := h i hi
  obtain ⟨-, b1, b2⟩ := h j hj
  unfold SwW.ckey
  simp only [Int.toNat_natCast]
  rw [a1, a2, b1, b2, cmpv_add]
theorem More.first (h : More S S2 n d) {pages z : Int} (hz : First S pages n z) : First S2 pages n z := by
  refine ⟨by rw [h.elig]; exact hz.1, fun y hy hne => ?_⟩
  rw [h.elig] at hy
  obtain ⟨i, rfl, hi, -⟩ := elig_mem.1 hz.1
  obtain ⟨j, rfl, hj, -⟩ := elig_mem.1 hy
  have := hz.2 _ hy hne
  unfold Stab.LT at this ⊢
  rwa [h.ckey hi hj]
theorem More.least (h : More S S2 n d) (k : Nat) (hk : k ≤ n) : leastF S2 k = leastF S k := by
  induction k with
  | zero => unfold leastF; rfl
  | succ k ih =>
    have hi := ih (by omega)
    obtain ⟨a1, a2, a3⟩ := h k (by omega)
    unfold leastF
    rw [hi, a1, a3]
    have hb := leastF_bound S k
    by_cases hu : (S k).u = true
    · by_cases hl : leastF S k < 0
      · rw [if_pos ⟨hu, .inl hl⟩, if_pos ⟨hu, .inl hl⟩]
      · have a4 := (h (leastF S k).toNat (by omega)).2.2
        rw [a4]
        by_cases hw : (S k).wr < (S (leastF S k).toNat).wr
        · rw [if_pos ⟨hu, .inr (by omega)⟩, if_pos ⟨hu, .inr hw⟩]
        · rw [if_neg (fun e => e.2.elim hl (by omega)), if_neg (fun e => e.2.elim hl hw)]
    · rw [if_neg (fun e => hu e.1), if_neg (fun e => hu e.1)]
theorem More.most (h : More S S2 n d) (hd : 0 ≤ d) (hw : ∀ i, i < n → 0 ≤ (S i).wr) (k : Nat) (hk : k ≤ n) (hk0 : 0 < k) : mostF S2 k = mostF S k + d := by
  induction k with
  | zero => omega
  | succ k ih =>
    obtain ⟨a1, a2, a3⟩ := h k (by omega)
    have hwk := hw k (by omega)
    rcases Nat.eq_zero_or_pos k with h0 | h0
    · subst h0
      unfold mostF
      unfold mostF
      rw [a3]
      by_cases h1 : 0 < (S 0).wr
      · rw [if_pos h1, if_pos (by omega)]
      · rw [if_neg h1]
        split <;> omega
    · have hi := ih (by omega) h0
      unfold mostF
      rw [hi, a3]
      by_cases h1 : mostF S k < (S k).wr
      · rw [if_pos h1, if_pos (by omega)]
      · rw [if_neg h1, if_neg (by omega)]
theorem More.lev (h : More S S2 n d) (hd : 0 ≤ d) (hw : ∀ i, i < n → 0 ≤ (S i).wr) (gap : Int) : levR S2 n gap = levR S n gap := by
  unfold levR
  rw [h.least n (Nat.le_refl _)]
  have hb := leastF_bound S n
  by_cases hl : leastF S n < 0
  · rw [if_pos (.inl hl), if_pos (.inl hl)]
  · have hn : 0 < n := by omega
    rw [h.most hd hw n (Nat.le_refl _) hn, (h (leastF S n).toNat (by omega)).2.2]
    by_cases hg : mostF S n - (S (leastF S n).toNat).wr ≤ gap
    · rw [if_pos (.inr (by omega)), if_pos (.inr hg)]
    · rw [if_neg (fun e => e.elim hl (by omega)), if_neg (fun e => e.elim hl hg)]
theorem flt_ok {pages : Int} {more : Bool} (h1 : n ≤ 64) (h2 : 1 ≤ pages) (h3 : pages ≤ 4096) (h4 : more = false) (h5 : ∀ i, i < n → okB pages (S i)) : flt S n pages more = 0 := by
  unfold flt
  rw [if_neg (by omega), if_neg (by rw [h4]; rintro (h | h | h); omega; omega; cases h), if_pos h5]
theorem flt_4096 {pages : Int} (h : flt S n pages false = 0) : flt S n 4096 (decide ((3 : Int) < 0)) = 0 := by
  obtain ⟨h1, h2, h3, -, h5⟩ := flt_zero h
  exact flt_ok h1 (by omega) (by omega) (by decide) fun i hi => by have := h5 i hi; unfold okB at this ⊢; omega
/-- What is wrong does not hang on more wear, as long as nobody is worn too much. -/
theorem More.flt (h : More S S2 n d) (hd : 0 ≤ d) (hw : ∀ i, i < n → 0 ≤ (S i).wr ∧ (S i).wr ≤ 1000000000 - d) (pages : Int) (more : Bool) : flt S2 n pages more = flt S n pages more := by
  unfold SwW.flt
  have : (∀ i, i < n → okB pages (S2 i)) ↔ (∀ i, i < n → okB pages (S i)) := by
    constructor <;> intro k i hi <;> have k1 := k i hi <;> have h1 := h i hi <;> have h2 := hw i hi <;> unfold okB at k1 ⊢ <;> omega
  simp only [this]
end

/-- The two blocks that are asked first. -/
def fact2 : Nat → Blk := fun i => if i = 0 then ⟨true, 2, 0⟩ else ⟨true, 1, 0⟩
theorem fact2_flt : flt fact2 2 4 false = 0 := by
  refine flt_ok (by omega) (by omega) (by omega) rfl fun i hi => ?_
  have : i = 0 ∨ i = 1 := by omega
  rcases this with rfl | rfl <;> (unfold okB fact2; simp)
theorem fact2_elig : elig fact2 4 2 = [0, 1] := by decide
theorem fact2_first : First fact2 4 2 1 := by
  refine ⟨by rw [fact2_elig]; simp, fun y hy hne => ?_⟩
  rw [fact2_elig] at hy
  simp at hy
  rcases hy with rfl | rfl
  · left; decide
  · exact absurd rfl hne

/-- What a list of blocks wins. -/
def sumF (S : Nat → Blk) (pages : Int) : List Int → Int
  | [] => 0
  | x :: l => (pages - (S x.toNat).lv) + sumF S pages l
theorem sumF_snoc (S : Nat → Blk) (pages : Int) (l : List Int) (x : Int) : sumF S pages (l ++ [x]) = sumF S pages l + (pages - (S x.toNat).lv) := by
  induction l with
  | nil => simp [sumF]
  | cons y l ih => simp only [List.cons_append, sumF, ih]; omega
theorem sumF_take (S : Nat → Blk) (pages : Int) (Z : List Int) (k : Nat) (hk : k ≤ Z.length) : sumF S pages (Z.take k) = wonF S pages Z k := by
  induction k with
  | zero => simp [sumF]; unfold wonF; rfl
  | succ k ih =>
    rw [List.take_add_one, List.getElem?_eq_getElem (by omega), Option.toList_some, sumF_snoc, ih (by omega)]
    conv => rhs; unfold wonF
    rw [List.getD_eq_getElem?_getD, List.getElem?_eq_getElem (by omega)]
    rfl
theorem sumF_perm {S : Nat → Blk} {pages : Int} {l m : List Int} (h : l.Perm m) : sumF S pages l = sumF S pages m := by
  induction h with
  | nil => rfl
  | cons x _ ih => simp only [sumF, ih]
  | swap x y l => simp only [sumF]; omega
  | trans _ _ h1 h2 => exact h1.trans h2
/-- No set of as many wins more than the first of the sorted ones. -/
theorem best {S : Nat → Blk} {pages : Int} (Z : List Int) : ∀ (T : List Int), T.Nodup → Z.Pairwise (fun a b => (S a.toNat).lv ≤ (S b.toNat).lv) → (∀ z ∈ Z, (S z.toNat).lv ≤ pages) → (∀ t ∈ T, t ∈ Z ∨ (S t.toNat).lv = pages) → T.length ≤ Z.length ∨ True →
    sumF S pages T ≤ sumF S pages (Z.take T.length) := by
  induction Z with
  | nil =>
    intro T _ _ _ h _
    have : ∀ T : List Int, (∀ t ∈ T, (S t.toNat).lv = pages) → sumF S pages T = 0 := by
      intro T
      induction T with
      | nil => intro _; rfl
      | cons t T ih =>
        intro h
        simp only [sumF]
        rw [ih (fun t' ht' => h t' (List.mem_cons_of_mem _ ht')), h t (List.mem_cons_self ..)]
        omega
    have := this T (fun t ht => (h t ht).elim (fun h => by cases h) id)
    rw [this]
    simp [sumF]
  | cons z Z ih =>
    intro T hT hZ hz h _
    obtain ⟨hZ1, hZ2⟩ := List.pairwise_cons.1 hZ
    by_cases hm : z ∈ T
    · have hp := List.perm_cons_erase hm
      rw [sumF_perm hp]
      have hl : T.length = (T.erase z).length + 1 := by rw [hp.length_eq]; rfl
      rw [hl, List.take_succ_cons]
      simp only [sumF]
      have hnd := (hp.nodup_iff.1 hT)
      obtain ⟨hn1, hn2⟩ := List.nodup_cons.1 hnd
      have := ih (T.erase z) hn2 hZ2 (fun x hx => hz x (List.mem_cons_of_mem _ hx)) (fun t ht => by
        rcases h t (List.mem_of_mem_erase ht) with h1 | h1
        · rcases List.mem_cons.1 h1 with rfl | h1
          · exact absurd ht hn1
          · exact .inl h1
        · exact .inr h1) (.inr trivial)
      omega
    · cases T with
      | nil => simp [sumF]
      | cons t T =>
        rw [List.length_cons, List.take_succ_cons]
        simp only [sumF]
        obtain ⟨hn1, hn2⟩ := List.nodup_cons.1 hT
        have h1 : (S z.toNat).lv ≤ (S t.toNat).lv := by
          rcases h t (List.mem_cons_self ..) with h1 | h1
          · rcases List.mem_cons.1 h1 with rfl | h1
            · exact absurd (List.mem_cons_self ..) hm
            · exact hZ1 t h1
          · rw [h1]; exact hz z (List.mem_cons_self ..)
        have := ih T hn2 hZ2 (fun x hx => hz x (List.mem_cons_of_mem _ hx)) (fun t' ht' => by
          rcases h t' (List.mem_cons_of_mem _ ht') with h1 | h1
          · rcases List.mem_cons.1 h1 with rfl | h1
            · exact absurd (List.mem_cons_of_mem _ ht') hm
            · exact .inl h1
          · exact .inr h1) (.inr trivial)
        omega
theorem srt_lv {S : Nat → Blk} {Z : List Int} (h : Srt (ckey S) Z) : Z.Pairwise (fun a b => (S a.toNat).lv ≤ (S b.toNat).lv) := by
  unfold Srt at h
  refine h.imp ?_
  intro a b hab
  unfold Stab.LT ckey cmpv at hab
  by_cases h1 : (S a.toNat).lv < (S b.toNat).lv
  · omega
  · by_cases h2 : (S b.toNat).lv < (S a.toNat).lv
    · simp [h1, h2] at hab
    · omega
/-- No plan with fewer blocks would be enough. -/
theorem fewer {S : Nat → Blk} {pages need : Int} {n k : Nat} {Z T : List Int} (hp : Z.Perm (elig S pages n)) (hs : Srt (ckey S) Z) (hok : ∀ i, i < n → (S i).lv ≤ pages) (hk : k ≤ Z.length) (hw : ∀ j, j < k → wonF S pages Z j < need)
    (hT : T.Nodup) (hTn : ∀ t ∈ T, ∃ i : Nat, t = i ∧ i < n ∧ (S i).u = true) (hl : T.length < k) : sumF S pages T < need := by
  have h1 := best (S := S) (pages := pages) Z T hT (srt_lv hs) (fun z hz => by
    obtain ⟨i, rfl, hi, -⟩ := elig_mem.1 (hp.mem_iff.1 hz)
    exact hok i hi) (fun t ht => by
    obtain ⟨i, rfl, hi, hu⟩ := hTn t ht
    by_cases hlt : (S i).lv < pages
    · exact .inl (hp.mem_iff.2 (elig_mem.2 ⟨i, rfl, hi, hu, hlt⟩))
    · right
      have := hok i hi
      rw [Int.toNat_natCast]
      omega) (.inr trivial)
  rw [sumF_take _ _ _ _ (by omega)] at h1
  have := hw _ hl
  omega
end Go.Proofs.YtndiionpijjdbaaDoor.SwW
