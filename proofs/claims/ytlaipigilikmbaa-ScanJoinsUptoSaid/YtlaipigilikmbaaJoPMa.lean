/- ScanJoins: the plain law; two rows of pages as one. -/
import Derived.Test.YtlaipigilikmbaaMa30
import Derived.Test.YtlaipigilikmbaaJoWMa
set_option linter.unusedVariables false
namespace Go.Proofs.Ytlaipigilikmbaa.JoW
open Go Go.Conc Go.RowKit Go.Proofs Go.Proofs.Ytlaipigilikmbaa Go.Proofs.Ytlaipigilikmbaa.Co Go.Proofs.Ytlaipigilikmbaa.Cl Go.Proofs.Ytlaipigilikmbaa.Ph Go.Proofs.Ytlaipigilikmbaa.LwW Go.Proofs.Ytlaipigilikmbaa.OpenW
def mv (L : Nat) (x : Fnd) : Fnd := { x with page := x.page + L }
/-- The pages of the one row behind those of the other. -/
def pgJ (pa pb : Nat → List UInt8) (L : Nat) (i : Nat) : List UInt8 := if i < L then pa i else pb (i - L)
abbrev Srt (l : List Fnd) : Prop := l.Pairwise fun a b => a.lba < b.lba
/-- Two answers as one. -/
def M : List Fnd → List Fnd → List Fnd
  | [], ys => ys
  | a :: xs, [] => a :: xs
  | a :: xs, b :: ys => if a.lba < b.lba then a :: M xs (b :: ys) else if b.lba < a.lba then b :: M (a :: xs) ys else (if a.seq ≤ b.seq then b else a) :: M xs ys
termination_by xs ys => xs.length + ys.length
theorem M_nil (xs : List Fnd) : M xs [] = xs := by cases xs <;> simp [M]
theorem M_mem : ∀ (xs ys : List Fnd), Srt xs → Srt ys → ∀ e, e ∈ M xs ys ↔ (e ∈ xs ∧ ∀ b ∈ ys, b.lba = e.lba → b.seq < e.seq) ∨ (e ∈ ys ∧ ∀ a ∈ xs, a.lba = e.lba → a.seq ≤ e.seq)
  | [], ys, _, _, e => by simp [M]
  | a :: xs, [], _, _, e => by simp [M]
  | a :: xs, b :: ys, hx, hy, e => by
    have hx' := List.pairwise_cons.1 hx
    have hy' := List.pairwise_cons.1 hy
    rw [M]
    by_cases h1 : a.lba < b.lba
    · rw [if_pos h1, List.mem_cons, M_mem xs (b :: ys) hx'.2 hy e]
      constructor
      · rintro (rfl | ⟨h, h2⟩ | ⟨h, h2⟩)
        · refine .inl ⟨List.mem_cons_self, fun c hc ec => ?_⟩
          rcases List.mem_cons.1 hc with rfl | hc
          · omega
          · have := hy'.1 c hc; omega
        · exact .inl ⟨List.mem_cons_of_mem _ h, h2⟩
        · refine .inr ⟨h, fun c hc ec => ?_⟩
          rcases List.mem_cons.1 hc with rfl | hc
          · rcases List.mem_cons.1 h with rfl | h
            · omega
            · have := hy'.1 e h; omega
          · exact h2 c hc ec
      · rintro (⟨h, h2⟩ | ⟨h, h2⟩)
        · rcases List.mem_cons.1 h with rfl | h
          · exact .inl rfl
          · exact .inr (.inl ⟨h, h2⟩)
        · exact .inr (.inr ⟨h, fun c hc => h2 c (List.mem_cons_of_mem _ hc)⟩)
    · rw [if_neg h1]
      by_cases h2 : b.lba < a.lba
      · rw [if_pos h2, List.mem_cons, M_mem (a :: xs) ys hx hy'.2 e]
        constructor
        · rintro (rfl | ⟨h, h3⟩ | ⟨h, h3⟩)
          · refine .inr ⟨List.mem_cons_self, fun c hc ec => ?_⟩
            rcases List.mem_cons.1 hc with rfl | hc
            · omega
            · have := hx'.1 c hc; omega
          · refine .inl ⟨h, fun c hc ec => ?_⟩
            rcases List.mem_cons.1 hc with rfl | hc
            · rcases List.mem_cons.1 h with rfl | h
              · omega
              · have := hx'.1 e h; omega
            · exact h3 c hc ec
          · exact .inr ⟨List.mem_cons_of_mem _ h, h3⟩
        · rintro (⟨h, h3⟩ | ⟨h, h3⟩)
          · exact .inr (.inl ⟨h, fun c hc => h3 c (List.mem_cons_of_mem _ hc)⟩)
          · rcases List.mem_cons.1 h with rfl | h
            · exact .inl rfl
            · exact .inr (.inr ⟨h, h3⟩)
      · have hab : a.lba = b.lba := by omega
        rw [if_neg h2, List.mem_cons, M_mem xs ys hx'.2 hy'.2 e]
        constructor
        · rintro (rfl | ⟨h, h3⟩ | ⟨h, h3⟩)
          · by_cases hs : a.seq ≤ b.seq
            · rw [if_pos hs]
              refine .inr ⟨List.mem_cons_self, fun c hc ec => ?_⟩
              rcases List.mem_cons.1 hc with rfl | hc
              · exact hs
              · have := hx'.1 c hc; omega
            · rw [if_neg hs]
              refine .inl ⟨List.mem_cons_self, fun c hc ec => ?_⟩
              rcases List.mem_cons.1 hc with rfl | hc
              · omega
              · have := hy'.1 c hc; omega
          · refine .inl ⟨List.mem_cons_of_mem _ h, fun c hc ec => ?_⟩
            rcases List.mem_cons.1 hc with rfl | hc
            · have := hx'.1 e h; omega
            · exact h3 c hc ec
          · refine .inr ⟨List.mem_cons_of_mem _ h, fun c hc ec => ?_⟩
            rcases List.mem_cons.1 hc with rfl | hc
            · have := hy'.1 e h; omega
            · exact h3 c hc ec
        · rintro (⟨h, h3⟩ | ⟨h, h3⟩)
          · rcases List.mem_cons.1 h with rfl | h
            · have := h3 b List.mem_cons_self hab.symm
              rw [if_neg (by omega)]
              exact .inl rfl
            · exact .inr (.inl ⟨h, fun c hc => h3 c (List.mem_cons_of_mem _ hc)⟩)
          · rcases List.mem_cons.1 h with rfl | h
            · have := h3 a List.mem_cons_self hab
              rw [if_pos this]
              exact .inl rfl
            · exact .inr (.inr ⟨h, fun c hc => h3 c (List.mem_cons_of_mem _ hc)⟩)
termination_by xs ys => xs.length + ys.length
theorem M_in {xs ys : List Fnd} (hx : Srt xs) (hy : Srt ys) {e : Fnd} (h : e ∈ M xs ys) : e ∈ xs ∨ e ∈ ys := ((M_mem xs ys hx hy e).1 h).imp And.left And.left
theorem M_srt : ∀ (xs ys : List Fnd), Srt xs → Srt ys → Srt (M xs ys)
  | [], ys, _, hy => by simpa [M] using hy
  | a :: xs, [], hx, _ => by rw [M_nil]; exact hx
  | a :: xs, b :: ys, hx, hy => by
    have hx' := List.pairwise_cons.1 hx
    have hy' := List.pairwise_cons.1 hy
    rw [M]
    by_cases h1 : a.lba < b.lba
    · rw [if_pos h1]
      refine List.pairwise_cons.2 ⟨fun e he => ?_, M_srt xs (b :: ys) hx'.2 hy⟩
      rcases M_in hx'.2 hy he with h | h
      · exact hx'.1 e h
      · rcases List.mem_cons.1 h with rfl | h
        · exact h1
        · have := hy'.1 e h; omega
    · rw [if_neg h1]
      by_cases h2 : b.lba < a.lba
      · rw [if_pos h2]
        refine List.pairwise_cons.2 ⟨fun e he => ?_, M_srt (a :: xs) ys hx hy'.2⟩
        rcases M_in hx hy'.2 he with h | h
        · rcases List.mem_cons.1 h with rfl | h
          · exact h2
          · have := hx'.1 e h; omega
        · exact hy'.1 e h
      · rw [if_neg h2]
        refine List.pairwise_cons.2 ⟨fun e he => ?_, M_srt xs ys hx'.2 hy'.2⟩
        have : (if a.seq ≤ b.seq then b else a).lba = a.lba := by split <;> omega
        rw [this]
        rcases M_in hx'.2 hy'.2 he with h | h
        · exact hx'.1 e h
        · have := hy'.1 e h; omega
termination_by xs ys => xs.length + ys.length
theorem srt_one : ∀ {l : List Fnd}, Srt l → ∀ {a b : Fnd}, a ∈ l → b ∈ l → a.lba = b.lba → a = b
  | c :: l, h, a, b, ha, hb, e => by
    have h' := List.pairwise_cons.1 h
    rcases List.mem_cons.1 ha with e1 | ha1
    · rcases List.mem_cons.1 hb with e2 | hb1
      · rw [e1, e2]
      · have := h'.1 b hb1; rw [e1] at e; omega
    · rcases List.mem_cons.1 hb with e2 | hb1
      · have := h'.1 a ha1; rw [e2] at e; omega
      · exact srt_one h'.2 ha1 hb1 e
theorem M_has {xs ys : List Fnd} (hx : Srt xs) (hy : Srt ys) {c : Fnd} (h : c ∈ xs ∨ c ∈ ys) : ∃ e ∈ M xs ys, e.lba = c.lba := by
  rcases h with h | h
  · by_cases hb : ∃ b ∈ ys, b.lba = c.lba
    · obtain ⟨b, hb, e⟩ := hb
      by_cases hs : c.seq ≤ b.seq
      · exact ⟨b, (M_mem xs ys hx hy b).2 (.inr ⟨hb, fun a ha ea => by rw [srt_one hx ha h (by omega)]; exact hs⟩), e⟩
      · exact ⟨c, (M_mem xs ys hx hy c).2 (.inl ⟨h, fun a ha ea => by rw [srt_one hy ha hb (by omega)]; omega⟩), rfl⟩
    · exact ⟨c, (M_mem xs ys hx hy c).2 (.inl ⟨h, fun a ha ea => absurd ⟨a, ha, ea⟩ hb⟩), rfl⟩
  · by_cases hb : ∃ b ∈ xs, b.lba = c.lba
    · obtain ⟨b, hb, e⟩ := hb
      by_cases hs : b.seq ≤ c.seq
      · exact ⟨c, (M_mem xs ys hx hy c).2 (.inr ⟨h, fun a ha ea => by rw [srt_one hx ha hb (by omega)]; exact hs⟩), rfl⟩
      · exact ⟨b, (M_mem xs ys hx hy b).2 (.inl ⟨hb, fun a ha ea => by rw [srt_one hy ha h (by omega)]; omega⟩), e⟩
    · exact ⟨c, (M_mem xs ys hx hy c).2 (.inr ⟨h, fun a ha ea => absurd ⟨a, ha, ea⟩ hb⟩), rfl⟩
theorem fnd_lo (pa pb : Nat → List UInt8) {L j : Nat} (h : j < L) : fndOf (pgJ pa pb L) j = fndOf pa j := by
  unfold fndOf pgJ
  rw [if_pos h]
theorem fnd_hi (pa pb : Nat → List UInt8) (L j : Nat) : fndOf (pgJ pa pb L) (L + j) = mv L (fndOf pb j) := by
  unfold fndOf pgJ mv
  rw [if_neg (by omega), Nat.add_sub_cancel_left]
  simp only [Fnd.mk.injEq]
  exact ⟨trivial, by omega, trivial, trivial⟩
theorem cnt_lo (pa pb : Nat → List UInt8) {L j : Nat} (h : j < L) : Counts (pgJ pa pb L) j ↔ Counts pa j := by
  unfold Counts pgJ
  rw [if_pos h]
theorem cnt_hi (pa pb : Nat → List UInt8) (L j : Nat) : Counts (pgJ pa pb L) (L + j) ↔ Counts pb j := by
  unfold Counts pgJ
  rw [if_neg (by omega), Nat.add_sub_cancel_left]
theorem join_law {pa pb : Nat → List UInt8} {La Lb : Nat} {x y l : List Fnd} (hx : NewI pa La x) (hy : NewI pb Lb y) (hl : NewI (pgJ pa pb La) (La + Lb) l) : l = M x (y.map (mv La)) := by
  have sy : Srt (y.map (mv La)) := List.pairwise_map.2 (hy.srt.imp fun hab => hab)
  have mm := M_mem x (y.map (mv La)) hx.srt sy
  refine hl.uniq ⟨M_srt _ _ hx.srt sy, fun e he => ?_, fun e he j hj hc hxl => ?_, fun j hj hc => ?_⟩
  · rcases (mm e).1 he with ⟨h, -⟩ | ⟨h, -⟩
    · obtain ⟨k, h1, h2, h3⟩ := hx.is_ e h
      exact ⟨k, by omega, (cnt_lo pa pb h1).2 h2, by rw [fnd_lo pa pb h1]; exact h3⟩
    · obtain ⟨e0, h0, rfl⟩ := List.mem_map.1 h
      obtain ⟨k, h1, h2, rfl⟩ := hy.is_ e0 h0
      exact ⟨La + k, by omega, (cnt_hi pa pb La k).2 h2, (fnd_hi pa pb La k).symm⟩
  · rcases Nat.lt_or_ge j La with hj2 | hj2
    · rw [fnd_lo pa pb hj2] at hxl ⊢
      have hc2 := (cnt_lo pa pb hj2).1 hc
      rcases (mm e).1 he with ⟨h, -⟩ | ⟨h, h2⟩
      · exact hx.max e h j hj2 hc2 hxl
      · obtain ⟨a, ha, ea⟩ := hx.has j hj2 hc2
        have h3 := h2 a ha (ea.trans hxl)
        have h4 := hx.max a ha j hj2 hc2 ea.symm
        obtain ⟨e0, h0, rfl⟩ := List.mem_map.1 h
        obtain ⟨k, -, -, rfl⟩ := hy.is_ e0 h0
        have p1 : (fndOf pa j).page = (j : Int) := rfl
        have p2 : (mv La (fndOf pb k)).page = (k : Int) + (La : Int) := rfl
        unfold Better at h4 ⊢
        omega
    · obtain ⟨q, rfl⟩ : ∃ q, j = La + q := ⟨j - La, by omega⟩
      have hq : q < Lb := by omega
      rw [fnd_hi] at hxl ⊢
      have hc2 := (cnt_hi pa pb La q).1 hc
      rcases (mm e).1 he with ⟨h, h2⟩ | ⟨h, -⟩
      · obtain ⟨b, hb, eb⟩ := hy.has q hq hc2
        have h3 := h2 (mv La b) (List.mem_map.2 ⟨b, hb, rfl⟩) (eb.trans hxl)
        have h4 := hy.max b hb q hq hc2 eb.symm
        have p1 : (mv La (fndOf pb q)).seq = (fndOf pb q).seq := rfl
        have p2 : (mv La b).seq = b.seq := rfl
        unfold Better at h4 ⊢
        omega
      · obtain ⟨e0, h0, rfl⟩ := List.mem_map.1 h
        have h4 := hy.max e0 h0 q hq hc2 hxl
        unfold Better mv at *
        dsimp only at *
        omega
  · rcases Nat.lt_or_ge j La with hj2 | hj2
    · rw [fnd_lo pa pb hj2]
      obtain ⟨a, ha, ea⟩ := hx.has j hj2 ((cnt_lo pa pb hj2).1 hc)
      obtain ⟨e, he, hh⟩ := M_has hx.srt sy (.inl ha)
      exact ⟨e, he, hh.trans ea⟩
    · obtain ⟨q, rfl⟩ : ∃ q, j = La + q := ⟨j - La, by omega⟩
      rw [fnd_hi]
      obtain ⟨b, hb, eb⟩ := hy.has q (by omega) ((cnt_hi pa pb La q).1 hc)
      obtain ⟨e, he, hh⟩ := M_has (c := mv La b) hx.srt sy (.inr (List.mem_map.2 ⟨b, hb, rfl⟩))
      exact ⟨e, he, hh.trans eb⟩
theorem drop_at {l : List Fnd} {i : Nat} (h : i < l.length) : l.drop i = l.getD i zFnd :: l.drop (i + 1) := by
  rw [List.drop_eq_getElem_cons h, List.getD_eq_getElem?_getD, List.getElem?_eq_getElem h]
  rfl
/-- How the loop goes over the two. -/
theorem steps_of {x y l : List Fnd} (e : l = M x y) : Steps x.length y.length l.length (fun i => (x.getD i zFnd).lba) (fun i => (x.getD i zFnd).page) (fun i => (x.getD i zFnd).seq) (fun i => (x.getD i zFnd).kind) (fun i => (y.getD i zFnd).lba) (fun i => (y.getD i zFnd).page) (fun i => (y.getD i zFnd).seq) (fun i => (y.getD i zFnd).kind) (fun i => (l.getD i zFnd).lba) (fun i => (l.getD i zFnd).page) (fun i => (l.getD i zFnd).seq) (fun i => (l.getD i zFnd).kind) fun n i k => i ≤ x.length ∧ k ≤ y.length ∧ l.drop n = M (x.drop i) (y.drop k) where
  start := ⟨Nat.zero_le _, Nat.zero_le _, by simpa using e⟩
  le := fun n i k h => ⟨h.1, h.2.1⟩
  done := fun i k h => by
    obtain ⟨h1, h2, h3⟩ := h
    rw [List.drop_length] at h3
    rcases Nat.lt_or_ge i x.length with hi | hi
    · rcases Nat.lt_or_ge k y.length with hk | hk
      · rw [drop_at hi, drop_at hk, M] at h3
        split at h3
        · cases h3
        · split at h3 <;> cases h3
      · rw [List.drop_eq_nil_of_le hk, M_nil, drop_at hi] at h3
        cases h3
    · rcases Nat.lt_or_ge k y.length with hk | hk
      · rw [List.drop_eq_nil_of_le hi, drop_at hk, M] at h3
        cases h3
      · omega
  step := fun n i k hn h => by
    obtain ⟨h1, h2, h3⟩ := h
    rw [drop_at hn] at h3
    rcases Nat.lt_or_ge i x.length with hi | hi
    · rcases Nat.lt_or_ge k y.length with hk | hk
      · rw [drop_at hi, drop_at hk, M, ← drop_at hi, ← drop_at hk] at h3
        by_cases c1 : (x.getD i zFnd).lba < (y.getD k zFnd).lba
        · rw [if_pos c1] at h3
          injection h3 with h4 h5
          rw [h4]
          exact .inl ⟨hi, rfl, fun _ => by omega, rfl, rfl, rfl, by omega, h2, h5⟩
        · rw [if_neg c1] at h3
          by_cases c2 : (y.getD k zFnd).lba < (x.getD i zFnd).lba
          · rw [if_pos c2] at h3
            injection h3 with h4 h5
            rw [h4]
            exact .inr (.inl ⟨fun _ => by omega, hk, rfl, rfl, rfl, rfl, h1, by omega, h5⟩)
          · rw [if_neg c2] at h3
            have hab : (x.getD i zFnd).lba = (y.getD k zFnd).lba := by omega
            injection h3 with h4 h5
            by_cases c3 : (x.getD i zFnd).seq ≤ (y.getD k zFnd).seq
            · rw [if_pos c3] at h4
              rw [h4]
              exact .inr (.inr (.inl ⟨hi, hab, hk, rfl, c3, rfl, rfl, rfl, by omega, by omega, h5⟩))
            · rw [if_neg c3] at h4
              rw [h4]
              exact .inr (.inr (.inr ⟨hi, rfl, hk, hab.symm, by omega, rfl, rfl, rfl, by omega, by omega, h5⟩))
      · rw [List.drop_eq_nil_of_le hk, M_nil, drop_at hi] at h3
        injection h3 with h4 h5
        rw [h4]
        exact .inl ⟨hi, rfl, fun _ => by omega, rfl, rfl, rfl, by omega, h2, by rw [List.drop_eq_nil_of_le hk, M_nil]; exact h5⟩
    · rcases Nat.lt_or_ge k y.length with hk | hk
      · rw [List.drop_eq_nil_of_le hi, drop_at hk, M] at h3
        injection h3 with h4 h5
        rw [h4]
        exact .inr (.inl ⟨fun _ => by omega, hk, rfl, rfl, rfl, rfl, h1, by omega, by rw [List.drop_eq_nil_of_le hi, M]; exact h5⟩)
      · rw [List.drop_eq_nil_of_le hi, List.drop_eq_nil_of_le hk, M] at h3
        cases h3
end Go.Proofs.Ytlaipigilikmbaa.JoW
