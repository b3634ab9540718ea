/- TopDecay: the plain law. A packed page with one bit turned is no packed page; what turns in each word is mended. -/
import Derived.Test.YtlaipigilikmbaaMa14
import Derived.Test.YtlaipigilikmbaaHamListsMa
import Derived.Test.YtlaipigilikmbaaMa30
set_option linter.unusedVariables false
namespace Go.Proofs.Ytlaipigilikmbaa.TopW
open Go.RowKit PutW CrcW Fram Crc PackW FrameW GetW ApartW OpenW ProtectW MendW Ham
theorem flip_crc' (D : List UInt8) (q : Nat) (h : q < 8 * D.length) : crc (flipBit D q) ≠ crc D := by
  have hi : q / 8 < D.length := by omega
  unfold flipBit
  refine crc_set_ne D (q / 8) hi _ ?_
  have e : D.getD (q / 8) 0 = D[q / 8] := by simp [List.getD, hi]
  rw [e]
  intro h2
  have h3 := congrArg (fun x => D[q / 8] ^^^ x) h2
  simp only [← UInt8.xor_assoc, UInt8.xor_self, UInt8.zero_xor] at h3
  have h4 : ∀ j : Fin 8, UInt8.ofNat (2 ^ j.val) ≠ 0 := by decide
  exact h4 ⟨q % 8, by omega⟩ h3

/-- A page with its check sum blanked. -/
def blank16 (l : List UInt8) : List UInt8 := l.take 16 ++ ([0, 0, 0, 0] ++ l.drop 20)

theorem page_parts (k lba seq : Nat) (sum d : List UInt8) (n : Nat) (hs : sum.length = 4) : ((page k lba seq sum d n).drop 16).take 4 = sum ∧ blank16 (page k lba seq sum d n) = page k lba seq [0, 0, 0, 0] d n := by
  have e : ∀ s, page k lba seq s d n = ([165, UInt8.ofNat k] ++ (lowB lba 4 ++ (lowB seq 8 ++ lowB d.length 2))) ++ (s ++ (d ++ (List.replicate (n - 21 - d.length) 0 ++ [90]))) := by
    intro s
    unfold page
    simp only [List.append_assoc]
  have hl : ([165, UInt8.ofNat k] ++ (lowB lba 4 ++ (lowB seq 8 ++ lowB d.length 2))).length = 16 := by simp [lowB_length]
  refine ⟨by rw [e, part_at hl.symm hs.symm], ?_⟩
  unfold blank16
  rw [e sum, e [0, 0, 0, 0], List.take_left' hl]
  congr 2
  rw [← List.append_assoc, List.drop_left' (by rw [List.length_append, hl, hs])]

theorem pack_parts (n k lba seq : Nat) (d : List UInt8) : ((pack n k lba seq d).drop 16).take 4 = lowB (crc (blank16 (pack n k lba seq d))).toNat 4 := by
  have h := page_parts k lba seq (lowB (crc (page k lba seq [0, 0, 0, 0] d n)).toNat 4) d n (lowB_length _ _)
  unfold pack
  rw [h.1, h.2]

theorem set_inside {l : List UInt8} {i : Nat} {x : UInt8} (h1 : 16 ≤ i) (h2 : i < 20) : blank16 (l.set i x) = blank16 l := by
  unfold blank16
  rw [List.take_set_of_le h1, List.drop_set_of_lt h2]

theorem set_outside {l : List UInt8} {i : Nat} {x : UInt8} (hl : 20 ≤ l.length) (h : i < 16 ∨ 20 ≤ i) : ((l.set i x).drop 16).take 4 = (l.drop 16).take 4 ∧ blank16 (l.set i x) = (blank16 l).set i x := by
  unfold blank16
  have ht : (l.take 16).length = 16 := by simp; omega
  rcases h with h | h
  · rw [List.drop_set_of_lt (by omega), List.drop_set_of_lt (by omega)]
    refine ⟨rfl, ?_⟩
    rw [List.take_set, List.set_append_left _ _ (by omega)]
  · refine ⟨?_, ?_⟩
    · rw [List.drop_set, if_neg (by omega), List.take_set_of_le (by omega)]
    · rw [List.take_set_of_le (by omega), List.drop_set, if_neg (by omega), List.set_append_right _ _ (by omega), List.set_append_right _ _ (by simp; omega)]
      congr 3
      simp only [ht, List.length_cons, List.length_nil]
      omega

theorem flip_ne {l : List UInt8} {q : Nat} (h : q < 8 * l.length) : flipBit l q ≠ l := by
  intro e
  have := congrArg (fun m => crc m) e
  exact flip_crc' l q h this

theorem flip_other {n k lba seq k' lba' seq' : Nat} {d d' : List UInt8} (hd : d.length + 21 ≤ n) {q : Nat} (hq : q < 8 * n) : flipBit (pack n k lba seq d) q ≠ pack n k' lba' seq' d' := by
  intro h
  have hl := pack_length n k lba seq d hd
  have p1 := pack_parts n k lba seq d
  have p2 := pack_parts n k' lba' seq' d'
  rw [← h] at p2
  generalize pack n k lba seq d = l at *
  have hq' : q < 8 * l.length := by rw [hl]; exact hq
  by_cases hi : q / 8 < 16 ∨ 20 ≤ q / 8
  · obtain ⟨s1, s2⟩ := set_outside (l := l) (x := l.getD (q / 8) 0 ^^^ UInt8.ofNat (2 ^ (q % 8))) (by omega) hi
    have hb : blank16 (flipBit l q) = flipBit (blank16 l) q := by
      have hg : (blank16 l).getD (q / 8) 0 = l.getD (q / 8) 0 := by
        unfold blank16
        have ht : (l.take 16).length = 16 := by simp; omega
        simp only [List.getD_eq_getElem?_getD]
        rcases hi with hi | hi
        · rw [List.getElem?_append_left (by omega), List.getElem?_take, if_pos hi]
        · rw [List.getElem?_append_right (by omega), List.getElem?_append_right (by simp; omega), List.getElem?_drop]
          congr 2
          simp only [ht, List.length_cons, List.length_nil]
          omega
      unfold flipBit
      rw [s2, hg]
    have hs : ((flipBit l q).drop 16).take 4 = (l.drop 16).take 4 := s1
    rw [hs, p1, hb] at p2
    have hc := lowB_inj (n := 4) (by have := (crc (blank16 l)).isLt; omega) (by have := (crc (flipBit (blank16 l) q)).isLt; omega) p2
    have hbl : (blank16 l).length = l.length := by
      unfold blank16
      simp
      omega
    exact flip_crc' (blank16 l) q (by rw [hbl]; exact hq') (BitVec.eq_of_toNat_eq hc.symm)
  · have h1 : 16 ≤ q / 8 := Nat.le_of_not_lt fun x => hi (.inl x)
    have h2 : q / 8 < 20 := Nat.lt_of_not_le fun x => hi (.inr x)
    have hb : blank16 (flipBit l q) = blank16 l := set_inside h1 h2
    rw [hb, ← p1] at p2
    have hsplit : ∀ m : List UInt8, m = m.take 16 ++ ((m.drop 16).take 4 ++ m.drop 20) := by
      intro m
      rw [show m.drop 20 = (m.drop 16).drop 4 by rw [List.drop_drop], List.take_append_drop, List.take_append_drop]
    apply flip_ne hq'
    rw [hsplit (flipBit l q), p2]
    conv => rhs; rw [hsplit l]
    unfold flipBit
    rw [List.take_set_of_le h1, List.drop_set_of_lt h2]

/-- One bit turned: no frame any more. -/
theorem flip_bad {n : Nat} {k lba seq : Nat} {d : List UInt8} (hd : d.length + 21 ≤ n) {q : Nat} (hq : q < 8 * n) : ¬ OpenW.Good (flipBit (pack n k lba seq d) q) n :=
  fun h => flip_other hd hq h.2.2.symm
/-- What turns: the n-th word, or its check, at the place that the n-th number picks. -/
def dec (l c : List UInt8) (xs : List Int) : Nat → List UInt8 × List UInt8 × Nat
  | 0 => (l, c, 0)
  | n + 1 => let s := dec l c xs n
    let k := pickN (xs.getD n 0) 80
    if k < 64 then (flipBit s.1 (64 * n + k), s.2.1, s.2.2 + 1) else if k < 72 then (s.1, flipBit s.2.1 (8 * n + (k - 64)), s.2.2 + 1) else s
theorem dec_zero (l c : List UInt8) (xs : List Int) : dec l c xs 0 = (l, c, 0) := rfl
theorem dec_word (l c : List UInt8) (xs : List Int) (n : Nat) (h : pickN (xs.getD n 0) 80 < 64) : dec l c xs (n + 1) = (flipBit (dec l c xs n).1 (64 * n + pickN (xs.getD n 0) 80), (dec l c xs n).2.1, (dec l c xs n).2.2 + 1) := by
  rw [dec, if_pos h]
theorem dec_check (l c : List UInt8) (xs : List Int) (n : Nat) (h : ¬ pickN (xs.getD n 0) 80 < 64) (h2 : pickN (xs.getD n 0) 80 < 72) : dec l c xs (n + 1) = ((dec l c xs n).1, flipBit (dec l c xs n).2.1 (8 * n + (pickN (xs.getD n 0) 80 - 64)), (dec l c xs n).2.2 + 1) := by
  rw [dec, if_neg h, if_pos h2]
theorem dec_not (l c : List UInt8) (xs : List Int) (n : Nat) (h2 : ¬ pickN (xs.getD n 0) 80 < 72) : dec l c xs (n + 1) = dec l c xs n := by
  rw [dec, if_neg (by omega), if_neg h2]
theorem dec_small (l c : List UInt8) (xs : List Int) (n : Nat) : (dec l c xs n).2.2 ≤ n := by
  induction n with
  | zero => exact Nat.le_refl _
  | succ n ih =>
    rw [dec]
    split
    · exact Nat.succ_le_succ ih
    · split
      · exact Nat.succ_le_succ ih
      · exact Nat.le_succ_of_le ih
/-- A number that came in, as it lies. -/
theorem int_rd {w : World} {A : Option Addr} {l : List Int} (h : Rd w A (LwW.i64v l)) {i : Nat} (hi : i < l.length) : ∃ b off, A = some ⟨b, off, none⟩ ∧ w.cell? ⟨b, off + i, none⟩ = some (.int .i64 (l.getD i 0)) := by
  obtain ⟨b, off, hA, hc⟩ := h.at_ (i := i) (by rw [LwW.i64v_length]; exact hi)
  refine ⟨b, off, hA, ?_⟩
  rw [hc]
  simp [LwW.i64v, List.getD, hi]
theorem dec_len (l c : List UInt8) (xs : List Int) (n : Nat) : (dec l c xs n).1.length = l.length ∧ (dec l c xs n).2.1.length = c.length := by
  induction n with
  | zero => exact ⟨rfl, rfl⟩
  | succ n ih =>
    rw [dec]
    split
    · exact ⟨(flipBit_length _ _).trans ih.1, ih.2⟩
    · split
      · exact ⟨ih.1, (flipBit_length _ _).trans ih.2⟩
      · exact ih
theorem total_end (E : Nat → Nat) (n d : Nat) (h : ∀ i, n ≤ i → E i = 0) : total E (n + d) = total E n := by
  induction d with
  | zero => rfl
  | succ d ih => rw [show n + (d + 1) = (n + d) + 1 by omega, total, ih, h _ (by omega)]; omega
theorem total_same (E F : Nat → Nat) (n : Nat) (h : ∀ i, i < n → E i = F i) : total E n = total F n := by
  induction n with
  | zero => rfl
  | succ n ih => rw [total, total, ih fun i hi => h i (by omega), h n (by omega)]
def one72 (xs : List Int) (i : Nat) : Nat := if pickN (xs.getD i 0) 80 < 72 then 1 else 0
theorem dec_many (l c : List UInt8) (xs : List Int) (n : Nat) : (dec l c xs n).2.2 = total (one72 xs) n := by
  induction n with
  | zero => rfl
  | succ n ih =>
    rw [dec, total, ← ih]
    unfold one72
    by_cases h1 : pickN (xs.getD n 0) 80 < 64
    · rw [if_pos h1, if_pos (by omega)]
    · rw [if_neg h1]
      by_cases h2 : pickN (xs.getD n 0) 80 < 72
      · rw [if_pos h2, if_pos h2]
      · rw [if_neg h2, if_neg h2]; rfl
theorem dec_off (l : List UInt8) (xs : List Int) (K : Nat) (hl : l.length = 8 * K) (n : Nat) (hn : n ≤ K) : ∀ i, i < K →
    (i < n → OneOff l (dec l (prot l K) xs n).1 (dec l (prot l K) xs n).2.1 (one72 xs) i) ∧
    (n ≤ i → chunk (dec l (prot l K) xs n).1 i = chunk l i ∧ ((dec l (prot l K) xs n).2.1.getD i 0).toNat = chk (wordAt l i)) := by
  induction n with
  | zero => exact fun i hi => ⟨fun h => by omega, fun _ => ⟨rfl, prot_get l K i hi⟩⟩
  | succ n ih =>
    have ih := ih (by omega)
    obtain ⟨e1, e2⟩ := dec_len l (prot l K) xs n
    rw [prot_length] at e2
    rw [dec]
    generalize hs : dec l (prot l K) xs n = s at ih e1 e2
    obtain ⟨a, b, t⟩ := s
    dsimp only at ih e1 e2 ⊢
    have hk := pickN_lt (xs.getD n 0) 80 (by omega)
    obtain ⟨k, hkk⟩ : ∃ k, k = pickN (xs.getD n 0) 80 := ⟨_, rfl⟩
    have ho : one72 xs n = if k < 72 then 1 else 0 := by rw [hkk]; rfl
    rw [← hkk] at hk ⊢
    intro i hi
    obtain ⟨p1, p2⟩ := ih i hi
    by_cases h1 : k < 64
    · rw [if_pos h1]
      have hc := chunk_flip a (64 * n + k) i (by omega)
      rw [show (64 * n + k) / 64 = n by omega, show (64 * n + k) % 64 = k by omega] at hc
      refine ⟨fun h => ?_, fun h => ?_⟩
      · by_cases hin : i = n
        · subst hin
          obtain ⟨q1, q2⟩ := p2 (Nat.le_refl _)
          rw [if_pos rfl, q1] at hc
          exact .inr (.inr ⟨by rw [ho, if_pos (by omega)], k, h1, hc, q2⟩)
        · rw [if_neg fun e => hin e.symm] at hc
          have := p1 (by omega)
          unfold OneOff at this ⊢
          rw [hc]
          exact this
      · obtain ⟨q1, q2⟩ := p2 (by omega)
        rw [if_neg (by omega)] at hc
        exact ⟨hc.trans q1, q2⟩
    · rw [if_neg h1]
      by_cases h2 : k < 72
      · rw [if_pos h2]
        have hc := flip_get b (8 * n + (k - 64)) i (by omega)
        rw [show (8 * n + (k - 64)) / 8 = n by omega, show (8 * n + (k - 64)) % 8 = k - 64 by omega] at hc
        refine ⟨fun h => ?_, fun h => ?_⟩
        · by_cases hin : i = n
          · subst hin
            obtain ⟨q1, q2⟩ := p2 (Nat.le_refl _)
            rw [if_pos rfl, q2] at hc
            exact .inr (.inl ⟨by rw [ho, if_pos h2], q1, k - 64, by omega, hc⟩)
          · rw [if_neg fun e => hin e.symm] at hc
            have := p1 (by omega)
            unfold OneOff at this ⊢
            rw [hc]
            exact this
        · obtain ⟨q1, q2⟩ := p2 (by omega)
          rw [if_neg (by omega)] at hc
          exact ⟨q1, hc.trans q2⟩
      · rw [if_neg h2]
        refine ⟨fun h => ?_, fun h => p2 (by omega)⟩
        by_cases hin : i = n
        · subst hin
          obtain ⟨q1, q2⟩ := p2 (Nat.le_refl _)
          exact .inl ⟨by rw [ho, if_neg h2], q1, q2⟩
        · exact p1 (by omega)
/-- It is mended. -/
theorem dec_mends (l : List UInt8) (xs : List Int) (K n : Nat) (hl : l.length = 8 * K) (hn : n ≤ K) : mendTo (dec l (prot l K) xs n).1 (dec l (prot l K) xs n).2.1 K = some (l, (dec l (prot l K) xs n).2.2) := by
  obtain ⟨e1, e2⟩ := dec_len l (prot l K) xs n
  obtain ⟨d, rfl⟩ : ∃ d, K = n + d := ⟨K - n, by omega⟩
  have h := mend_all l _ (dec l (prot l (n + d)) xs n).2.1 (n + d) hl (e1.trans hl) (fun i => if i < n then one72 xs i else 0) fun i hi => by
    obtain ⟨p1, p2⟩ := dec_off l xs (n + d) hl n hn i hi
    by_cases h : i < n
    · have := p1 h
      unfold OneOff at this ⊢
      dsimp only
      rw [if_pos h]
      exact this
    · obtain ⟨q1, q2⟩ := p2 (by omega)
      exact .inl ⟨if_neg h, q1, q2⟩
  rw [h, dec_many, total_end _ n d fun i hi => if_neg (by omega), total_same _ (one72 xs) n fun i hi => if_pos hi]
/-- How many bytes differ. -/
def cnt (a l : List UInt8) : Nat → Nat
  | 0 => 0
  | i + 1 => cnt a l i + if a.getD i 0 ≠ l.getD i 0 then 1 else 0
theorem cnt_start (a l : List UInt8) : cnt a l 0 = 0 := rfl
theorem cnt_next (a l : List UInt8) (i : Nat) : cnt a l (i + 1) = cnt a l i + if a.getD i 0 ≠ l.getD i 0 then 1 else 0 := rfl
theorem cnt_small (a l : List UInt8) (i : Nat) : cnt a l i ≤ i := by
  induction i with
  | zero => exact Nat.le_refl _
  | succ i ih => rw [cnt]; split <;> omega
theorem byte_rd {w : World} {A : Option Addr} {l : List UInt8} (h : Rd w A (u8v l)) {i : Nat} (hi : i < l.length) : ∃ b off, A = some ⟨b, off, none⟩ ∧ w.cell? ⟨b, off + i, none⟩ = some (.int .u8 ((l.getD i 0).toNat : Int)) := by
  obtain ⟨b, off, hA, hc⟩ := h.at_ (i := i) (by rw [u8v_length]; exact hi)
  refine ⟨b, off, hA, ?_⟩
  rw [hc]
  simp [u8v, List.getD, hi]
theorem cnt_zero (a l : List UInt8) : ∀ n, cnt a l n = 0 → ∀ i, i < n → a.getD i 0 = l.getD i 0
  | n + 1, h, i, hi => by
    rw [cnt] at h
    by_cases e : a.getD n 0 ≠ l.getD n 0
    · rw [if_pos e] at h; omega
    · rw [if_neg e] at h
      by_cases hin : i = n
      · subst hin
        exact Classical.not_not.1 e
      · exact cnt_zero a l n (by omega) i (by omega)
theorem cnt_one (a l : List UInt8) : ∀ n, cnt a l n = 1 → ∃ q, q < n ∧ a.getD q 0 ≠ l.getD q 0 ∧ ∀ i, i < n → i ≠ q → a.getD i 0 = l.getD i 0
  | 0, h => by cases h
  | n + 1, h => by
    rw [cnt] at h
    by_cases e : a.getD n 0 ≠ l.getD n 0
    · rw [if_pos e] at h
      exact ⟨n, by omega, e, fun i hi hne => cnt_zero a l n (by omega) i (by omega)⟩
    · rw [if_neg e] at h
      obtain ⟨q, h1, h2, h3⟩ := cnt_one a l n (by omega)
      refine ⟨q, by omega, h2, fun i hi hne => ?_⟩
      by_cases hin : i = n
      · subst hin
        exact Classical.not_not.1 e
      · exact h3 i (by omega) hne
theorem flipBit_getD (a : List UInt8) (j q : Nat) (hj : j / 8 < a.length) : (flipBit a j).getD q 0 = if j / 8 = q then a.getD q 0 ^^^ UInt8.ofNat (2 ^ (j % 8)) else a.getD q 0 := by
  unfold flipBit
  simp only [List.getD_eq_getElem?_getD, List.getElem?_set]
  by_cases h : j / 8 = q
  · subst h
    rw [if_pos rfl, if_pos hj, if_pos rfl]
    rfl
  · rw [if_neg h, if_neg h]
theorem dec_bytes (l c : List UInt8) (xs : List Int) (K : Nat) (hl : l.length = 8 * K) (n : Nat) (hn : n ≤ K) : ∀ q, ((dec l c xs n).1.getD q 0 = l.getD q 0 ∨ ∃ r, r < 8 ∧ (dec l c xs n).1.getD q 0 = l.getD q 0 ^^^ UInt8.ofNat (2 ^ r)) ∧ (8 * n ≤ q → (dec l c xs n).1.getD q 0 = l.getD q 0) := by
  induction n with
  | zero => exact fun q => ⟨.inl rfl, fun _ => rfl⟩
  | succ n ih =>
    have ih := ih (by omega)
    have e1 := (dec_len l c xs n).1
    rw [dec]
    generalize dec l c xs n = s at ih e1 ⊢
    have hk := pickN_lt (xs.getD n 0) 80 (by omega)
    generalize pickN (xs.getD n 0) 80 = k at hk ⊢
    intro q
    obtain ⟨p1, p2⟩ := ih q
    by_cases h1 : k < 64
    · rw [if_pos h1]
      dsimp only
      rw [flipBit_getD _ _ _ (by omega)]
      by_cases h : (64 * n + k) / 8 = q
      · rw [if_pos h, p2 (by omega)]
        exact ⟨.inr ⟨(64 * n + k) % 8, by omega, rfl⟩, fun _ => by omega⟩
      · rw [if_neg h]
        exact ⟨p1, fun _ => p2 (by omega)⟩
    · rw [if_neg h1]
      split <;> exact ⟨p1, fun _ => p2 (by omega)⟩
/-- Where one byte differs, one bit is turned. -/
theorem dec_one (l c : List UInt8) (xs : List Int) (K : Nat) (hl : l.length = 8 * K) (n : Nat) (hn : n ≤ K) (h : cnt (dec l c xs n).1 l l.length = 1) : ∃ j, j < 8 * l.length ∧ (dec l c xs n).1 = flipBit l j := by
  obtain ⟨q, h1, h2, h3⟩ := cnt_one _ _ _ h
  rcases (dec_bytes l c xs K hl n hn q).1 with h4 | ⟨r, h5, h6⟩
  · exact absurd h4 h2
  · refine ⟨8 * q + r, by omega, List.ext_getElem? fun i => ?_⟩
    have e1 := (dec_len l c xs n).1
    by_cases hi : i < l.length
    · have e := flipBit_getD l (8 * q + r) i (by omega)
      rw [show (8 * q + r) / 8 = q by omega, show (8 * q + r) % 8 = r by omega] at e
      have e2 : (dec l c xs n).1.getD i 0 = (flipBit l (8 * q + r)).getD i 0 := by
        rw [e]
        by_cases hq : q = i
        · subst hq
          rw [if_pos rfl, h6]
        · rw [if_neg hq, h3 i hi fun e => hq e.symm]
      simp only [List.getD_eq_getElem?_getD] at e2
      rw [List.getElem?_eq_getElem (by omega), List.getElem?_eq_getElem (by rw [flipBit_length]; exact hi)] at e2 ⊢
      simpa using e2
    · rw [List.getElem?_eq_none (by omega), List.getElem?_eq_none (by rw [flipBit_length]; omega)]
end Go.Proofs.Ytlaipigilikmbaa.TopW
