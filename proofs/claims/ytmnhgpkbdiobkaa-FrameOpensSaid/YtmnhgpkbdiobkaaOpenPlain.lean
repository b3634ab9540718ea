/- Plain: what is read back of a packed page; frame.Open's three answers in one. -/
import Derived.Test.YtmnhgpkbdiobkaaOpenMain
set_option linter.unusedVariables false
namespace Go.Proofs.Ytmnhgpkbdiobkaa.OpenW
open Go.RowKit PutW CrcW Fram Crc PackW FrameW GetW ApartW

theorem part_at {a b c : List UInt8} {i k : Nat} (hi : i = a.length) (hk : k = b.length) : ((a ++ (b ++ c)).drop i).take k = b := by
  subst hi hk
  rw [List.drop_left' rfl, List.take_left' rfl]

theorem leN_back {x n : Nat} (hx : x < 256 ^ n) : leN (lowB x n) = x := by rw [leN_lowB, Nat.mod_eq_of_lt hx]

theorem page_fields (k lba seq : Nat) (sum d : List UInt8) (n : Nat) (hs : sum.length = 4) (hk : k < 256) (hl : lba < 4294967296) (hq : seq < 18446744073709551616) (hd : d.length < 65536) :
    (page k lba seq sum d n).getD 0 0 = 165 ∧ kindOf (page k lba seq sum d n) = (k : Int) ∧ lbaOf (page k lba seq sum d n) = lba ∧ seqOf (page k lba seq sum d n) = seq ∧ longOf (page k lba seq sum d n) = d.length ∧ dataOf (page k lba seq sum d n) = d := by
  have eL : longOf (page k lba seq sum d n) = d.length := by
    unfold longOf page
    rw [← List.append_assoc, ← List.append_assoc, part_at (by simp [lowB_length]) (by simp [lowB_length])]
    exact leN_back (by omega)
  refine ⟨by simp [page], ?_, ?_, ?_, eL, ?_⟩
  · unfold kindOf page
    simp
    omega
  · unfold lbaOf page
    rw [part_at (by simp) (by simp [lowB_length])]
    exact leN_back (by omega)
  · unfold seqOf page
    rw [← List.append_assoc, part_at (by simp [lowB_length]) (by simp [lowB_length])]
    exact leN_back (by omega)
  · unfold dataOf
    rw [eL]
    unfold page
    rw [← List.append_assoc, ← List.append_assoc, ← List.append_assoc, ← List.append_assoc, part_at (by simp [lowB_length, hs]) rfl]

theorem page_last (k lba seq : Nat) (sum d : List UInt8) (n : Nat) (hs : sum.length = 4) (hd : d.length + 21 ≤ n) : (page k lba seq sum d n).getD (n - 1) 0 = 90 := by
  have hl := page_length k lba seq sum d n hs hd
  have e : page k lba seq sum d n = ([165, UInt8.ofNat k] ++ (lowB lba 4 ++ (lowB seq 8 ++ (lowB d.length 2 ++ (sum ++ (d ++ List.replicate (n - 21 - d.length) 0)))))) ++ [90] := by
    unfold page
    simp only [List.append_assoc]
  have e2 : ([165, UInt8.ofNat k] ++ (lowB lba 4 ++ (lowB seq 8 ++ (lowB d.length 2 ++ (sum ++ (d ++ List.replicate (n - 21 - d.length) 0)))))).length = n - 1 := by
    simp [lowB_length, hs]; omega
  rw [e, List.getD_eq_getElem?_getD, List.getElem?_append_right (by omega), e2]
  simp

theorem fits_bounds {n : Nat} {m k lba seq : Int} (h : Fits n m k lba seq) : 24 ≤ n ∧ n ≤ 4096 ∧ 1 ≤ k ∧ k ≤ 3 ∧ 0 ≤ lba ∧ lba ≤ 4294967295 ∧ 0 ≤ seq ∧ seq ≤ 4611686018427387904 := by
  obtain ⟨a, b, c, d, e, f, g, i⟩ := h
  exact ⟨by omega, by omega, c, d, e, f, g, i⟩

/-- A packed page: good, and its fields are what was packed. -/
theorem good_pack (n : Nat) (k lba seq : Int) (d : List UInt8) (hf : Fits n d.length k lba seq) (hd : d.length + 21 ≤ n) :
    Good (pack n k.toNat lba.toNat seq.toNat d) n ∧ (pack n k.toNat lba.toNat seq.toNat d).getD 0 0 = 165 ∧ (pack n k.toNat lba.toNat seq.toNat d).getD (n - 1) 0 = 90 ∧
    kindOf (pack n k.toNat lba.toNat seq.toNat d) = k ∧ (lbaOf (pack n k.toNat lba.toNat seq.toNat d) : Int) = lba ∧ seqI (pack n k.toNat lba.toNat seq.toNat d) = seq ∧ longOf (pack n k.toNat lba.toNat seq.toNat d) = d.length ∧ dataOf (pack n k.toNat lba.toNat seq.toNat d) = d := by
  obtain ⟨h24, hmax, hk1, hk3, hl0, hl1, hs0, hs1⟩ := fits_bounds hf
  obtain ⟨f0, f1, f2, f3, f4, f5⟩ := page_fields k.toNat lba.toNat seq.toNat (lowB (crc (page k.toNat lba.toNat seq.toNat [0, 0, 0, 0] d n)).toNat 4) d n (lowB_length _ _) (by omega) (by omega) (by omega) (by omega)
  have fl := page_last k.toNat lba.toNat seq.toNat (lowB (crc (page k.toNat lba.toNat seq.toNat [0, 0, 0, 0] d n)).toNat 4) d n (lowB_length _ _) hd
  change (pack n k.toNat lba.toNat seq.toNat d).getD 0 0 = 165 at f0
  change kindOf (pack n k.toNat lba.toNat seq.toNat d) = _ at f1
  change lbaOf (pack n k.toNat lba.toNat seq.toNat d) = _ at f2
  change seqOf (pack n k.toNat lba.toNat seq.toNat d) = _ at f3
  change longOf (pack n k.toNat lba.toNat seq.toNat d) = _ at f4
  change dataOf (pack n k.toNat lba.toNat seq.toNat d) = _ at f5
  change (pack n k.toNat lba.toNat seq.toNat d).getD (n - 1) 0 = 90 at fl
  have g1 : kindOf (pack n k.toNat lba.toNat seq.toNat d) = k := by rw [f1]; omega
  have g2 : (lbaOf (pack n k.toNat lba.toNat seq.toNat d) : Int) = lba := by rw [f2]; omega
  have g3 : seqI (pack n k.toNat lba.toNat seq.toNat d) = seq := by
    unfold seqI
    rw [f3, IntKind.wrap_i64]
    omega
  refine ⟨⟨by rw [f4]; exact hd, by rw [f4, g1, g2, g3]; exact hf, by rw [g1, f2, g3, f5]⟩, f0, fl, g1, g2, g3, f4, f5⟩

theorem good_ends {l : List UInt8} {n : Nat} (h : Good l n) : n = l.length ∧ 24 ≤ n ∧ n ≤ 4096 ∧ l.getD 0 0 = 165 ∧ l.getD (n - 1) 0 = 90 := by
  obtain ⟨h1, h2, h3⟩ := h
  obtain ⟨h24, hmax, hk1, hk3, hl0, hl1, hs0, hs1⟩ := fits_bounds h2
  have hdl : (dataOf l).length ≤ longOf l := by unfold dataOf; simp; omega
  have hpl := pack_length n (kindOf l).toNat (lbaOf l) (seqI l).toNat (dataOf l) (by omega)
  have f0 : (pack n (kindOf l).toNat (lbaOf l) (seqI l).toNat (dataOf l)).getD 0 0 = 165 := by simp [pack, page]
  have fl : (pack n (kindOf l).toNat (lbaOf l) (seqI l).toNat (dataOf l)).getD (n - 1) 0 = 90 := page_last _ _ _ _ _ n (lowB_length _ _) (by omega)
  rw [h3] at hpl f0 fl
  exact ⟨hpl.symm, h24, hmax, f0, fl⟩

attribute [local irreducible] pack kindOf lbaOf seqOf seqI longOf dataOf

/-- frame.Open, whole. -/
theorem open_any (A : Option Addr) (l : List UInt8) (n c : Nat) (w : World) (hn : n = l.length) (hnc : n ≤ c) (hcm : c ≤ 9223372036854775807) (hr : Rd w A (u8v l)) :
    Calls Try.prog 22 #[.slice A n c] w fun e w' => Below w.heap.size w w' ∧
      ((¬ Good l n ∧ ∃ st : Int, e = .returned (.tuple #[noFrame, .int .i64 st]) ∧ ((0 < n ∧ l.count 255 = n ∧ st = 1) ∨ (¬ (0 < n ∧ l.count 255 = n) ∧ st = 3))) ∨
      (Good l n ∧ ∃ B c', e = .returned (.tuple #[frV (kindOf l) (lbaOf l) (seqI l) B (longOf l) c', .int .i64 2]) ∧ longOf l ≤ c' ∧ Rd w' B (u8v (dataOf l)))) := by
  have hnot : l.count 255 = n → l.getD 0 0 = 165 → ¬ 0 < n := by
    intro h h0 hp
    rw [hn] at h
    have h2 := List.count_eq_length.1 h (l.getD 0 0) (by rw [show l.getD 0 0 = l[0]'(by omega) from by simp [List.getD, show 0 < l.length by omega]]; exact List.getElem_mem _)
    rw [h0] at h2
    exact absurd h2 (by decide)
  by_cases h0 : 0 < n
  · by_cases hf : l.count 255 = n
    · refine (open_erased A l n c w hn h0 (by omega) hr hf).mono fun e w' ⟨h1, h2⟩ => ⟨h2, .inl ⟨fun h => hnot hf (good_ends h).2.2.2.1 h0, 1, h1, .inl ⟨h0, hf, rfl⟩⟩⟩
    · by_cases hb : n < 24 ∨ 4096 < n ∨ l.getD 0 0 ≠ 165 ∨ l.getD (n - 1) 0 ≠ 90
      · refine (open_form A l n c w hn h0 (by omega) hr hf hb).mono fun e w' ⟨h1, h2⟩ => ⟨h2, .inl ⟨fun h => ?_, 3, h1, .inr ⟨fun h => hf h.2, rfl⟩⟩⟩
        obtain ⟨_, g1, g2, g3, g4⟩ := good_ends h
        rcases hb with hb | hb | hb | hb
        · omega
        · omega
        · exact hb g3
        · exact hb g4
      · have hb' : 24 ≤ n ∧ n ≤ 4096 ∧ l.getD 0 0 = 165 ∧ l.getD (n - 1) 0 = 90 := by
          refine ⟨?_, ?_, ?_, ?_⟩
          · exact Nat.le_of_not_lt fun h => hb (.inl h)
          · exact Nat.le_of_not_lt fun h => hb (.inr (.inl h))
          · exact Classical.byContradiction fun h => hb (.inr (.inr (.inl h)))
          · exact Classical.byContradiction fun h => hb (.inr (.inr (.inr h)))
        obtain ⟨g1, g2, g3, g4⟩ := hb'
        refine (open_main A l n c w hn g1 g2 hnc hcm hr g3 g4).mono fun e w' ⟨h1, h2⟩ => ⟨h1, h2.imp ?_ id⟩
        rintro ⟨h3, h4⟩
        exact ⟨h3, 3, h4, .inr ⟨fun h => hf h.2, rfl⟩⟩
  · obtain rfl : n = 0 := by omega
    refine (open_none A c w).mono fun e w' ⟨h1, h2⟩ => ⟨h2, .inl ⟨fun h => ?_, 3, h1, .inr ⟨fun h => by omega, rfl⟩⟩⟩
    have := (good_ends h).2.1
    omega
end Go.Proofs.Ytmnhgpkbdiobkaa.OpenW
