/- The walk of granarylaw1.CodeTells: true, and nothing that was there is written. -/
import Derived.Test.YtakgbejeaheihaaDoorCodeFact
import Derived.Test.YtakgbejeaheihaaDoorMend
import Derived.Test.YtakgbejeaheihaaDoorHamLists
import Derived.Test.YtakgbejeaheihaaDoorTold
set_option linter.unusedVariables false
namespace Go.Proofs.YtakgbejeaheihaaDoor.TwoW
open Go.RowKit Pop PlacesW WordW ProtectW BitsW MendW FactW ToldW Ham

theorem wordAt_one {t : List UInt8} (h : t.length = 8) : wordAt t 0 = le t := by
  rw [wordAt_chunk]
  unfold chunk
  rw [Nat.mul_zero, List.drop_zero, List.take_of_length_le (by omega)]

/-- One bit of a word or of its check byte turned, as numbers. -/
theorem turn_nums (l c : List UInt8) (q : Nat) (hl : l.length = 8) (hc : c.length = 1) (hq : q < 72) :
    (turnL l c q).1.length = 8 ∧ (turnL l c q).2.length = 1 ∧ wordAt (turnL l c q).1 0 = wordAt l 0 ^^^ errW q ∧ ((turnL l c q).2.getD 0 0).toNat = (c.getD 0 0).toNat ^^^ errC q := by
  by_cases h : q < 64
  · rw [turnL_low (by rw [hl]; exact h)]
    have hf : (flipBit l q).length = 8 := by rw [flipBit_length, hl]
    refine ⟨hf, hc, ?_, ?_⟩
    · rw [wordAt_one hf, wordAt_one hl, le_flip l q (by omega)]
      unfold errW
      rw [if_pos h]
    · unfold errC
      rw [if_pos h, Nat.xor_zero]
  · rw [turnL_high (by rw [hl]; exact h), hl]
    have hf : (flipBit c (q - 64)).length = 1 := by rw [flipBit_length, hc]
    refine ⟨by first | exact hl | rfl, hf, ?_, ?_⟩
    · unfold errW
      rw [if_neg h, Nat.xor_zero]
    · show ((flipBit c (q - 64)).getD 0 0).toNat = _
      rw [flip_get c (q - 64) 0 (by omega), if_pos (by omega)]
      unfold errC
      rw [if_neg h, if_pos hq, show (q - 64) % 8 = q - 64 by omega]

theorem two_lost (l : List UInt8) (x y : Nat) (hl : l.length = 8) (hx : x < 72) (hy : y < 72) (hne : x ≠ y) :
    mendTo (turnL (turnL l (prot l 1) x).1 (turnL l (prot l 1) x).2 y).1 (turnL (turnL l (prot l 1) x).1 (turnL l (prot l 1) x).2 y).2 1 = none := by
  have hp : (prot l 1).length = 1 := by simp [prot]
  obtain ⟨a1, a2, a3, a4⟩ := turn_nums l (prot l 1) x hl hp hx
  obtain ⟨b1, b2, b3, b4⟩ := turn_nums _ _ y a1 a2 hy
  refine step_lost (mendTo_zero _ _) ?_
  rw [b3, a3, b4, a4, prot_get l 1 0 (by omega)]
  exact fix_two (wordAt l 0) x y hx hy hne

theorem pick_same (x : Nat) (h : x < 72) : pickN (x : Int) (8 * (8 + 1)) = x := by
  unfold pickN
  rw [if_neg (by omega)]
  omega

attribute [local irreducible] turnL prot mendTo pickN chk wordAt

set_option maxRecDepth 100000 in
set_option maxHeartbeats 4000000 in
theorem tells_law (w : World) (hE : ErrT w) (A : Option Addr) (l : List UInt8) (n c : Nat) (hn : n = l.length) (hnc : n ≤ c) (hcm : c ≤ 140737488351232) (hr : Rd w A (u8v l)) (i : Int) (t1 : -9223372036854775808 ≤ i) (t2 : i ≤ 9223372036854775807) (k : Int) (t3 : -9223372036854775808 ≤ k) (t4 : k ≤ 9223372036854775807) :
    Calls Tryd.prog 4 #[.slice A n c, .int .i64 i, .int .i64 k] w fun e w' => e = .returned (.bool true) ∧ Below w.heap.size w w' := by
  have HN := hide hn
  have HE := hide hE
  clear hn hE
  by_cases h8 : n < 8
  · go_enter Tryd.func4, Tryd.ntmps4
    go_wp2_with fail
    refine (fact_any w).mono ?_
    rintro e w1 ⟨rfl, hb1⟩
    go_wp2_with fail
    go_ret
    exact ⟨rfl, hb1⟩
  have hcI : (8 : Int) ≤ (c : Int) := by omega
  have h8' : 8 ≤ n := by omega
  have h8i : ¬ ((n : Int) < 8) := by omega
  clear h8
  go_enter Tryd.func4, Tryd.ntmps4
  go_wp2_with fail
  refine (fact_any w).mono ?_
  rintro e w1 ⟨rfl, hb1⟩
  have hr1 := hr.below hb1
  have hrt : Rd w1 A (u8v (l.take 8)) := by simpa [u8v] using hr1.take 8
  obtain ⟨l0, hl0⟩ : ∃ l0, l0 = l.take 8 := ⟨_, rfl⟩
  have hl8 : l0.length = 8 := by rw [hl0, List.length_take, ← HN.out]; omega
  rw [← hl0] at hrt
  have HL := hide hl8.symm
  clear hl0 hl8
  go_wp2_with fail
  refine (protect_ok A l0 8 8 _ HL.out rfl (by omega) (by omega) hrt).mono ?_
  rintro e w2 ⟨v, rfl, ho2, hb2⟩
  have ho2' : w2.ownsRow w1.heap.size 5 1 v 1 (u8v (prot l0 1)) := ho2
  obtain ⟨P, kp, rfl, hkp, -, hrP, -, -⟩ := own_form ho2'
  have hb02 := hb1.trans (hb2.mono hb1.size)
  have hrt2 := hrt.below hb2
  have HPL := hide (show 1 = (prot l0 1).length by simp [prot])
  clear ho2 ho2' hb2 hrt hr1
  go_wp2_with fail
  refine (pick_any i 72 _ rfl (by omega) (by omega) t1 t2 _).mono ?_
  rintro e w3 ⟨rfl, rfl⟩
  have hx := pickN_lt i 72 (by omega)
  generalize pickN i 72 = x at hx
  go_wp2_with fail
  refine (pick_any k 72 _ rfl (by omega) (by omega) t3 t4 _).mono ?_
  rintro e w3 ⟨rfl, rfl⟩
  have hy := pickN_lt k 72 (by omega)
  generalize pickN k 72 = y at hy
  by_cases hxy : x = y
  · subst hxy
    have hxe : ((x : Int) == (x : Int)) = true := by simp
    go_wp2_with fail
    go_ret
    exact ⟨rfl, hb02⟩
  have hxe : ((x : Int) == (y : Int)) = false := by simp; omega
  have HLOST := hide (two_lost l0 x y HL.out.symm hx hy hxy)
  obtain ⟨e1, e2, -, -⟩ := turn_nums l0 (prot l0 1) x HL.out.symm HPL.out.symm hx
  obtain ⟨e3, e4, -, -⟩ := turn_nums _ _ y e1 e2 hy
  have HX := hide (pick_same x hx)
  have HY := hide (pick_same y hy)
  have H1 := hide e1.symm
  have H2 := hide e2.symm
  have H3 := hide e3.symm
  have H4 := hide e4.symm
  clear hxy e1 e2 e3 e4
  go_wp2_with fail
  refine (turned_any A P l0 (prot l0 1) 8 1 8 kp (x : Int) _ HL.out HPL.out (by omega) (by omega) (by omega) (by omega) (by omega) hrt2 hrP).mono ?_
  rintro e w3 ⟨v1, v2, rfl, ho1, ho2, hb3⟩
  rw [HX.out] at ho1 ho2
  have hb03 := hb02.trans (hb3.mono hb02.size)
  obtain ⟨A1, k1, rfl, hk1, -, hrA1, -, -⟩ := own_form ho1
  obtain ⟨A2, k2, rfl, hk2, -, hrA2, -, -⟩ := own_form ho2
  generalize (turnL l0 (prot l0 1) x).1 = m1 at *
  generalize (turnL l0 (prot l0 1) x).2 = m2 at *
  clear ho1 ho2 hb3 hb02
  go_wp2_with fail
  refine (turned_any A1 A2 m1 m2 8 1 k1 k2 (y : Int) _ H1.out H2.out (by omega) (by omega) (by omega) (by omega) (by omega) hrA1 hrA2).mono ?_
  rintro e w4 ⟨v3, v4, rfl, ho3, ho4, hb4⟩
  rw [HY.out] at ho3 ho4
  have hb04 := hb03.trans (hb4.mono hb03.size)
  obtain ⟨A3, k3, rfl, hk3, -, hrA3, -, -⟩ := own_form ho3
  obtain ⟨A4, k4, rfl, hk4, -, hrA4, -, -⟩ := own_form ho4
  generalize (turnL m1 m2 y).1 = m3 at *
  generalize (turnL m1 m2 y).2 = m4 at *
  clear ho3 ho4 hb4 hb03
  go_wp2_with fail
  refine (mend_any A3 A4 m3 m4 8 1 k3 k4 _ H3.out H4.out rfl (by omega) hk3 rfl hrA3 hrA4).mono ?_
  rintro e w5 ⟨hb5, hm5⟩
  rw [HLOST.out] at hm5
  simp only at hm5
  subst hm5
  have hb05 := hb04.trans (hb5.mono hb04.size)
  have HE5 := hide (HE.out.below hb05 (Nat.le_refl _))
  go_wp2_with fail
  refine (error_some 8 8 _ HE5.out true rfl).mono ?_
  rintro e w6 ⟨rfl, hb6⟩
  go_wp2_with fail
  go_ret
  exact ⟨rfl, hb05.trans (hb6.mono hb05.size)⟩
end Go.Proofs.YtakgbejeaheihaaDoor.TwoW
