/- The walk of granarylaw1.FrameTells: true, and nothing that was there is written. -/
import Derived.Test.YtmnhgpkbdiobkaaTellsPlain
set_option linter.unusedVariables false
namespace Go.Proofs.Ytmnhgpkbdiobkaa.TellsW
open Go.RowKit PutW CrcW Fram Crc PackW FrameW GetW ApartW OpenW

attribute [local irreducible] pack kindOf lbaOf seqOf seqI longOf dataOf

set_option maxRecDepth 100000 in
set_option maxHeartbeats 2000000 in
theorem law (w : World) (n : Int) (t1 : -9223372036854775808 ≤ n) (t2 : n ≤ 9223372036854775807) (k1 l1 s1 : Int) (A : Option Addr) (a : List UInt8) (m ca : Nat) (hm : m = a.length) (ra : Rd w A (u8v a)) (at_ : Int) (t3 : -9223372036854775808 ≤ at_) (t4 : at_ ≤ 9223372036854775807) :
    Calls Try.prog 10 #[.int .i64 n, frV k1 l1 s1 A m ca, .int .i64 at_] w fun e w' => e = .returned (.bool true) ∧ Below w.heap.size w w' := by
  have hb0 : Below w.heap.size w (w.alloc (.cells #[.int .i64 k1, .int .i64 l1, .int .i64 s1, .slice A m ca] 28)) := (Below.refl _ _).alloc (Nat.le_refl _) _
  have hF : Bk (w.alloc (.cells #[.int .i64 k1, .int .i64 l1, .int .i64 s1, .slice A m ca] 28)) w.heap.size 28 #[.int .i64 k1, .int .i64 l1, .int .i64 s1, .slice A m ca] := Bk.new _ _ _
  have HM := hide hm
  clear hm
  unfold frV
  go_enter Try.func10, Try.ntmps10
  go_wp2_with fail
  generalize w.alloc (.cells #[.int .i64 k1, .int .i64 l1, .int .i64 s1, .slice A m ca] 28) = w0 at hb0 hF ⊢
  obtain ⟨f, hf⟩ : ∃ f, f = w.heap.size := ⟨_, rfl⟩
  rw [← hf] at hF
  rw [← hf]
  have hfl := hF.lt
  have HB := hide hf
  clear hf
  refine (frameFact_any w0).mono ?_
  rintro e w1 ⟨rfl, hb1⟩
  have hb01 := hb0.trans (hb1.mono hb0.size)
  have hF1 := hF.below hb1 hfl
  clear hF hfl hb1 hb0
  have c0 := hF1.at_ (i := 0) (u := .int .i64 k1) rfl
  have c1 := hF1.at_ (i := 1) (u := .int .i64 l1) rfl
  have c2 := hF1.at_ (i := 2) (u := .int .i64 s1) rfl
  have c3 := hF1.at_ (i := 3) (u := .slice A m ca) rfl
  by_cases hfit : Fits n m k1 l1 s1 ∧ (m : Int) ≤ n - 21
  · obtain ⟨hfi, o9⟩ := hfit
    have hfi' := hfi
    obtain ⟨o1, o2, o3, o4, o5, o6, o7, o8⟩ := hfi'
    obtain ⟨n, rfl⟩ := Int.eq_ofNat_of_zero_le (show 0 ≤ n by omega)
    have hn4 : n ≤ 4096 := by omega
    go_wp2_with fail
    refine (pack_ok n k1 l1 s1 A a m ca _ (by omega) (by omega) o3 o4 o5 o6 o7 o8 HM.out (by omega) (ra.below hb01)).mono ?_
    rintro e w2 ⟨v, rfl, ho, hb2⟩
    obtain ⟨C, e1, rfl, he1, -, hr1, -, -⟩ := own_form ho
    have HPL := hide (pack_length n k1.toNat l1.toNat s1.toNat a (by rw [← HM.out]; omega)).symm
    have HBAD : Hid (∀ j, j < 8 * n → ¬ OpenW.Good (flipBit (pack n k1.toNat l1.toNat s1.toNat a) j) n) := hide fun j hj => flip_bad (by rw [← HM.out]; omega) hj
    clear ho c0 c1 c2 c3
    have hb02 := hb01.trans (hb2.mono hb01.size)
    clear hF1 hb01 hb2
    have hz : ((n : Int) == 0) = false := by simp; omega
    go_wp2_with fail
    refine (turned_any C none _ [] n 0 e1 0 at_ _ HPL.out rfl (by omega) (by omega) (by omega) t3 t4 hr1 (Rd.nil _ _)).mono ?_
    rintro e w3 ⟨v1, v2, rfl, ho, -, hb3⟩
    have hj := pickN_lt at_ (8 * (n + 0)) (by omega)
    generalize pickN at_ (8 * (n + 0)) = j at ho hj
    rw [turnL_low (by rw [← HPL.out]; omega)] at ho
    have HPL3 := hide (show n = (flipBit (pack n k1.toNat l1.toNat s1.toNat a) j).length by rw [flipBit_length]; exact HPL.out)
    have HB3 := hide (HBAD.out j (by omega))
    obtain ⟨D, e3, rfl, he3, -, hr3, -, -⟩ := own_form ho
    have hcap : e3 ≤ 9223372036854775807 := by
      obtain ⟨_, cap, _, hv, _, _, _, _, hm2, _, _⟩ := own_block ho (by omega)
      injection hv with _ _ hv
      subst hv
      exact hm2
    clear ho
    have hb03 := hb02.trans (hb3.mono hb02.size)
    clear hb02 hb3 hr1
    go_wp2_with fail
    refine (open_any D _ n e3 _ HPL3.out he3 hcap hr3).mono ?_
    rintro e w4 ⟨hb4, h⟩
    obtain ⟨-, st, rfl, hst⟩ := h.resolve_right fun h => HB3.out h.1
    have hst2 : (st != 2) = true := by
      rcases hst with ⟨_, _, rfl⟩ | ⟨_, rfl⟩ <;> rfl
    clear hst
    have hb04 := hb03.trans (hb4.mono hb03.size)
    clear hb03 hb4 hr3
    have hb05 := hb04.alloc hb04.size (.cells #[.int .i64 0, .int .i64 0, .int .i64 0, .slice none 0 0] 28)
    unfold noFrame frV
    go_wp2_with fail
    refine (frames_any 0 0 0 0 0 0 none none [] [] 0 0 0 0 _ rfl rfl (by omega) (Rd.nil _ _) (Rd.nil _ _) true (by simp)).mono ?_
    rintro e w5 ⟨rfl, hb5⟩
    have hb06 := hb05.trans (hb5.mono hb05.size)
    go_wp2_with fail
    go_ret
    exact ⟨rfl, hb06⟩
  · have HF1 := hide hfit
    clear hfit
    go_wp2_with fail
    refine (pack_bad n k1 l1 s1 A m ca _ t1 t2 HF1.out).mono ?_
    rintro e w2 ⟨z, rfl, hb2⟩
    go_wp2_with fail
    go_ret
    exact ⟨rfl, hb01.trans (hb2.mono hb01.size)⟩
end Go.Proofs.Ytmnhgpkbdiobkaa.TellsW
