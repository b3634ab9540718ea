/- The walk of granarylaw1.FramePacks: true, and nothing that was there is written. -/
import Derived.Test.YtmnhgpkbdiobkaaDoorPackOf
import Derived.Test.YtmnhgpkbdiobkaaDoorTold
set_option linter.unusedVariables false
namespace Go.Proofs.YtmnhgpkbdiobkaaDoor.RefW
open Go.RowKit Fram Crc CrcW PackW ToldW

attribute [local irreducible] pack headP restP lowB

set_option maxRecDepth 100000 in
set_option maxHeartbeats 4000000 in
theorem packs_law (w : World) (hE : ErrT w) (n : Int) (t1 : -9223372036854775808 ≤ n) (t2 : n ≤ 9223372036854775807) (k lba seq : Int) (A : Option Addr) (d : List UInt8) (m c : Nat) (hm : m = d.length) (hr : Rd w A (u8v d)) :
    Calls Tryd.prog 3 #[.int .i64 n, frV k lba seq A m c] w fun e w' => e = .returned (.bool true) ∧ Below w.heap.size w w' := by
  have hb0 : Below w.heap.size w (w.alloc (.cells #[.int .i64 k, .int .i64 lba, .int .i64 seq, .slice A m c] 24)) := (Below.refl _ _).alloc (Nat.le_refl _) _
  have hF : Bk (w.alloc (.cells #[.int .i64 k, .int .i64 lba, .int .i64 seq, .slice A m c] 24)) w.heap.size 24 #[.int .i64 k, .int .i64 lba, .int .i64 seq, .slice A m c] := Bk.new _ _ _
  have HM := hide hm
  have HE := hide (hE.below hb0 (Nat.le_refl _))
  have hrA := hr.below hb0
  clear hm hE
  unfold frV
  go_enter Tryd.func3, Tryd.ntmps3
  go_wp2_with fail
  generalize w.alloc (.cells #[.int .i64 k, .int .i64 lba, .int .i64 seq, .slice A m c] 24) = w0 at hb0 hF HE hrA ⊢
  obtain ⟨f, hf⟩ : ∃ f, f = w.heap.size := ⟨_, rfl⟩
  rw [← hf] at hF
  rw [← hf]
  have hfl := hF.lt
  have HB := hide hf
  clear hf
  by_cases hfi : Fits n m k lba seq
  · by_cases ho : (m : Int) ≤ n - 21
    · have hfi' := hfi
      obtain ⟨o1, o2, o3, o4, o5, o6, o7, o8⟩ := hfi'
      obtain ⟨n, rfl⟩ := Int.eq_ofNat_of_zero_le (show 0 ≤ n by omega)
      have HFI := hide hfi
      clear hfi
      refine (pack_ok n k lba seq A d m c _ (by omega) (by omega) o3 o4 o5 o6 o7 o8 HM.out (by omega) hrA).mono ?_
      rintro e w1 ⟨v, rfl, ho1, hb1⟩
      obtain ⟨C, e1, rfl, he1, -, hr1, -, -⟩ := own_form ho1
      have hF1 := hF.below hb1 hfl
      have hb01 := hb0.trans (hb1.mono hb0.size)
      have HPL := hide (pack_length n k.toNat lba.toNat seq.toNat d (by rw [← HM.out]; omega)).symm
      have hfl1 := hF1.lt
      have c0 := hF1.at_ (i := 0) (u := .int .i64 k) rfl
      have c1 := hF1.at_ (i := 1) (u := .int .i64 lba) rfl
      have c2 := hF1.at_ (i := 2) (u := .int .i64 seq) rfl
      have c3 := hF1.at_ (i := 3) (u := .slice A m c) rfl
      clear ho1
      go_wp2_with fail
      refine (packFault_ok n k lba seq A m c _ HFI.out (by omega)).mono ?_
      rintro e w2 ⟨rfl, hb2⟩
      have hF2 := hF1.below hb2 hfl1
      have hb02 := hb01.trans (hb2.mono hb01.size)
      have hr12 := hr1.below hb2
      clear c0 c1 c2 c3 hF1 hr1 hb1 hb2
      go_wp2_with fail
      refine (error_nil 0 _ true rfl).mono ?_
      rintro e w3 ⟨rfl, hb3⟩
      have hF3 := hF2.below hb3 hF2.lt
      have hb03 := hb02.trans (hb3.mono hb02.size)
      have hr13 := hr12.below hb3
      have c0 := hF3.at_ (i := 0) (u := .int .i64 k) rfl
      have c1 := hF3.at_ (i := 1) (u := .int .i64 lba) rfl
      have c2 := hF3.at_ (i := 2) (u := .int .i64 seq) rfl
      have c3 := hF3.at_ (i := 3) (u := .slice A m c) rfl
      clear hF2 hr12 hb3
      go_wp2_with fail
      refine (packOf_any n k lba seq A d m c _ (by omega) (by omega) o3 o4 o5 o6 o7 o8 HM.out (by omega) (hr.below hb03)).mono ?_
      rintro e w4 ⟨B4, c4, rfl, hc4, ho4, hb4⟩
      have hr4 := own_rd ho4
      have hr14 := hr13.below hb4
      have hb04 := hb03.trans (hb4.mono hb03.size)
      clear c0 c1 c2 c3
      go_wp2_with fail
      refine (same_any C B4 _ _ n n _ _ _ HPL.out HPL.out (by omega) hr14 hr4 true (by simp)).mono ?_
      rintro e w5 ⟨rfl, dd, rfl⟩
      go_wp2_with fail
      go_ret
      exact ⟨rfl, below_drewN hb04 dd⟩
    · have HFI := hide hfi
      clear hfi
      refine (pack_full n k lba seq A m c _ HFI.out (by omega)).mono ?_
      rintro e w1 ⟨rfl, hb1⟩
      have hF1 := hF.below hb1 hfl
      have hb01 := hb0.trans (hb1.mono hb0.size)
      have c0 := hF1.at_ (i := 0) (u := .int .i64 k) rfl
      have c1 := hF1.at_ (i := 1) (u := .int .i64 lba) rfl
      have c2 := hF1.at_ (i := 2) (u := .int .i64 seq) rfl
      have c3 := hF1.at_ (i := 3) (u := .slice A m c) rfl
      have HE1 := hide (HE.out.below hb1 (Nat.le_refl _))
      go_wp2_with fail
      refine (packFault_full n k lba seq A m c _ HFI.out (by omega)).mono ?_
      rintro e w2 ⟨rfl, hb2⟩
      have hb02 := hb01.trans (hb2.mono hb01.size)
      have HE2 := hide (HE1.out.below hb2 (Nat.le_refl _))
      go_wp2_with fail
      refine (error_some 3 3 _ HE2.out true rfl).mono ?_
      rintro e w3 ⟨rfl, hb3⟩
      go_wp2_with fail
      go_ret
      exact ⟨rfl, hb02.trans (hb3.mono hb02.size)⟩
  · have HFI := hide hfi
    clear hfi
    refine (pack_range n k lba seq A m c _ t1 t2 HFI.out).mono ?_
    rintro e w1 ⟨rfl, hb1⟩
    have hF1 := hF.below hb1 hfl
    have hb01 := hb0.trans (hb1.mono hb0.size)
    have c0 := hF1.at_ (i := 0) (u := .int .i64 k) rfl
    have c1 := hF1.at_ (i := 1) (u := .int .i64 lba) rfl
    have c2 := hF1.at_ (i := 2) (u := .int .i64 seq) rfl
    have c3 := hF1.at_ (i := 3) (u := .slice A m c) rfl
    have HE1 := hide (HE.out.below hb1 (Nat.le_refl _))
    go_wp2_with fail
    refine (packFault_range n k lba seq A m c _ HFI.out).mono ?_
    rintro e w2 ⟨rfl, hb2⟩
    have hb02 := hb01.trans (hb2.mono hb01.size)
    have HE2 := hide (HE1.out.below hb2 (Nat.le_refl _))
    go_wp2_with fail
    refine (error_some 1 1 _ HE2.out true rfl).mono ?_
    rintro e w3 ⟨rfl, hb3⟩
    go_wp2_with fail
    go_ret
    exact ⟨rfl, hb02.trans (hb3.mono hb02.size)⟩
end Go.Proofs.YtmnhgpkbdiobkaaDoor.RefW
