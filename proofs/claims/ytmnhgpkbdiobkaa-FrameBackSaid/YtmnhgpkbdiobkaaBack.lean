/- The walk of granarylaw1.FrameBack: true, and nothing that was there is written. -/
import Derived.Test.YtmnhgpkbdiobkaaOpenPlain
set_option linter.unusedVariables false
namespace Go.Proofs.Ytmnhgpkbdiobkaa.BackW
open Go.RowKit PutW CrcW Fram Crc PackW FrameW GetW ApartW OpenW

attribute [local irreducible] pack kindOf lbaOf seqOf seqI longOf dataOf

set_option maxRecDepth 100000 in
set_option maxHeartbeats 2000000 in
theorem law (w : World) (n : Int) (t1 : -9223372036854775808 ≤ n) (t2 : n ≤ 9223372036854775807) (k1 l1 s1 : Int) (A : Option Addr) (a : List UInt8) (m ca : Nat) (hm : m = a.length) (ra : Rd w A (u8v a)) :
    Calls Try.prog 9 #[.int .i64 n, frV k1 l1 s1 A m ca] w fun e w' => e = .returned (.bool true) ∧ Below w.heap.size w w' := by
  have hb0 : Below w.heap.size w (w.alloc (.cells #[.int .i64 k1, .int .i64 l1, .int .i64 s1, .slice A m ca] 28)) := (Below.refl _ _).alloc (Nat.le_refl _) _
  have hF : Bk (w.alloc (.cells #[.int .i64 k1, .int .i64 l1, .int .i64 s1, .slice A m ca] 28)) w.heap.size 28 #[.int .i64 k1, .int .i64 l1, .int .i64 s1, .slice A m ca] := Bk.new _ _ _
  have HM := hide hm
  clear hm
  unfold frV
  go_enter Try.func9, Try.ntmps9
  go_wp2_with fail
  generalize w.alloc (.cells #[.int .i64 k1, .int .i64 l1, .int .i64 s1, .slice A m ca] 28) = w0 at hb0 hF ⊢
  obtain ⟨f, hf⟩ : ∃ f, f = w.heap.size := ⟨_, rfl⟩
  rw [← hf] at hF
  rw [← hf]
  have hfl := hF.lt
  have HB := hide hf
  clear hf
  refine (frameFact_any w0).mono ?_
  rintro e w1 ⟨rfl, hb1⟩
  have hb01 := hb0.trans (hb1.mono hb0.size)
  have hF1 := hF.below hb1 hfl
  clear hF hfl hb1 hb0
  have c0 := hF1.at_ (i := 0) (u := .int .i64 k1) rfl
  have c1 := hF1.at_ (i := 1) (u := .int .i64 l1) rfl
  have c2 := hF1.at_ (i := 2) (u := .int .i64 s1) rfl
  have c3 := hF1.at_ (i := 3) (u := .slice A m ca) rfl
  by_cases hfit : Fits n m k1 l1 s1 ∧ (m : Int) ≤ n - 21
  · obtain ⟨hfi, o9⟩ := hfit
    have hfi' := hfi
    obtain ⟨o1, o2, o3, o4, o5, o6, o7, o8⟩ := hfi'
    obtain ⟨n, rfl⟩ := Int.eq_ofNat_of_zero_le (show 0 ≤ n by omega)
    have G := good_pack n k1 l1 s1 a (by rw [← HM.out]; exact hfi) (by rw [← HM.out]; omega)
    have HG := hide G
    clear G hfi
    have hn4 : n ≤ 4096 := by omega
    go_wp2_with fail
    refine (pack_ok n k1 l1 s1 A a m ca _ (by omega) (by omega) o3 o4 o5 o6 o7 o8 HM.out (by omega) (ra.below hb01)).mono ?_
    rintro e w2 ⟨v, rfl, ho, hb2⟩
    obtain ⟨C, e1, rfl, he1, -, hr1, -, -⟩ := own_form ho
    have hcap : e1 ≤ 9223372036854775807 := by
      obtain ⟨_, cap, _, hv, _, _, _, _, hm2, _, _⟩ := own_block ho (by omega)
      injection hv with _ _ hv
      subst hv
      exact hm2
    have HPL := hide (pack_length n k1.toNat l1.toNat s1.toNat a (by rw [← HM.out]; omega)).symm
    clear ho c0 c1 c2 c3
    have hb02 := hb01.trans (hb2.mono hb01.size)
    have hF2 := hF1.below hb2 hF1.lt
    clear hF1 hb01 hb2
    go_wp2_with fail
    refine (open_any C _ n e1 _ HPL.out he1 hcap hr1).mono ?_
    rintro e w3 ⟨hb3, h | ⟨-, B, c', rfl, hcc, hrB⟩⟩
    · exact absurd HG.out.1 h.1
    rw [HG.out.2.2.2.1, HG.out.2.2.2.2.1, HG.out.2.2.2.2.2.1, HG.out.2.2.2.2.2.2.1]
    rw [HG.out.2.2.2.2.2.2.2] at hrB
    have hb03 := hb02.trans (hb3.mono hb02.size)
    have hF3 := hF2.below hb3 hF2.lt
    clear hF2 hb02 hb3
    have hF4 := hF3.alloc (.cells #[.int .i64 k1, .int .i64 l1, .int .i64 s1, .slice B a.length c'] 28)
    have c0 := hF4.at_ (i := 0) (u := .int .i64 k1) rfl
    have c1 := hF4.at_ (i := 1) (u := .int .i64 l1) rfl
    have c2 := hF4.at_ (i := 2) (u := .int .i64 s1) rfl
    have c3 := hF4.at_ (i := 3) (u := .slice A m ca) rfl
    have hb04 := hb03.alloc hb03.size (.cells #[.int .i64 k1, .int .i64 l1, .int .i64 s1, .slice B a.length c'] 28)
    have ra3 := (ra.below hb03).alloc (.cells #[.int .i64 k1, .int .i64 l1, .int .i64 s1, .slice B a.length c'] 28)
    have rb3 := hrB.alloc (.cells #[.int .i64 k1, .int .i64 l1, .int .i64 s1, .slice B a.length c'] 28)
    have HAL := hide (show a.length ≤ 9223372036854775807 by rw [← HM.out]; omega)
    unfold frV
    go_wp2_with fail
    refine (frames_any k1 l1 s1 k1 l1 s1 A B a a m a.length ca c' _ HM.out rfl (by rw [HM.out]; exact HAL.out) (by exact ra3) (by exact rb3) true (by simp)).mono ?_
    rintro e w5 ⟨rfl, hb5⟩
    have hb05 := hb04.trans (hb5.mono hb04.size)
    go_wp2_with fail
    go_ret
    exact ⟨rfl, hb05⟩
  · have HF1 := hide hfit
    clear hfit
    go_wp2_with fail
    refine (pack_bad n k1 l1 s1 A m ca _ t1 t2 HF1.out).mono ?_
    rintro e w2 ⟨z, rfl, hb2⟩
    go_wp2_with fail
    go_ret
    exact ⟨rfl, hb01.trans (hb2.mono hb01.size)⟩
end Go.Proofs.Ytmnhgpkbdiobkaa.BackW
