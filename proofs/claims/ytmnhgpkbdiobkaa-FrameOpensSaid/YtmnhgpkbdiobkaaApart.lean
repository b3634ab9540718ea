/- The walk of granarylaw1.FrameApart: true, and nothing that was there is written. -/
import Derived.Test.YtmnhgpkbdiobkaaFrameU
set_option linter.unusedVariables false
namespace Go.Proofs.Ytmnhgpkbdiobkaa.ApartW
open Go.RowKit PutW CrcW Fram Crc PackW FrameW

attribute [local irreducible] pack

theorem pack_any (n k lba seq : Int) (A : Option Addr) (a : List UInt8) (m c : Nat) (w : World) (h1 : -9223372036854775808 ≤ n) (h2 : n ≤ 9223372036854775807) (hm : m = a.length) (hr : Rd w A (u8v a)) :
    Calls Try.prog 14 #[.int .i64 n, frV k lba seq A m c] w fun e w' => ∃ v ev, e = .returned (.tuple #[v, ev]) ∧ Below w.heap.size w w' := by
  by_cases h : Fits n m k lba seq ∧ (m : Int) ≤ n - 21
  · obtain ⟨⟨o1, o2, o3, o4, o5, o6, o7, o8⟩, ho⟩ := h
    obtain ⟨n, rfl⟩ := Int.eq_ofNat_of_zero_le (show 0 ≤ n by omega)
    exact (pack_ok n k lba seq A a m c w (by omega) (by omega) o3 o4 o5 o6 o7 o8 hm (by omega) hr).mono fun e w' ⟨v, h1, _, h3⟩ => ⟨v, _, h1, h3⟩
  · exact (pack_bad n k lba seq A m c w h1 h2 h).mono fun e w' ⟨q, h1, h3⟩ => ⟨_, _, h1, h3⟩

set_option maxRecDepth 100000 in
set_option maxHeartbeats 2000000 in
theorem law (w : World) (n : Int) (t1 : -9223372036854775808 ≤ n) (t2 : n ≤ 9223372036854775807) (k1 l1 s1 : Int) (A : Option Addr) (a : List UInt8) (m ca : Nat) (hm : m = a.length) (ra : Rd w A (u8v a)) (k2 l2 s2 : Int) (B : Option Addr) (b : List UInt8) (q cb : Nat) (hq : q = b.length) (rb : Rd w B (u8v b)) :
    Calls Try.prog 4 #[.int .i64 n, frV k1 l1 s1 A m ca, frV k2 l2 s2 B q cb] w fun e w' => e = .returned (.bool true) ∧ Below w.heap.size w w' := by
  have hb0 : Below w.heap.size w ((w.alloc (.cells #[.int .i64 k1, .int .i64 l1, .int .i64 s1, .slice A m ca] 28)).alloc (.cells #[.int .i64 k2, .int .i64 l2, .int .i64 s2, .slice B q cb] 28)) := ((Below.refl _ _).alloc (Nat.le_refl _) _).alloc (by simp) _
  have hF : Bk ((w.alloc (.cells #[.int .i64 k1, .int .i64 l1, .int .i64 s1, .slice A m ca] 28)).alloc (.cells #[.int .i64 k2, .int .i64 l2, .int .i64 s2, .slice B q cb] 28)) w.heap.size 28 #[.int .i64 k1, .int .i64 l1, .int .i64 s1, .slice A m ca] := (Bk.new _ _ _).alloc _
  have hG : Bk ((w.alloc (.cells #[.int .i64 k1, .int .i64 l1, .int .i64 s1, .slice A m ca] 28)).alloc (.cells #[.int .i64 k2, .int .i64 l2, .int .i64 s2, .slice B q cb] 28)) (w.heap.size + 1) 28 #[.int .i64 k2, .int .i64 l2, .int .i64 s2, .slice B q cb] := by
    have := Bk.new (w.alloc (.cells #[.int .i64 k1, .int .i64 l1, .int .i64 s1, .slice A m ca] 28)) 28 #[.int .i64 k2, .int .i64 l2, .int .i64 s2, .slice B q cb]
    simpa using this
  have HM := hide hm
  have HQ := hide hq
  clear hm hq
  unfold frV
  go_enter Try.func4, Try.ntmps4
  go_wp2_with fail
  generalize (w.alloc (.cells #[.int .i64 k1, .int .i64 l1, .int .i64 s1, .slice A m ca] 28)).alloc (.cells #[.int .i64 k2, .int .i64 l2, .int .i64 s2, .slice B q cb] 28) = w0 at hb0 hF hG ⊢
  obtain ⟨f, hf⟩ : ∃ f, f = w.heap.size := ⟨_, rfl⟩
  obtain ⟨g, hg⟩ : ∃ g, g = w.heap.size + 1 := ⟨_, rfl⟩
  rw [← hf] at hF
  rw [← hg] at hG
  rw [← hg, ← hf]
  have hfl := hF.lt
  have hgl := hG.lt
  clear hf hg
  refine (frameFact_any w0).mono ?_
  rintro e w1 ⟨rfl, hb1⟩
  have hb01 := hb0.trans (hb1.mono hb0.size)
  have hF1 := hF.below hb1 hfl
  have hG1 := hG.below hb1 hgl
  clear hF hG
  have c0 := hF1.at_ (i := 0) (u := .int .i64 k1) rfl
  have c1 := hF1.at_ (i := 1) (u := .int .i64 l1) rfl
  have c2 := hF1.at_ (i := 2) (u := .int .i64 s1) rfl
  have c3 := hF1.at_ (i := 3) (u := .slice A m ca) rfl
  by_cases hfit : Fits n m k1 l1 s1 ∧ (m : Int) ≤ n - 21
  · by_cases hfit2 : Fits n q k2 l2 s2 ∧ (q : Int) ≤ n - 21
    · obtain ⟨⟨o1, o2, o3, o4, o5, o6, o7, o8⟩, o9⟩ := hfit
      obtain ⟨⟨-, -, p3, p4, p5, p6, p7, p8⟩, p9⟩ := hfit2
      obtain ⟨n, rfl⟩ := Int.eq_ofNat_of_zero_le (show 0 ≤ n by omega)
      go_wp2_with fail
      refine (pack_ok n k1 l1 s1 A a m ca _ (by omega) (by omega) o3 o4 o5 o6 o7 o8 HM.out (by omega) (ra.below hb01)).mono ?_
      rintro e w2 ⟨v, rfl, ho, hb2⟩
      obtain ⟨A1, e1, rfl, he1, -, hr1, -, -⟩ := own_form ho
      clear ho c0 c1 c2 c3
      have hb02 := hb01.trans (hb2.mono hb01.size)
      have hF2 := hF1.below hb2 hF1.lt
      have hG2 := hG1.below hb2 hG1.lt
      have c0 := hG2.at_ (i := 0) (u := .int .i64 k2) rfl
      have c1 := hG2.at_ (i := 1) (u := .int .i64 l2) rfl
      have c2 := hG2.at_ (i := 2) (u := .int .i64 s2) rfl
      have c3 := hG2.at_ (i := 3) (u := .slice B q cb) rfl
      go_wp2_with fail
      refine (pack_ok n k2 l2 s2 B b q cb _ (by omega) (by omega) p3 p4 p5 p6 p7 p8 HQ.out (by omega) (rb.below hb02)).mono ?_
      rintro e w3 ⟨v, rfl, ho, hb3⟩
      obtain ⟨A2, e2, rfl, he2, -, hr2, -, -⟩ := own_form ho
      clear ho c0 c1 c2 c3
      have hb03 := hb02.trans (hb3.mono hb02.size)
      have hF3 := hF2.below hb3 hF2.lt
      have hG3 := hG2.below hb3 hG2.lt
      have hr13 := hr1.below hb3
      have c0 := hG3.at_ (i := 0) (u := .int .i64 k2) rfl
      have c1 := hG3.at_ (i := 1) (u := .int .i64 l2) rfl
      have c2 := hG3.at_ (i := 2) (u := .int .i64 s2) rfl
      have c3 := hG3.at_ (i := 3) (u := .slice B q cb) rfl
      have d0 := hF3.at_ (i := 0) (u := .int .i64 k1) rfl
      have d1 := hF3.at_ (i := 1) (u := .int .i64 l1) rfl
      have d2 := hF3.at_ (i := 2) (u := .int .i64 s1) rfl
      have d3 := hF3.at_ (i := 3) (u := .slice A m ca) rfl
      have P1 := hide (pack_length n k1.toNat l1.toNat s1.toNat a (by rw [← HM.out]; omega)).symm
      have P2 := hide (pack_length n k2.toNat l2.toNat s2.toNat b (by rw [← HQ.out]; omega)).symm
      have hsame : decide (k1 = k2 ∧ l1 = l2 ∧ s1 = s2 ∧ a = b) = decide (pack n k1.toNat l1.toNat s1.toNat a = pack n k2.toNat l2.toNat s2.toNat b) := by
        rw [decide_eq_decide]
        constructor
        · rintro ⟨rfl, rfl, rfl, rfl⟩; rfl
        · intro h
          have := pack_inj (by omega) (by omega) (by omega) (by omega) (by omega) (by omega) (by rw [← HM.out]; omega) (by rw [← HQ.out]; omega) h
          obtain ⟨h1, h2, h3, h4⟩ := this
          exact ⟨by omega, by omega, by omega, h4⟩
      go_wp2_with fail
      refine (frames_any k1 l1 s1 k2 l2 s2 A B a b m q ca cb _ HM.out HQ.out (by omega) (ra.below hb03) (rb.below hb03) _ rfl).mono ?_
      rw [hsame]
      clear hsame
      rintro e w4 ⟨rfl, hb4⟩
      have hb04 := hb03.trans (hb4.mono hb03.size)
      generalize hr : decide (pack n k1.toNat l1.toNat s1.toNat a = pack n k2.toNat l2.toNat s2.toNat b) = r
      have HR := hide hr.symm
      clear hr c0 c1 c2 c3 d0 d1 d2 d3
      go_wp2_with fail
      refine (same_any A1 A2 _ _ n n e1 e2 _ P1.out P2.out (by omega) (hr13.below hb4) (hr2.below hb4) r HR.out).mono ?_
      rintro e w' ⟨rfl, d, rfl⟩
      cases r
      all_goals
        go_wp2_with fail
        go_ret
        exact ⟨rfl, below_drewN hb04 d⟩
    · obtain ⟨⟨o1, o2, o3, o4, o5, o6, o7, o8⟩, o9⟩ := hfit
      obtain ⟨n, rfl⟩ := Int.eq_ofNat_of_zero_le (show 0 ≤ n by omega)
      have HF2 := hide hfit2
      clear hfit2
      go_wp2_with fail
      refine (pack_ok n k1 l1 s1 A a m ca _ (by omega) (by omega) o3 o4 o5 o6 o7 o8 HM.out (by omega) (ra.below hb01)).mono ?_
      rintro e w2 ⟨v, rfl, ho, hb2⟩
      clear ho c0 c1 c2 c3
      have hb02 := hb01.trans (hb2.mono hb01.size)
      have hG2 := hG1.below hb2 hG1.lt
      have c0 := hG2.at_ (i := 0) (u := .int .i64 k2) rfl
      have c1 := hG2.at_ (i := 1) (u := .int .i64 l2) rfl
      have c2 := hG2.at_ (i := 2) (u := .int .i64 s2) rfl
      have c3 := hG2.at_ (i := 3) (u := .slice B q cb) rfl
      go_wp2_with fail
      refine (pack_bad n k2 l2 s2 B q cb _ t1 t2 HF2.out).mono ?_
      rintro e w3 ⟨z, rfl, hb3⟩
      go_wp2_with fail
      go_ret
      exact ⟨rfl, hb02.trans (hb3.mono hb02.size)⟩
  · have HF1 := hide hfit
    clear hfit
    go_wp2_with fail
    refine (pack_bad n k1 l1 s1 A m ca _ t1 t2 HF1.out).mono ?_
    rintro e w2 ⟨z, rfl, hb2⟩
    clear c0 c1 c2 c3
    have hb02 := hb01.trans (hb2.mono hb01.size)
    have hG2 := hG1.below hb2 hG1.lt
    have c0 := hG2.at_ (i := 0) (u := .int .i64 k2) rfl
    have c1 := hG2.at_ (i := 1) (u := .int .i64 l2) rfl
    have c2 := hG2.at_ (i := 2) (u := .int .i64 s2) rfl
    have c3 := hG2.at_ (i := 3) (u := .slice B q cb) rfl
    go_wp2_with fail
    refine (pack_any n k2 l2 s2 B b q cb _ t1 t2 HQ.out (rb.below hb02)).mono ?_
    rintro e w3 ⟨v, ev, rfl, hb3⟩
    go_wp2_with fail
    go_ret
    exact ⟨rfl, hb02.trans (hb3.mono hb02.size)⟩
end Go.Proofs.Ytmnhgpkbdiobkaa.ApartW
