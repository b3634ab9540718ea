/- The walk of granarylaw1.SweepChooses. -/
import Derived.Test.YtndiionpijjdbaaDoorSweepPC
set_option linter.unusedVariables false
namespace Go.Proofs.YtndiionpijjdbaaDoor.SwW
open Go.RowKit I64 Stab ToldW

attribute [local irreducible] flt okB elig Srt ckey First flatB chooF levR LvO
set_option maxRecDepth 20000 in
set_option maxHeartbeats 8000000 in
theorem chooses_any (w : World) (hE : ErrT w) (A : Option Addr) (n c : Nat) (S : Nat → Blk) (hnc : n ≤ c) (hn : n * 24 ≤ 140737488351232) (hin : ∀ i, inB (S i)) (hr : RdB w A n S w.heap.size) (pages : Int) (hp1 : -9223372036854775808 ≤ pages) (hp2 : pages ≤ 9223372036854775807)
    (gap : Int) (hm1 : -9223372036854775808 ≤ gap) (hm2 : gap ≤ 9223372036854775807) :
    Calls Tryd.prog 4 #[.slice A n c, .int .i64 pages, .int .i64 gap] w fun e w' => e = .returned (.bool true) ∧ Below w.heap.size w w' := by
  have HR := hide hr
  have HE := hide hE
  have hn63 : n ≤ 9223372036854775807 := by omega
  clear hr hE
  go_enter Tryd.func4, Tryd.ntmps4
  go_wp2_with fail
  refine (both_any A n c S w.heap.size w HR.out (Nat.le_refl _) hn).mono ?_
  rintro e w1 ⟨D1, c1, rfl, hc1, ho1, hb1⟩
  have HRM := hide (rdB_own' ho1)
  have HB1 := hide hb1
  clear ho1 hb1
  go_wp2_with fail
  refine (choose_any D1 n c1 S w1.heap.size pages w1 HRM.out (Nat.le_refl _) hn63).mono ?_
  rintro e w2 ⟨hb2, h2⟩
  have HM2 := hide hb2
  have HB2 := hide (HB1.out.trans (hb2.mono HB1.out.size))
  clear hb2
  have HE2 := hide (HE.out.below HB2.out (Nat.le_refl _))
  have HR2 := hide (HR.out.below HB2.out (Nat.le_refl _))
  rcases h2 with ⟨h2, rfl⟩ | ⟨h2, Z, hp, hs, h⟩
  · obtain ⟨er, her⟩ : ∃ er, er = flt S n pages false := ⟨_, rfl⟩
    have HER := hide her
    have q1 : (er == 0) = false := by simpa [her] using h2
    have q1' : (er != 0) = true := by simpa [her] using h2
    rw [← her]
    clear h2 her
    unfold errR
    go_wp2_with fail
    refine (bfault_any A n c S w.heap.size pages false w2 HR2.out hn63).mono ?_
    rintro e w3 ⟨rfl, rfl⟩
    rw [← HER.out]
    go_wp2_with fail
    refine (error_some er er _ HE2.out true (by simp)).mono ?_
    rintro e w4 ⟨rfl, hb4⟩
    have HBW := hide (HB2.out.trans (hb4.mono HB2.out.size))
    have HMW := hide (HM2.out.trans (hb4.mono HM2.out.size))
    clear hb4
    have HRMW := hide (HRM.out.below HMW.out (Nat.le_refl _))
    clear HB2 HM2 HE2 HR2
    go_wp2_with fail
    refine (level_any D1 n c1 S w1.heap.size gap _ HRMW.out HMW.out.size hn63 hm1 hm2).mono ?_
    rintro e w5 ⟨hb5, h5⟩
    have HB5 := hide (HBW.out.trans (hb5.mono HBW.out.size))
    have HE5 := hide (HE.out.below HB5.out (Nat.le_refl _))
    have HR5 := hide (HR.out.below HB5.out (Nat.le_refl _))
    clear hb5 HBW HMW HRMW HRM
    rcases h5 with ⟨h5, rfl⟩ | ⟨h5, h⟩
    · obtain ⟨er, her⟩ : ∃ er, er = flt S n 4096 (decide (gap < 0)) := ⟨_, rfl⟩
      have HER := hide her
      have q5 : (er == 0) = false := by simpa [her] using h5
      have q5' : (er != 0) = true := by simpa [her] using h5
      rw [← her]
      clear h5 her
      unfold errR
      go_wp2_with fail
      refine (bfault_any A n c S w.heap.size 4096 (decide (gap < 0)) w5 HR5.out hn63).mono ?_
      rintro e w6 ⟨rfl, rfl⟩
      rw [← HER.out]
      go_wp2_with fail
      refine (error_some er er _ HE5.out true (by simp)).mono ?_
      rintro e w7 ⟨rfl, hb7⟩
      have HB7 := hide (HB5.out.trans (hb7.mono HB5.out.size))
      clear hb7
      go_wp2_with fail
      go_ret
      exact ⟨rfl, HB7.out⟩
    · have HF5 := hide h5
      have HWR : Hid (∀ i, i < n → 0 ≤ (S i).wr ∧ (S i).wr ≤ 1000000000) := hide (fun i hi => by have := (flt_zero HF5.out).2.2.2.2 i hi; unfold okB at this; omega)
      clear h5
      rcases h with ⟨hl, rfl⟩ | ⟨hl, rfl⟩
      · have HL := hide hl
        clear hl
        unfold errR
        go_wp2_with fail
        refine (bfault_any A n c S w.heap.size 4096 (decide (gap < 0)) w5 HR5.out hn63).mono ?_
        rintro e w6 ⟨rfl, rfl⟩
        rw [HF5.out]
        go_wp2_with fail
        refine (levelOf_any A n c S w.heap.size gap w5 HR5.out hn63 HWR.out).mono ?_
        rintro e w6 ⟨r, rfl, hlv, d, rfl⟩
        obtain rfl : r = -1 := by
          rcases lvO_lev (fun i hi => (HWR.out i hi).1) hlv with ⟨-, h⟩ | ⟨h, -⟩
          · exact h
          · have := HL.out; omega
        have HE6 : Hid (ErrT (w5.drewN d)) := hide HE5.out
        have HB6 := hide (below_drewN HB5.out d)
        clear hlv
        go_wp2_with fail
        refine (error_some 4 4 _ HE6.out true (by simp)).mono ?_
        rintro e w7 ⟨rfl, hb7⟩
        have HB7 := hide (HB6.out.trans (hb7.mono HB6.out.size))
        clear hb7
        go_wp2_with fail
        go_ret
        exact ⟨rfl, HB7.out⟩
      · have HL := hide hl
        obtain ⟨lr, hlr⟩ : ∃ lr, lr = levR S n gap := ⟨_, rfl⟩
        have HLR := hide hlr
        rw [← hlr]
        clear hl hlr
        go_wp2_with fail
        refine (bfault_any A n c S w.heap.size 4096 (decide (gap < 0)) w5 HR5.out hn63).mono ?_
        rintro e w6 ⟨rfl, rfl⟩
        rw [HF5.out]
        go_wp2_with fail
        refine (levelOf_any A n c S w.heap.size gap w5 HR5.out hn63 HWR.out).mono ?_
        rintro e w6 ⟨r, rfl, hlv, d, rfl⟩
        obtain rfl : r = lr := by
          rcases lvO_lev (fun i hi => (HWR.out i hi).1) hlv with ⟨h, -⟩ | ⟨-, h⟩
          · have := HL.out; omega
          · rw [h, HLR.out]
        have q6 : decide (r < 0) = false := decide_eq_false (by have := HL.out; rw [← HLR.out] at this; omega)
        have HB6 := hide (below_drewN HB5.out d)
        clear hlv
        go_wp2_with fail
        refine (error_nil 0 _ true rfl).mono ?_
        rintro e w7 ⟨rfl, hb7⟩
        have HB7 := hide (HB6.out.trans (hb7.mono HB6.out.size))
        clear hb7
        go_wp2_with fail
        go_ret
        exact ⟨rfl, HB7.out⟩
  · have HF := hide h2
    have HOK : Hid (∀ i, i < n → (S i).lv ≤ pages) := hide (fun i hi => by have := (flt_zero HF.out).2.2.2.2 i hi; unfold okB at this; exact this.2.1)
    have HCF := hide (chooF_first HOK.out n (Nat.le_refl _))
    clear h2
    rcases h with ⟨rfl, rfl⟩ | ⟨z, Z', rfl, rfl⟩
    · have HNO : Hid (chooF S pages n < 0) := hide (by
        rcases HCF.out with ⟨h, -⟩ | ⟨-, h⟩
        · exact h
        · exact absurd h (first_not hp))
      clear hp hs
      unfold errR
      go_wp2_with fail
      refine (bfault_any A n c S w.heap.size pages false w2 HR2.out hn63).mono ?_
      rintro e w3 ⟨rfl, rfl⟩
      rw [HF.out]
      go_wp2_with fail
      refine (chooseOf_any A n c S w.heap.size pages w2 HR2.out hn63).mono ?_
      rintro e w3 ⟨rfl, d, rfl⟩
      obtain ⟨r, hr⟩ : ∃ r, r = chooF S pages n := ⟨_, rfl⟩
      have q2 : decide (r < 0) = true := decide_eq_true (by rw [hr]; exact HNO.out)
      have HE3 : Hid (ErrT (w2.drewN d)) := hide HE2.out
      have HB3 := hide (below_drewN HB2.out d)
      have HM3 := hide (below_drewN HM2.out d)
      rw [← hr]
      clear hr
      go_wp2_with fail
      refine (error_some 4 4 _ HE3.out true (by simp)).mono ?_
      rintro e w4 ⟨rfl, hb4⟩
      have HBW := hide (HB3.out.trans (hb4.mono HB3.out.size))
      have HMW := hide (HM3.out.trans (hb4.mono HM3.out.size))
      clear hb4
      have HRMW := hide (HRM.out.below HMW.out (Nat.le_refl _))
      clear HB2 HM2 HE2 HR2
      go_wp2_with fail
      refine (level_any D1 n c1 S w1.heap.size gap _ HRMW.out HMW.out.size hn63 hm1 hm2).mono ?_
      rintro e w5 ⟨hb5, h5⟩
      have HB5 := hide (HBW.out.trans (hb5.mono HBW.out.size))
      have HE5 := hide (HE.out.below HB5.out (Nat.le_refl _))
      have HR5 := hide (HR.out.below HB5.out (Nat.le_refl _))
      clear hb5 HBW HMW HRMW HRM
      rcases h5 with ⟨h5, rfl⟩ | ⟨h5, h⟩
      · obtain ⟨er, her⟩ : ∃ er, er = flt S n 4096 (decide (gap < 0)) := ⟨_, rfl⟩
        have HER := hide her
        have q5 : (er == 0) = false := by simpa [her] using h5
        have q5' : (er != 0) = true := by simpa [her] using h5
        rw [← her]
        clear h5 her
        unfold errR
        go_wp2_with fail
        refine (bfault_any A n c S w.heap.size 4096 (decide (gap < 0)) w5 HR5.out hn63).mono ?_
        rintro e w6 ⟨rfl, rfl⟩
        rw [← HER.out]
        go_wp2_with fail
        refine (error_some er er _ HE5.out true (by simp)).mono ?_
        rintro e w7 ⟨rfl, hb7⟩
        have HB7 := hide (HB5.out.trans (hb7.mono HB5.out.size))
        clear hb7
        go_wp2_with fail
        go_ret
        exact ⟨rfl, HB7.out⟩
      · have HF5 := hide h5
        have HWR : Hid (∀ i, i < n → 0 ≤ (S i).wr ∧ (S i).wr ≤ 1000000000) := hide (fun i hi => by have := (flt_zero HF5.out).2.2.2.2 i hi; unfold okB at this; omega)
        clear h5
        rcases h with ⟨hl, rfl⟩ | ⟨hl, rfl⟩
        · have HL := hide hl
          clear hl
          unfold errR
          go_wp2_with fail
          refine (bfault_any A n c S w.heap.size 4096 (decide (gap < 0)) w5 HR5.out hn63).mono ?_
          rintro e w6 ⟨rfl, rfl⟩
          rw [HF5.out]
          go_wp2_with fail
          refine (levelOf_any A n c S w.heap.size gap w5 HR5.out hn63 HWR.out).mono ?_
          rintro e w6 ⟨r, rfl, hlv, d, rfl⟩
          obtain rfl : r = -1 := by
            rcases lvO_lev (fun i hi => (HWR.out i hi).1) hlv with ⟨-, h⟩ | ⟨h, -⟩
            · exact h
            · have := HL.out; omega
          have HE6 : Hid (ErrT (w5.drewN d)) := hide HE5.out
          have HB6 := hide (below_drewN HB5.out d)
          clear hlv
          go_wp2_with fail
          refine (error_some 4 4 _ HE6.out true (by simp)).mono ?_
          rintro e w7 ⟨rfl, hb7⟩
          have HB7 := hide (HB6.out.trans (hb7.mono HB6.out.size))
          clear hb7
          go_wp2_with fail
          go_ret
          exact ⟨rfl, HB7.out⟩
        · have HL := hide hl
          obtain ⟨lr, hlr⟩ : ∃ lr, lr = levR S n gap := ⟨_, rfl⟩
          have HLR := hide hlr
          rw [← hlr]
          clear hl hlr
          go_wp2_with fail
          refine (bfault_any A n c S w.heap.size 4096 (decide (gap < 0)) w5 HR5.out hn63).mono ?_
          rintro e w6 ⟨rfl, rfl⟩
          rw [HF5.out]
          go_wp2_with fail
          refine (levelOf_any A n c S w.heap.size gap w5 HR5.out hn63 HWR.out).mono ?_
          rintro e w6 ⟨r, rfl, hlv, d, rfl⟩
          obtain rfl : r = lr := by
            rcases lvO_lev (fun i hi => (HWR.out i hi).1) hlv with ⟨h, -⟩ | ⟨-, h⟩
            · have := HL.out; omega
            · rw [h, HLR.out]
          have q6 : decide (r < 0) = false := decide_eq_false (by have := HL.out; rw [← HLR.out] at this; omega)
          have HB6 := hide (below_drewN HB5.out d)
          clear hlv
          go_wp2_with fail
          refine (error_nil 0 _ true rfl).mono ?_
          rintro e w7 ⟨rfl, hb7⟩
          have HB7 := hide (HB6.out.trans (hb7.mono HB6.out.size))
          clear hb7
          go_wp2_with fail
          go_ret
          exact ⟨rfl, HB7.out⟩
    · have HIS : Hid (chooF S pages n = z) := hide (by
        rcases HCF.out with ⟨-, h⟩ | ⟨-, h⟩
        · have := hp.mem_iff.1 (List.mem_cons_self ..)
          rw [h] at this
          cases this
        · exact first_one h (first_head hp hs))
      have HZ0 : Hid (0 ≤ z) := hide (by
        obtain ⟨i, rfl, -⟩ := elig_mem.1 (hp.mem_iff.1 (List.mem_cons_self ..))
        omega)
      clear hp hs
      go_wp2_with fail
      refine (bfault_any A n c S w.heap.size pages false w2 HR2.out hn63).mono ?_
      rintro e w3 ⟨rfl, rfl⟩
      rw [HF.out]
      go_wp2_with fail
      refine (chooseOf_any A n c S w.heap.size pages w2 HR2.out hn63).mono ?_
      rintro e w3 ⟨rfl, d, rfl⟩
      rw [HIS.out]
      have q2 : decide (z < 0) = false := decide_eq_false (by have := HZ0.out; omega)
      have q3 : (z != z) = false := by simp
      have HB3 := hide (below_drewN HB2.out d)
      have HM3 := hide (below_drewN HM2.out d)
      go_wp2_with fail
      refine (error_nil 0 _ true rfl).mono ?_
      rintro e w4 ⟨rfl, hb4⟩
      have HBW := hide (HB3.out.trans (hb4.mono HB3.out.size))
      have HMW := hide (HM3.out.trans (hb4.mono HM3.out.size))
      clear hb4
      have HRMW := hide (HRM.out.below HMW.out (Nat.le_refl _))
      clear HB2 HM2 HE2 HR2
      go_wp2_with fail
      refine (level_any D1 n c1 S w1.heap.size gap _ HRMW.out HMW.out.size hn63 hm1 hm2).mono ?_
      rintro e w5 ⟨hb5, h5⟩
      have HB5 := hide (HBW.out.trans (hb5.mono HBW.out.size))
      have HE5 := hide (HE.out.below HB5.out (Nat.le_refl _))
      have HR5 := hide (HR.out.below HB5.out (Nat.le_refl _))
      clear hb5 HBW HMW HRMW HRM
      rcases h5 with ⟨h5, rfl⟩ | ⟨h5, h⟩
      · obtain ⟨er, her⟩ : ∃ er, er = flt S n 4096 (decide (gap < 0)) := ⟨_, rfl⟩
        have HER := hide her
        have q5 : (er == 0) = false := by simpa [her] using h5
        have q5' : (er != 0) = true := by simpa [her] using h5
        rw [← her]
        clear h5 her
        unfold errR
        go_wp2_with fail
        refine (bfault_any A n c S w.heap.size 4096 (decide (gap < 0)) w5 HR5.out hn63).mono ?_
        rintro e w6 ⟨rfl, rfl⟩
        rw [← HER.out]
        go_wp2_with fail
        refine (error_some er er _ HE5.out true (by simp)).mono ?_
        rintro e w7 ⟨rfl, hb7⟩
        have HB7 := hide (HB5.out.trans (hb7.mono HB5.out.size))
        clear hb7
        go_wp2_with fail
        go_ret
        exact ⟨rfl, HB7.out⟩
      · have HF5 := hide h5
        have HWR : Hid (∀ i, i < n → 0 ≤ (S i).wr ∧ (S i).wr ≤ 1000000000) := hide (fun i hi => by have := (flt_zero HF5.out).2.2.2.2 i hi; unfold okB at this; omega)
        clear h5
        rcases h with ⟨hl, rfl⟩ | ⟨hl, rfl⟩
        · have HL := hide hl
          clear hl
          unfold errR
          go_wp2_with fail
          refine (bfault_any A n c S w.heap.size 4096 (decide (gap < 0)) w5 HR5.out hn63).mono ?_
          rintro e w6 ⟨rfl, rfl⟩
          rw [HF5.out]
          go_wp2_with fail
          refine (levelOf_any A n c S w.heap.size gap w5 HR5.out hn63 HWR.out).mono ?_
          rintro e w6 ⟨r, rfl, hlv, d, rfl⟩
          obtain rfl : r = -1 := by
            rcases lvO_lev (fun i hi => (HWR.out i hi).1) hlv with ⟨-, h⟩ | ⟨h, -⟩
            · exact h
            · have := HL.out; omega
          have HE6 : Hid (ErrT (w5.drewN d)) := hide HE5.out
          have HB6 := hide (below_drewN HB5.out d)
          clear hlv
          go_wp2_with fail
          refine (error_some 4 4 _ HE6.out true (by simp)).mono ?_
          rintro e w7 ⟨rfl, hb7⟩
          have HB7 := hide (HB6.out.trans (hb7.mono HB6.out.size))
          clear hb7
          go_wp2_with fail
          go_ret
          exact ⟨rfl, HB7.out⟩
        · have HL := hide hl
          obtain ⟨lr, hlr⟩ : ∃ lr, lr = levR S n gap := ⟨_, rfl⟩
          have HLR := hide hlr
          rw [← hlr]
          clear hl hlr
          go_wp2_with fail
          refine (bfault_any A n c S w.heap.size 4096 (decide (gap < 0)) w5 HR5.out hn63).mono ?_
          rintro e w6 ⟨rfl, rfl⟩
          rw [HF5.out]
          go_wp2_with fail
          refine (levelOf_any A n c S w.heap.size gap w5 HR5.out hn63 HWR.out).mono ?_
          rintro e w6 ⟨r, rfl, hlv, d, rfl⟩
          obtain rfl : r = lr := by
            rcases lvO_lev (fun i hi => (HWR.out i hi).1) hlv with ⟨h, -⟩ | ⟨-, h⟩
            · have := HL.out; omega
            · rw [h, HLR.out]
          have q6 : decide (r < 0) = false := decide_eq_false (by have := HL.out; rw [← HLR.out] at this; omega)
          have HB6 := hide (below_drewN HB5.out d)
          clear hlv
          go_wp2_with fail
          refine (error_nil 0 _ true rfl).mono ?_
          rintro e w7 ⟨rfl, hb7⟩
          have HB7 := hide (HB6.out.trans (hb7.mono HB6.out.size))
          clear hb7
          go_wp2_with fail
          go_ret
          exact ⟨rfl, HB7.out⟩
end Go.Proofs.YtndiionpijjdbaaDoor.SwW
