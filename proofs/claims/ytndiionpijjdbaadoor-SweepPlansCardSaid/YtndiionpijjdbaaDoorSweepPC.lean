/- The walks of granaryref1.Ints, granarylaw1.SweepPlans, SweepChooses. -/
import Derived.Test.YtndiionpijjdbaaDoorRefSwQ
import Derived.Test.YtndiionpijjdbaaDoorRefSwL
import Derived.Test.YtndiionpijjdbaaDoorBlkOpen
import Derived.Test.YtndiionpijjdbaaDoorTold
set_option linter.unusedVariables false
namespace Go.Proofs.YtndiionpijjdbaaDoor.SwW
open Go.RowKit I64 Stab ToldW

set_option maxRecDepth 20000 in
set_option maxHeartbeats 2000000 in
theorem ints_same (A B : Option Addr) (l : List Int) (n c c' : Nat) (w : World) (hl : n = l.length) (hA : Rd w A (i64v l)) (hB : Rd w B (i64v l)) (hn : n ≤ 9223372036854775807) :
    Calls Tryd.prog 10 #[.slice A n c, .slice B n c'] w fun e w' => e = .returned (.bool true) ∧ ∃ d, w' = w.drewN d := by
  have HA := hide hA
  have HB := hide hB
  have HL := hide hl
  clear hA hB hl
  go_enter Tryd.func10, Tryd.ntmps10
  go_wp2_with fail
  go_loopw [5] (fun i wr => ∃ k d : Nat, i = .int .i64 k ∧ k ≤ n ∧ wr = w.drewN d) (fun i _ => n - (intOf i).toNat)
  case atStart => exact ⟨0, 0, rfl, by omega, rfl⟩
  case round =>
    obtain ⟨k, d, rfl, hk, rfl⟩ := hrel
    by_cases hlt : k < n
    · have e1 : decide (k < n) = true := by simpa using hlt
      have e1' : decide ((k : Int) < (n : Int)) = true := by simp; omega
      have hki : (k : Int) < (n : Int) := by omega
      have hk0 : (0 : Int) ≤ (k : Int) := by omega
      obtain ⟨ba, oa, rfl, ca⟩ := HA.out.at_ (i := k) (by rw [i64v_length, ← HL.out]; exact hlt)
      obtain ⟨bb, ob, rfl, cb⟩ := HB.out.at_ (i := k) (by rw [i64v_length, ← HL.out]; exact hlt)
      obtain ⟨x, hx⟩ : ∃ x, x = l[k]'(by rw [← HL.out]; exact hlt) := ⟨_, rfl⟩
      have ca' : w.cell? ⟨ba, oa + k, none⟩ = some (.int .i64 x) := by rw [ca]; simp only [i64v, List.getElem_map]; rw [hx]
      have cb' : w.cell? ⟨bb, ob + k, none⟩ = some (.int .i64 x) := by rw [cb]; simp only [i64v, List.getElem_map]; rw [hx]
      have q : (x != x) = false := by simp
      clear ca cb hx
      go_wp2_with fail
      go_quiet (fail)
      go_wp2_with fail
      go_roundw
      case rel => exact ⟨k + 1, _, by go_num, by omega, rfl⟩
      case measure => simp [intOf]; omega
    · obtain rfl : k = n := by omega
      have e1 : decide (k < k) = false := by simp
      have e1' : decide ((k : Int) < (k : Int)) = false := by simp
      go_wp2_with fail
      go_ret
      exact ⟨rfl, d, rfl⟩

theorem rdB_own' {w : World} {base n c : Nat} {D : Option Addr} {S : Nat → Blk} (h : w.ownsRow base 42 3 (.slice D n c) n (flatB S n)) : RdB w D n S w.heap.size := by
  intro i hi
  rcases h.2 with ⟨hv, hn⟩ | ⟨g, cap, cur, hv, hb, hg, hnc, hm, hs, ht⟩
  · omega
  · injection hv with hA
    subst hA
    refine ⟨g, 0, rfl, (Array.getElem?_eq_some_iff.1 hg).1, ?_, ?_, ?_⟩
    all_goals
      have hc : ∀ j u, j < 3 → [Value.bool (S i).u, .int .i64 (S i).lv, .int .i64 (S i).wr][j]? = some u → cur[i * 3 + j]? = some u := by
        intro j u hj hu
        have h1 := flatB_at S n i j hi u hu
        rw [← ht, List.getElem?_take, if_pos (by omega)] at h1
        simpa using h1
    · rw [cell_of_row w g _ cur _ _ hg]; simpa using hc 0 _ (by omega) rfl
    · rw [cell_of_row w g _ cur _ _ hg]; simpa using hc 1 _ (by omega) rfl
    · rw [cell_of_row w g _ cur _ _ hg]; simpa using hc 2 _ (by omega) rfl
/-- Two who both stop first at need stop at one place. -/
theorem stop_one {f : Nat → Int} {need : Int} {a b : Nat} (ha : need ≤ f a) (ha' : ∀ j, j < a → f j < need) (hb : need ≤ f b) (hb' : ∀ j, j < b → f j < need) : a = b := by
  rcases Nat.lt_trichotomy a b with h | h | h
  · have := hb' a h; omega
  · exact h
  · have := ha' b h; omega

attribute [local irreducible] flt okB elig Srt ckey First flatB chooF wonF useS
set_option maxRecDepth 20000 in
set_option maxHeartbeats 4000000 in
theorem plans_any (w : World) (hE : ErrT w) (A : Option Addr) (n c : Nat) (S : Nat → Blk) (hnc : n ≤ c) (hn : n * 24 ≤ 140737488351232) (hin : ∀ i, inB (S i)) (hr : RdB w A n S w.heap.size) (pages : Int) (hp1 : -9223372036854775808 ≤ pages) (hp2 : pages ≤ 9223372036854775807)
    (need : Int) (hm1 : -9223372036854775808 ≤ need) (hm2 : need ≤ 9223372036854775807) :
    Calls Tryd.prog 3 #[.slice A n c, .int .i64 pages, .int .i64 need] w fun e w' => e = .returned (.bool true) ∧ Below w.heap.size w w' := by
  have HR := hide hr
  have HE := hide hE
  have hn63 : n ≤ 9223372036854775807 := by omega
  clear hr hE
  go_enter Tryd.func3, Tryd.ntmps3
  go_wp2_with fail
  refine (both_any A n c S w.heap.size w HR.out (Nat.le_refl _) hn).mono ?_
  rintro e w1 ⟨D1, c1, rfl, hc1, ho1, hb1⟩
  have HRM := hide (rdB_own' ho1)
  have HB1 := hide hb1
  clear ho1 hb1
  go_wp2_with fail
  refine (plan_any D1 n c1 S w1.heap.size pages need w1 HRM.out (Nat.le_refl _) hn63).mono ?_
  rintro e w2 ⟨hb2, h2⟩
  have HB2 := hide (HB1.out.trans (hb2.mono HB1.out.size))
  have HE2 := hide (HE.out.below HB2.out (Nat.le_refl _))
  have HR2 := hide (HR.out.below HB2.out (Nat.le_refl _))
  clear hb2
  rcases h2 with ⟨h2, rfl⟩ | ⟨h2, Z, hp, hs, h⟩
  · obtain ⟨er, her⟩ : ∃ er, er = flt S n pages (decide (need < 0)) := ⟨_, rfl⟩
    have HER := hide her
    have q1 : (er == 0) = false := by simpa [her] using h2
    rw [← her]
    clear h2 her
    unfold errR
    go_wp2_with fail
    refine (bfault_any A n c S w.heap.size pages (decide (need < 0)) w2 HR2.out hn63).mono ?_
    rintro e w3 ⟨rfl, rfl⟩
    rw [← HER.out]
    go_wp2_with fail
    refine (error_some er er _ HE2.out true (by simp)).mono ?_
    rintro e w4 ⟨rfl, hb4⟩
    have HB4 := hide (HB2.out.trans (hb4.mono HB2.out.size))
    clear hb4
    go_wp2_with fail
    refine (ints_same none none [] 0 0 0 w4 rfl (Rd.nil _ _) (Rd.nil _ _) (by omega)).mono ?_
    rintro e w5 ⟨rfl, d, rfl⟩
    go_wp2_with fail
    go_ret
    exact ⟨rfl, below_drewN HB4.out _⟩
  · have HF := hide h2
    have HZ := hide hp
    have HS := hide hs
    have HW := hide h
    clear h2 hp hs
    rcases h with ⟨hall, rfl⟩ | ⟨k, A', c', hk, hnk, hlt, hkc, hrd, rfl⟩
    · have HALL := hide hall
      clear hall HW
      unfold errR
      go_wp2_with fail
      refine (bfault_any A n c S w.heap.size pages (decide (need < 0)) w2 HR2.out hn63).mono ?_
      rintro e w3 ⟨rfl, rfl⟩
      rw [HF.out]
      go_wp2_with fail
      refine (planOf_any A n c S w.heap.size pages need w2 HR2.out HB2.out.size hn HF.out Z HZ.out HS.out).mono ?_
      rintro e w4 ⟨h4, hb4⟩
      have HB4 := hide (HB2.out.trans (hb4.mono HB2.out.size))
      have HE4 := hide (HE.out.below HB4.out (Nat.le_refl _))
      clear hb4
      rcases h4 with ⟨-, rfl⟩ | ⟨k, A', c', hk, hnk, -⟩
      · go_wp2_with fail
        refine (error_some 4 4 _ HE4.out true (by simp)).mono ?_
        rintro e w5 ⟨rfl, hb5⟩
        have HB5 := hide (HB4.out.trans (hb5.mono HB4.out.size))
        clear hb5
        go_wp2_with fail
        refine (ints_same none none [] 0 0 0 w5 rfl (Rd.nil _ _) (Rd.nil _ _) (by omega)).mono ?_
        rintro e w6 ⟨rfl, d, rfl⟩
        go_wp2_with fail
        go_ret
        exact ⟨rfl, below_drewN HB5.out _⟩
      · exfalso
        have := HALL.out k hk
        omega
    · have HK := hide (And.intro hk (And.intro hnk hlt))
      have HRD := hide hrd
      clear hk hnk hlt hrd HW
      go_wp2_with fail
      refine (bfault_any A n c S w.heap.size pages (decide (need < 0)) w2 HR2.out hn63).mono ?_
      rintro e w3 ⟨rfl, rfl⟩
      rw [HF.out]
      go_wp2_with fail
      refine (planOf_any A n c S w.heap.size pages need w2 HR2.out HB2.out.size hn HF.out Z HZ.out HS.out).mono ?_
      rintro e w4 ⟨h4, hb4⟩
      have HB4 := hide (HB2.out.trans (hb4.mono HB2.out.size))
      have HRD4 := hide (HRD.out.below hb4)
      clear hb4
      rcases h4 with ⟨hall, -⟩ | ⟨k', A4, c4, hk', hnk', hlt', hkc', hrd', rfl⟩
      · exfalso
        have := hall k HK.out.1
        have := HK.out.2.1
        omega
      · obtain rfl : k = k' := stop_one HK.out.2.1 HK.out.2.2 hnk' hlt'
        have HRD5 := hide hrd'
        clear hk' hnk' hlt' hrd'
        go_wp2_with fail
        refine (error_nil 0 _ true rfl).mono ?_
        rintro e w5 ⟨rfl, hb5⟩
        have HB5 := hide (HB4.out.trans (hb5.mono HB4.out.size))
        have HX1 := hide (HRD4.out.below hb5)
        have HX2 := hide (HRD5.out.below hb5)
        have hk64 : k ≤ 64 := by
          have h1 := HK.out.1
          rw [HZ.out.length_eq] at h1
          exact Nat.le_trans h1 (Nat.le_trans (elig_len S pages n) (flt_zero HF.out).1)
        clear hb5
        go_wp2_with fail
        refine (ints_same A' A4 (Z.take k) k c' c4 w5 (by rw [List.length_take]; have := HK.out.1; omega) HX1.out HX2.out (by omega)).mono ?_
        rintro e w6 ⟨rfl, d, rfl⟩
        go_wp2_with fail
        go_ret
        exact ⟨rfl, below_drewN HB5.out _⟩
end Go.Proofs.YtndiionpijjdbaaDoor.SwW
