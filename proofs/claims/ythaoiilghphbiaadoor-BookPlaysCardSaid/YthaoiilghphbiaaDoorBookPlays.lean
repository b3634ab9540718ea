/- The walk of granarylaw1.BookPlays: true, and nothing that was there is written. -/
import Derived.Test.YthaoiilghphbiaaDoorBookStep
set_option linter.unusedVariables false
namespace Go.Proofs.YthaoiilghphbiaaDoor.BookW
open Go.RowKit FenP BookP ToldW

attribute [local irreducible] lb fillA setCode afterSet

set_option maxRecDepth 100000 in
set_option maxHeartbeats 4000000 in
theorem plays_law (w : World) (hE : ErrT w) (x0 : Int) (a0 : -9223372036854775808 ≤ x0) (b0 : x0 ≤ 9223372036854775807) (x1 : Int) (a1 : -9223372036854775808 ≤ x1) (b1 : x1 ≤ 9223372036854775807)
    (A2 : Option Addr) (n2 c2 : Nat) (X2 : Nat → Nat → Int) (hn2 : n2 ≤ c2) (hc2 : c2 ≤ maxLen) (hx2 : ∀ i j, -9223372036854775808 ≤ X2 i j ∧ X2 i j ≤ 9223372036854775807) (hr2 : RdS w A2 n2 3 (fun i j => .int .i64 (X2 i j))) :
    Calls Tryd.prog 4 #[.int .i64 x0, .int .i64 x1, .slice A2 n2 c2] w fun e w' => e = .returned (.bool true) ∧ Below w.heap.size w w' := by
  have hc2' : n2 ≤ 9223372036854775807 := Nat.le_trans hn2 hc2
  have HE := hide hE
  have HX := hide hx2
  clear hc2 hE hx2
  by_cases hrange : x0 < 1 ∨ 256 < x0 ∨ x1 < 1 ∨ 4096 < x1
  · go_enter Tryd.func4, Tryd.ntmps4
    go_wp2_with fail
    refine (new_range x0 x1 _ hrange).mono ?_
    rintro e w' ⟨rfl, rfl⟩
    go_wp2_with fail
    refine (fault_range x0 x1 _ hrange).mono ?_
    rintro e w' ⟨rfl, rfl⟩
    go_wp2_with fail
    refine (error_some 1 1 _ HE.out true rfl).mono ?_
    rintro e w' ⟨rfl, hb⟩
    go_wp2_with fail
    go_ret
    exact ⟨rfl, hb⟩
  obtain ⟨n, rfl⟩ := Int.eq_ofNat_of_zero_le (show 0 ≤ x0 by omega)
  obtain ⟨m, rfl⟩ := Int.eq_ofNat_of_zero_le (show 0 ≤ x1 by omega)
  have hn : 0 < n ∧ n ≤ 256 := by omega
  have hm : 0 < m ∧ m ≤ 4096 := by omega
  clear hrange
  go_enter Tryd.func4, Tryd.ntmps4
  go_wp2_with fail
  refine (new_ok n m hn.1 hn.2 hm.1 hm.2 _).mono ?_
  rintro e w1 ⟨g, rfl, hbk1, hb1⟩
  go_wp2_with fail
  refine (fault_ok n m hn.1 hn.2 hm.1 hm.2 _).mono ?_
  rintro e w' ⟨rfl, rfl⟩
  go_wp2_with fail
  refine (error_nil 0 _ true rfl).mono ?_
  rintro e w2 ⟨rfl, hb2⟩
  obtain ⟨T, hT⟩ : ∃ T, T = w1.heap.size := ⟨_, rfl⟩
  rw [← hT] at hbk1
  have hbk2 := hbk1.below hb2 (Nat.le_refl _)
  have hT2 : T ≤ w2.heap.size := by rw [hT]; exact hb2.size
  have hw2 := hb1.trans (hb2.mono hb1.size)
  clear hT hbk1 hb1 hb2
  go_wp2_with fail
  refine (newBook_any n m hn.1 hn.2 hm.2 _).mono ?_
  rintro e w3 ⟨r, rfl, hrf3, hb3⟩
  obtain ⟨B', hB'⟩ : ∃ B', B' = w2.heap.size := ⟨_, rfl⟩
  obtain ⟨T', hT'⟩ : ∃ T', T' = w3.heap.size := ⟨_, rfl⟩
  have hboth : Both w3 w.heap.size T B' T' g r n m (List.replicate n (-1)) := by
    refine ⟨hbk2.below hb3 (Nat.le_refl _), ?_, by omega, by omega⟩
    rw [hB', hT']
    exact hrf3
  have hw3 := hw2.trans (hb3.mono hw2.size)
  clear hB' hT' hbk2 hrf3 hb3 hw2 hT2
  go_wp2_with fail
  go_loopw [12] (fun i wr => ∃ (k : Nat) (at' : List Int), i = .int .i64 k ∧ k ≤ n2 ∧ Both wr w.heap.size T B' T' g r n m at' ∧ Below w.heap.size w wr) (fun i _ => n2 - (intOf i).toNat)
  case atStart => exact ⟨0, _, rfl, by omega, hboth, hw3⟩
  case round =>
    clear hboth hw3
    obtain ⟨k, at', rfl, hk, hbo, hb⟩ := hrel
    by_cases hlt : k < n2
    · obtain ⟨b, off, rfl, hbl, hcell⟩ := (hr2.below hb).at_ hlt
      have q0 := hcell 0 (by omega)
      have q1 := hcell 1 (by omega)
      have q2 := hcell 2 (by omega)
      rw [← Nat.add_assoc] at q0 q1 q2
      rw [Nat.add_zero] at q0
      have v0 := HX.out k 0
      have v1 := HX.out k 1
      have v2 := HX.out k 2
      generalize X2 k 0 = y0 at q0 v0
      generalize X2 k 1 = y1 at q1 v1
      generalize X2 k 2 = y2 at q2 v2
      clear hcell
      go_wp2_with fail
      refine (step_any w _ T B' T' g r n m at' y1 y2 y0 HE.out hb hbo v1.1 v1.2 v2.1 v2.2).mono ?_
      rintro e w4 ⟨rfl, ⟨at2, hbo4⟩, hb4⟩
      go_wp2_with fail
      go_roundw
      case rel => exact ⟨k + 1, at2, by go_num, by omega, hbo4, hb4⟩
      case measure => simp [intOf]; omega
    · obtain rfl : k = n2 := by omega
      go_wp2_with fail
      go_ret
      exact ⟨rfl, hb⟩
end Go.Proofs.YthaoiilghphbiaaDoor.BookW
