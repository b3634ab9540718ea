/- The walk of granarylaw1.PoolHolds: true, and nothing that was there is written. -/
import Derived.Test.YthaoiilghphbiaaDoorPoolFact
import Derived.Test.YthaoiilghphbiaaDoorPoolMore
import Derived.Test.YthaoiilghphbiaaDoorScript
import Derived.Test.YthaoiilghphbiaaDoorTold
set_option linter.unusedVariables false
namespace Go.Proofs.YthaoiilghphbiaaDoor.PoolW
open Go.RowKit HeapP HeapW I64 ToldW

attribute [local irreducible] swp el lt EB Hp flat zeros fcode PoolAt Few

set_option maxRecDepth 100000 in
set_option maxHeartbeats 8000000 in
theorem holds_law (w : World) (hE : ErrT w) (x0 : Int) (a0 : -9223372036854775808 ≤ x0) (b0 : x0 ≤ 9223372036854775807) (x1 : Int) (a1 : -9223372036854775808 ≤ x1) (b1 : x1 ≤ 9223372036854775807)
    (A2 : Option Addr) (n2 c2 : Nat) (X2 : Nat → Nat → Int) (hn2 : n2 ≤ c2) (hc2 : c2 ≤ maxLen) (hx2 : ∀ i j, -9223372036854775808 ≤ X2 i j ∧ X2 i j ≤ 9223372036854775807) (hr2 : RdS w A2 n2 2 (fun i j => .int .i64 (X2 i j))) :
    Calls Tryd.prog 6 #[.int .i64 x0, .int .i64 x1, .slice A2 n2 c2] w fun e w' => e = .returned (.bool true) ∧ Below w.heap.size w w' := by
  have hc2' : n2 ≤ 9223372036854775807 := Nat.le_trans hn2 hc2
  have HX := hide hx2
  have HE := hide hE
  clear hc2 hx2 hE
  go_enter Tryd.func6, Tryd.ntmps6
  go_wp2_with fail
  refine (poolFact_any _).mono ?_
  rintro e w1 ⟨rfl, hb1⟩
  by_cases hr : x0 < 1 ∨ 64 < x0 ∨ x1 < 0 ∨ x0 < x1
  · go_wp2_with fail
    refine (new_range x0 x1 _ hr).mono ?_
    rintro e w2 ⟨rfl, rfl⟩
    unfold errV
    go_wp2_with fail
    go_ret
    exact ⟨rfl, hb1⟩
  obtain ⟨n, rfl⟩ := Int.eq_ofNat_of_zero_le (show 0 ≤ x0 by omega)
  have hn : 0 < n ∧ n ≤ 64 := by omega
  have hs : 0 ≤ x1 ∧ x1 ≤ n := by omega
  clear hr
  go_wp2_with fail
  refine (new_ok n x1 hn.1 hn.2 hs.1 hs.2 (fun _ => False) _ (fun _ h => h.elim)).mono ?_
  rintro e w2 ⟨g, rfl, hp2, hb2⟩
  have hw2 := hb1.trans (hb2.mono hb1.size)
  have hsz := hb1.size
  obtain ⟨B, hB⟩ : ∃ B, B = w1.heap.size := ⟨_, rfl⟩
  rw [← hB] at hp2 hsz
  clear hb1 hb2 hB
  go_wp2_with fail
  go_loopw [10] (fun i wr' => ∃ (j : Nat) (st wear : List Int), i = .int .i64 j ∧ j ≤ n2 ∧ Few n wear j ∧ PoolAt wr' B (fun _ => False) g n x1 st wear ∧ Below w.heap.size w wr') (fun i _ => n2 - (intOf i).toNat)
  case atStart => exact ⟨0, _, _, rfl, by omega, few_zero n, hp2, hw2⟩
  case round =>
    clear hp2 hw2
    obtain ⟨j, st, wear, rfl, hj, hfew, hp, hb⟩ := hrel
    by_cases hlt : j < n2
    · obtain ⟨b, off, rfl, hbl, hcell⟩ := (hr2.below hb).at_ hlt
      have q0 := hcell 0 (by omega)
      have q1 := hcell 1 (by omega)
      rw [← Nat.add_assoc] at q0 q1
      rw [Nat.add_zero] at q0
      have v0 := HX.out j 0
      have v1 := HX.out j 1
      generalize X2 j 0 = y0 at q0 v0
      generalize X2 j 1 = y1 at q1 v1
      clear hcell
      have hbA : Below wr.heap.size wr (wr.alloc (.cells #[.int .i64 y0, .int .i64 y1] 50)) := (Below.refl _ _).alloc (Nat.le_refl _) _
      have hpA := hp.below hbA
      have hwA := hb.trans (hbA.mono hb.size)
      have hoA := Bk.new wr 50 #[.int .i64 y0, .int .i64 y1]
      have HFW := hide hfew
      have hlen := hp.lens
      have HL := hide (st_three hlen.1 hp.vals)
      have hl3 := HL.out
      clear hfew hbA hp hlen
      go_wp2_with fail
      refine (count_any B _ g n x1 st wear _ hpA).mono ?_
      rintro e w5 ⟨rfl, hb5⟩
      have hp5 := hpA.below hb5
      have ho5 := hoA.below hb5 hoA.lt
      have hw5 := hwA.trans (hb5.mono hwA.size)
      clear hpA hoA hwA hb5
      go_wp2_with fail
      refine (latched_any B _ g n x1 st wear _ hp5).mono ?_
      rintro e w6 ⟨rfl, hb6⟩
      have hp6 := hp5.below hb6
      have ho6 := ho5.below hb6 ho5.lt
      have hw6 := hw5.trans (hb6.mono hw5.size)
      have o0 := ho6.at_ (i := 0) (u := .int .i64 y0) rfl
      have o1 := ho6.at_ (i := 1) (u := .int .i64 y1) rfl
      have s0 : (((st.count 0 : Nat) : Int) == ((st.count 0 : Nat) : Int)) = true := by simp
      have s1 : (((st.count 1 : Nat) : Int) == ((st.count 1 : Nat) : Int)) = true := by simp
      have s2 : (((st.count 2 : Nat) : Int) == ((st.count 2 : Nat) : Int)) = true := by simp
      have hwear := few_any HFW.out y1.toNat
      clear hp5 ho5 hw5 hb6 ho6
      by_cases hlat : x1 < ((st.count 2 : Nat) : Int)
      · have hd : decide (x1 < ((st.count 2 : Nat) : Int)) = true := decide_eq_true hlat
        have HLT := hide hlat
        rw [hd]
        clear hlat
        by_cases k1 : y0 = 1
        · subst k1
          go_wp2_with fail
          refine (take_any B _ g n x1 st wear _ hp6).mono ?_
          rintro e w7 ⟨hk7, ⟨h, rfl, hp7⟩ | ⟨h, -⟩ | ⟨h, -⟩⟩
          · clear h
            have HF2 := hide (few_more HFW.out)
            have hw7 := hw6.trans (hk7.1.mono hsz)
            have hl7 := st_three hp7.lens.1 hp7.vals
            have t3 : (((((st).count 0 : Nat) : Int) + (((st).count 1 : Nat) : Int) + (((st).count 2 : Nat) : Int)) != (n : Int)) = false := by rw [hl7]; simp
            unfold errV
            clear hk7 hp6 q0 q1 o0 o1 hw6
            go_wp2_with fail
            refine (count_any B _ g n x1 st wear _ hp7).mono ?_
            rintro e w8 ⟨rfl, hb8⟩
            have hp8 := hp7.below hb8
            have hw8 := hw7.trans (hb8.mono hw7.size)
            clear hp7 hw7 hb8
            go_wp2_with fail
            refine (error_some 9 9 _ (HE.out.below hw8 (Nat.le_refl _)) true rfl).mono ?_
            rintro e w9 ⟨rfl, hb9⟩
            go_wp2_with fail
            go_roundw
            case rel => exact ⟨j + 1, _, _, by go_num, by omega, HF2.out, hp8.below hb9, hw8.trans (hb9.mono hw8.size)⟩
            case measure => simp [intOf]; omega
          · have := HLT.out; omega
          · have := HLT.out; omega
        have d1 : (y0 == 1) = false := by simpa using k1
        clear k1
        by_cases k2 : y0 = 2
        · subst k2
          go_wp2_with fail
          refine (give_any B _ g n x1 st wear y1 _ hp6 (fun _ h => h.elim) (by omega) (by omega)).mono ?_
          rintro e w7 ⟨hk7, ⟨h, -⟩ | ⟨c, hc, hc0, rfl, hp7⟩⟩
          · rw [fcode_latched HLT.out] at h; omega
          · rw [fcode_latched HLT.out] at hc
            subst hc
            clear hc0
            have HF2 := hide (few_more HFW.out)
            have hw7 := hw6.trans (hk7.1.mono hsz)
            have hl7 := st_three hp7.lens.1 hp7.vals
            have t3 : (((((st).count 0 : Nat) : Int) + (((st).count 1 : Nat) : Int) + (((st).count 2 : Nat) : Int)) != (n : Int)) = false := by rw [hl7]; simp
            unfold errV
            clear hk7 hp6 q0 q1 o0 o1 hw6
            go_wp2_with fail
            refine (count_any B _ g n x1 st wear _ hp7).mono ?_
            rintro e w8 ⟨rfl, hb8⟩
            have hp8 := hp7.below hb8
            have hw8 := hw7.trans (hb8.mono hw7.size)
            clear hp7 hw7 hb8
            go_wp2_with fail
            refine (error_some 9 9 _ (HE.out.below hw8 (Nat.le_refl _)) true rfl).mono ?_
            rintro e w9 ⟨rfl, hb9⟩
            go_wp2_with fail
            go_roundw
            case rel => exact ⟨j + 1, _, _, by go_num, by omega, HF2.out, hp8.below hb9, hw8.trans (hb9.mono hw8.size)⟩
            case measure => simp [intOf]; omega
        have d2 : (y0 == 2) = false := by simpa using k2
        clear k2
        go_wp2_with fail
        refine (retire_any B _ g n x1 st wear y1 _ hp6).mono ?_
        rintro e w7 ⟨hk7, ⟨h, -⟩ | ⟨c, hc, hc0, rfl, hp7⟩⟩
        · rw [fcode_latched HLT.out] at h; omega
        · rw [fcode_latched HLT.out] at hc
          subst hc
          clear hc0
          have HF2 := hide (few_more HFW.out)
          have hw7 := hw6.trans (hk7.1.mono hsz)
          have hl7 := st_three hp7.lens.1 hp7.vals
          have t3 : (((((st).count 0 : Nat) : Int) + (((st).count 1 : Nat) : Int) + (((st).count 2 : Nat) : Int)) != (n : Int)) = false := by rw [hl7]; simp
          unfold errV
          clear hk7 hp6 q0 q1 o0 o1 hw6
          go_wp2_with fail
          refine (count_any B _ g n x1 st wear _ hp7).mono ?_
          rintro e w8 ⟨rfl, hb8⟩
          have hp8 := hp7.below hb8
          have hw8 := hw7.trans (hb8.mono hw7.size)
          clear hp7 hw7 hb8
          go_wp2_with fail
          refine (error_some 9 9 _ (HE.out.below hw8 (Nat.le_refl _)) true rfl).mono ?_
          rintro e w9 ⟨rfl, hb9⟩
          go_wp2_with fail
          go_roundw
          case rel => exact ⟨j + 1, _, _, by go_num, by omega, HF2.out, hp8.below hb9, hw8.trans (hb9.mono hw8.size)⟩
          case measure => simp [intOf]; omega
      · have hd : decide (x1 < ((st.count 2 : Nat) : Int)) = false := decide_eq_false hlat
        rw [hd]
        clear hlat
        by_cases k1 : y0 = 1
        · subst k1
          go_wp2_with fail
          refine (take_any B _ g n x1 st wear _ hp6).mono ?_
          rintro e w7 ⟨hk7, ⟨h, -⟩ | ⟨h, -, rfl, hp7⟩ | ⟨h, b', hbn, hb0, hmin, rfl, hp7⟩⟩
          · rw [decide_eq_true h] at hd; simp at hd
          · clear h
            have HF2 := hide (few_more HFW.out)
            have hw7 := hw6.trans (hk7.1.mono hsz)
            have hl7 := st_three hp7.lens.1 hp7.vals
            have t3 : (((((st).count 0 : Nat) : Int) + (((st).count 1 : Nat) : Int) + (((st).count 2 : Nat) : Int)) != (n : Int)) = false := by rw [hl7]; simp
            unfold errV
            clear hk7 hp6 q0 q1 o0 o1 hw6
            go_wp2_with fail
            refine (count_any B _ g n x1 st wear _ hp7).mono ?_
            rintro e w8 ⟨rfl, hb8⟩
            have hp8 := hp7.below hb8
            have hw8 := hw7.trans (hb8.mono hw7.size)
            clear hp7 hw7 hb8
            go_wp2_with fail
            go_roundw
            case rel => exact ⟨j + 1, _, _, by go_num, by omega, HF2.out, hp8, hw8⟩
            case measure => simp [intOf]; omega
          · clear h hb0 hmin
            have HF2 := hide (few_more HFW.out)
            have hw7 := hw6.trans (hk7.1.mono hsz)
            have hl7 := st_three hp7.lens.1 hp7.vals
            have t3 : ((((((st.set b' 1)).count 0 : Nat) : Int) + ((((st.set b' 1)).count 1 : Nat) : Int) + ((((st.set b' 1)).count 2 : Nat) : Int)) != (n : Int)) = false := by rw [hl7]; simp
            clear hk7 hp6 q0 q1 o0 o1 hw6
            go_wp2_with fail
            refine (count_any B _ g n x1 (st.set b' 1) wear _ hp7).mono ?_
            rintro e w8 ⟨rfl, hb8⟩
            have hp8 := hp7.below hb8
            have hw8 := hw7.trans (hb8.mono hw7.size)
            clear hp7 hw7 hb8
            go_wp2_with fail
            all_goals
              go_roundw
              case rel => exact ⟨j + 1, _, _, by go_num, by omega, HF2.out, hp8, hw8⟩
              case measure => simp [intOf]; omega
        have d1 : (y0 == 1) = false := by simpa using k1
        clear k1
        by_cases k2 : y0 = 2
        · subst k2
          go_wp2_with fail
          refine (give_any B _ g n x1 st wear y1 _ hp6 (fun _ h => h.elim) (by omega) (by omega)).mono ?_
          rintro e w7 ⟨hk7, ⟨h, rfl, hp7⟩ | ⟨c, hc, hc0, rfl, hp7⟩⟩
          · have hq := (fcode_zero h)
            have hqn : y1.toNat < n := by omega
            clear h hq
            have HF2 := hide (few_step HFW.out hqn)
            have hw7 := hw6.trans (hk7.1.mono hsz)
            have hl7 := st_three hp7.lens.1 hp7.vals
            have t3 : ((((((st.set y1.toNat 0)).count 0 : Nat) : Int) + ((((st.set y1.toNat 0)).count 1 : Nat) : Int) + ((((st.set y1.toNat 0)).count 2 : Nat) : Int)) != (n : Int)) = false := by rw [hl7]; simp
            clear hk7 hp6 q0 q1 o0 o1 hw6
            go_wp2_with fail
            refine (count_any B _ g n x1 (st.set y1.toNat 0) (wear.set y1.toNat (wear.getD y1.toNat 0 + 1)) _ hp7).mono ?_
            rintro e w8 ⟨rfl, hb8⟩
            have hp8 := hp7.below hb8
            have hw8 := hw7.trans (hb8.mono hw7.size)
            clear hp7 hw7 hb8
            go_wp2_with fail
            all_goals
              go_roundw
              case rel => exact ⟨j + 1, _, _, by go_num, by omega, HF2.out, hp8, hw8⟩
              case measure => simp [intOf]; omega
          · clear hc hc0
            have HF2 := hide (few_more HFW.out)
            have hw7 := hw6.trans (hk7.1.mono hsz)
            have hl7 := st_three hp7.lens.1 hp7.vals
            have t3 : (((((st).count 0 : Nat) : Int) + (((st).count 1 : Nat) : Int) + (((st).count 2 : Nat) : Int)) != (n : Int)) = false := by rw [hl7]; simp
            unfold errV
            clear hk7 hp6 q0 q1 o0 o1 hw6
            go_wp2_with fail
            refine (count_any B _ g n x1 st wear _ hp7).mono ?_
            rintro e w8 ⟨rfl, hb8⟩
            have hp8 := hp7.below hb8
            have hw8 := hw7.trans (hb8.mono hw7.size)
            clear hp7 hw7 hb8
            go_wp2_with fail
            go_roundw
            case rel => exact ⟨j + 1, _, _, by go_num, by omega, HF2.out, hp8, hw8⟩
            case measure => simp [intOf]; omega
        have d2 : (y0 == 2) = false := by simpa using k2
        clear k2
        go_wp2_with fail
        refine (retire_any B _ g n x1 st wear y1 _ hp6).mono ?_
        rintro e w7 ⟨hk7, ⟨h, rfl, hp7⟩ | ⟨c, hc, hc0, rfl, hp7⟩⟩
        · clear h
          have HF2 := hide (few_more HFW.out)
          have hw7 := hw6.trans (hk7.1.mono hsz)
          have hl7 := st_three hp7.lens.1 hp7.vals
          have t3 : ((((((st.set y1.toNat 2)).count 0 : Nat) : Int) + ((((st.set y1.toNat 2)).count 1 : Nat) : Int) + ((((st.set y1.toNat 2)).count 2 : Nat) : Int)) != (n : Int)) = false := by rw [hl7]; simp
          clear hk7 hp6 q0 q1 o0 o1 hw6
          go_wp2_with fail
          refine (count_any B _ g n x1 (st.set y1.toNat 2) wear _ hp7).mono ?_
          rintro e w8 ⟨rfl, hb8⟩
          have hp8 := hp7.below hb8
          have hw8 := hw7.trans (hb8.mono hw7.size)
          clear hp7 hw7 hb8
          go_wp2_with fail
          all_goals
            go_roundw
            case rel => exact ⟨j + 1, _, _, by go_num, by omega, HF2.out, hp8, hw8⟩
            case measure => simp [intOf]; omega
        · clear hc hc0
          have HF2 := hide (few_more HFW.out)
          have hw7 := hw6.trans (hk7.1.mono hsz)
          have hl7 := st_three hp7.lens.1 hp7.vals
          have t3 : (((((st).count 0 : Nat) : Int) + (((st).count 1 : Nat) : Int) + (((st).count 2 : Nat) : Int)) != (n : Int)) = false := by rw [hl7]; simp
          unfold errV
          clear hk7 hp6 q0 q1 o0 o1 hw6
          go_wp2_with fail
          refine (count_any B _ g n x1 st wear _ hp7).mono ?_
          rintro e w8 ⟨rfl, hb8⟩
          have hp8 := hp7.below hb8
          have hw8 := hw7.trans (hb8.mono hw7.size)
          clear hp7 hw7 hb8
          go_wp2_with fail
          go_roundw
          case rel => exact ⟨j + 1, _, _, by go_num, by omega, HF2.out, hp8, hw8⟩
          case measure => simp [intOf]; omega
    · go_wp2_with fail
      go_ret
      exact ⟨rfl, hb⟩
end Go.Proofs.YthaoiilghphbiaaDoor.PoolW
