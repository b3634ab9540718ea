/- The walk of granarylaw1.SweepSame. -/
import Derived.Test.YtndiionpijjdbaaSweepS
import Derived.Test.YtndiionpijjdbaaBlkOpen
import Derived.Deep.QuietTactic
import Derived.BigQuiet
set_option linter.unusedVariables false
namespace Go.Proofs.Ytndiionpijjdbaa.SwW
open Go.RowKit I64 Stab

theorem wrap_in {x : Int} (h1 : -9223372036854775808 ≤ x) (h2 : x ≤ 9223372036854775807) : wrap64 x = x := by
  unfold wrap64
  omega
/-- All are worn by d more, as an int. -/
def upW (S : Nat → Blk) (d : Int) : Nat → Blk := fun i => { S i with wr := wrap64 ((S i).wr + d) }
theorem upW_more {S : Nat → Blk} {n : Nat} {d : Int} (hd : 0 ≤ d ∧ d < 1000) (hw : ∀ i, i < n → 0 ≤ (S i).wr ∧ (S i).wr ≤ 1000000000) : More S (upW S d) n d := fun i hi => ⟨rfl, rfl, wrap_in (by have := hw i hi; omega) (by have := hw i hi; omega)⟩
theorem flt_wr {S : Nat → Blk} {n : Nat} {pages : Int} (h : flt S n pages false = 0) : ∀ i, i < n → 0 ≤ (S i).wr ∧ (S i).wr ≤ 1000000000 := fun i hi => by
  have := (flt_zero h).2.2.2.2 i hi
  unfold okB at this
  omega
attribute [local irreducible] flt okB elig Srt ckey First upW flatB mostF leastF levR pickN
set_option maxRecDepth 20000 in
set_option maxHeartbeats 4000000 in
theorem same_any (w : World) (A : Option Addr) (n c : Nat) (S : Nat → Blk) (hnc : n ≤ c) (hn : n * 24 ≤ 140737488351232) (hin : ∀ i, inB (S i)) (hr : RdB w A n S w.heap.size) (pages : Int) (hp1 : -9223372036854775808 ≤ pages) (hp2 : pages ≤ 9223372036854775807)
    (more : Int) (hm1 : -9223372036854775808 ≤ more) (hm2 : more ≤ 9223372036854775807) :
    Calls Try.prog 3 #[.slice A n c, .int .i64 pages, .int .i64 more] w fun e w' => e = .returned (.bool true) ∧ Below w.heap.size w w' := by
  have HR := hide hr
  clear hr
  go_enter Try.func3, Try.ntmps3
  go_wp2_with fail
  refine (fact_choose _ w).mono ?_
  rintro e w1 ⟨rfl, hb1⟩
  have HB1 := hide hb1
  have HR1 := hide (HR.out.below hb1 (Nat.le_refl _))
  clear hb1
  go_wp2_with fail
  refine (both_any A n c S w.heap.size w1 HR1.out HB1.out.size hn).mono ?_
  rintro e w2 ⟨D1, c1, rfl, hc1, ho1, hb2⟩
  have HO1 := hide ho1
  have HB2 := hide (HB1.out.trans (hb2.mono HB1.out.size))
  have HR2 := hide (HR.out.below HB2.out (Nat.le_refl _))
  clear ho1 hb2
  go_wp2_with fail
  refine (both_any A n c S w.heap.size w2 HR2.out HB2.out.size hn).mono ?_
  rintro e w3 ⟨D2, c2, rfl, hc2, ho2, hb3⟩
  have HRM := hide ((rdB_own HO1.out).below hb3 (Nat.le_refl _))
  have HB3 := hide (HB2.out.trans (hb3.mono HB2.out.size))
  have HU : Hid (UpB w3 w2.heap.size n c2 D2 (upS S (upW S (pickN more 1000)) 0)) := hide (by rw [upS_zero]; exact ho2)
  have HSZ : Hid (w2.heap.size ≤ w3.heap.size) := hide hb3.size
  clear ho2 hb3
  go_wp2_with fail
  refine (pick_any more 1000 1000 rfl (by omega) (by omega) hm1 hm2 w3).mono ?_
  rintro e w4 ⟨rfl, rfl⟩
  have HD : Hid (0 ≤ (pickN more 1000 : Int) ∧ (pickN more 1000 : Int) < 1000) := hide ⟨by omega, by have := pickN_lt more 1000 (by omega); omega⟩
  obtain ⟨d, hd⟩ : ∃ d : Int, d = (pickN more 1000 : Int) := ⟨_, rfl⟩
  rw [← hd] at HD HU ⊢
  clear hd
  go_wp2_with fail
  go_loopw [12] (fun i wr => ∃ k : Nat, i = .int .i64 k ∧ k ≤ n ∧ Hid (UpB wr w2.heap.size n c2 D2 (upS S (upW S d) k)) ∧ Hid (Below w2.heap.size w3 wr)) (fun i _ => n - (intOf i).toNat)
  case atStart => exact ⟨0, rfl, by omega, HU, hide (Below.refl _ _)⟩
  case round =>
    obtain ⟨k, rfl, hk, HK, HB⟩ := hrel
    by_cases hlt : k < n
    · have e1 : decide (k < n) = true := by simpa using hlt
      have e1' : decide ((k : Int) < (n : Int)) = true := by simp; omega
      have hki : (k : Int) < (n : Int) := by omega
      have q0 : (0 : Int) ≤ (k : Int) := by omega
      obtain ⟨g, rfl, hg, fz, hc, hs⟩ := HK.out.step (z := wrap64 ((S k).wr + d)) hlt (by unfold upW; rfl)
      have HS := hide hs
      have HB' := hide (HB.out.setCell (p := ⟨g, k * 3 + 2, none⟩) hg (.int .i64 (wrap64 ((S k).wr + d))))
      clear hs
      go_wp2_with fail
      go_roundw
      case rel => exact ⟨k + 1, by go_num, by omega, HS, HB'⟩
      case measure => simp [intOf]; omega
    · obtain rfl : k = n := by omega
      have e1 : decide (k < k) = false := by simp
      have e1' : decide ((k : Int) < (k : Int)) = false := by simp
      have HS2 := hide (rdB_own (upS_all HK.out))
      have HRM2 := hide (HRM.out.below HB.out (Nat.le_refl _))
      have HBL := hide (HB3.out.trans (HB.out.mono HB2.out.size))
      have HZ2 := hide (Nat.le_trans HSZ.out HB.out.size)
      have hk63 : k ≤ 9223372036854775807 := by omega
      clear HU HK HR1 HR2 HO1
      go_wp2_with fail
      refine (chooseq D1 k c1 S w2.heap.size pages wr HRM2.out HZ2.out hk63).mono ?_
      rintro e w5 ⟨hb5, h5⟩
      have HB5 := hide hb5
      have HS5 := hide (HS2.out.below hb5 (Nat.le_refl _))
      clear hb5
      rcases h5 with ⟨k5, rfl, hk5, h5⟩ | ⟨z5, rfl, h5, z5f⟩
      · have HE5 := hide (And.intro hk5 h5)
        clear hk5 h5
        unfold errR
        go_wp2_with fail
        refine (chooseq D2 k c2 (upW S d) wr.heap.size pages w5 HS5.out HB5.out.size hk63).mono ?_
        rintro e w6 ⟨hb6, h6⟩
        have HB6 := hide hb6
        clear hb6
        rcases h6 with ⟨k6, rfl, hk6, h6⟩ | ⟨z6, rfl, h6, z6f⟩
        · have HE6 := hide (And.intro hk6 h6)
          clear hk6 h6
          unfold errR
          go_wp2_with fail
          have HBW := hide (HBL.out.trans ((HB5.out.mono HBL.out.size).trans (HB6.out.mono (Nat.le_trans HBL.out.size HB5.out.size))))
          have HR6 := hide (HR.out.below HBW.out (Nat.le_refl _))
          clear HB5 HB6 HS5 HS2 HRM2 HBL
          go_loopw [16] (fun i wq => ∃ j : Nat, i = .int .i64 j ∧ j ≤ k ∧ wq = w6 ∧ Hid (∀ q, q < j → 0 ≤ (S q).wr ∧ (S q).wr ≤ 1000000000 - d)) (fun i _ => k - (intOf i).toNat)
          case atStart => exact ⟨0, rfl, by omega, rfl, hide (fun q hq => absurd hq (Nat.not_lt_zero q))⟩
          case round =>
            obtain ⟨j, rfl, hj, rfl, HJ⟩ := hrel
            by_cases hlt2 : j < k
            · have f1 : decide (j < k) = true := by simpa using hlt2
              have f1' : decide ((j : Int) < (k : Int)) = true := by simp; omega
              have hjk : (j : Int) < (k : Int) := by omega
              have hj0 : (0 : Int) ≤ (j : Int) := by omega
              obtain ⟨bb, off, rfl, hbT, z0, z1, z2⟩ := HR6.out j hlt2
              obtain ⟨x, hx⟩ : ∃ x, x = (S j).wr := ⟨_, rfl⟩
              have HX := hide hx
              have hxb : -9223372036854775808 ≤ x ∧ x ≤ 9223372036854775807 := by rw [hx]; exact (hin j).2
              have hdd := HD.out
              rw [← hx] at z2
              clear hx z0 z1
              by_cases b1 : x < 0
              · have q1 : decide (x < 0) = true := decide_eq_true b1
                clear b1
                go_wp2_with fail
                go_ret
                exact ⟨rfl, HBW.out⟩
              · have q1 : decide (x < 0) = false := decide_eq_false b1
                by_cases b2 : 1000000000 - d < x
                · have q2 : decide (x > 1000000000 - d) = true := decide_eq_true b2
                  have q2' : decide (1000000000 - d < x) = true := decide_eq_true b2
                  clear b1 b2
                  go_wp2_with fail
                  go_ret
                  exact ⟨rfl, HBW.out⟩
                · have q2 : decide (x > 1000000000 - d) = false := decide_eq_false b2
                  have q2' : decide (1000000000 - d < x) = false := decide_eq_false b2
                  have HJ2 : Hid (∀ q, q < j + 1 → 0 ≤ (S q).wr ∧ (S q).wr ≤ 1000000000 - d) := hide (fun q hq => by
                    rcases Nat.lt_or_ge q j with h | h
                    · exact HJ.out q h
                    · rw [show q = j from by omega, ← HX.out]; omega)
                  clear b1 b2
                  go_wp2_with fail
                  go_roundw
                  case rel => exact ⟨j + 1, by go_num, by omega, trivial, HJ2⟩
                  case measure => simp [intOf]; omega
            · obtain rfl : j = k := by omega
              have f1 : decide (j < j) = false := by simp
              have f1' : decide ((j : Int) < (j : Int)) = false := by simp
              go_wp2_with fail
              go_ret
              exact ⟨rfl, HBW.out⟩
        · have HE6 := hide (And.intro h6 z6f)
          clear h6 z6f
          go_wp2_with fail
          have HBW := hide (HBL.out.trans ((HB5.out.mono HBL.out.size).trans (HB6.out.mono (Nat.le_trans HBL.out.size HB5.out.size))))
          have HR6 := hide (HR.out.below HBW.out (Nat.le_refl _))
          clear HB5 HB6 HS5 HS2 HRM2 HBL
          go_loopw [16] (fun i wq => ∃ j : Nat, i = .int .i64 j ∧ j ≤ k ∧ wq = w6 ∧ Hid (∀ q, q < j → 0 ≤ (S q).wr ∧ (S q).wr ≤ 1000000000 - d)) (fun i _ => k - (intOf i).toNat)
          case atStart => exact ⟨0, rfl, by omega, rfl, hide (fun q hq => absurd hq (Nat.not_lt_zero q))⟩
          case round =>
            obtain ⟨j, rfl, hj, rfl, HJ⟩ := hrel
            by_cases hlt2 : j < k
            · have f1 : decide (j < k) = true := by simpa using hlt2
              have f1' : decide ((j : Int) < (k : Int)) = true := by simp; omega
              have hjk : (j : Int) < (k : Int) := by omega
              have hj0 : (0 : Int) ≤ (j : Int) := by omega
              obtain ⟨bb, off, rfl, hbT, z0, z1, z2⟩ := HR6.out j hlt2
              obtain ⟨x, hx⟩ : ∃ x, x = (S j).wr := ⟨_, rfl⟩
              have HX := hide hx
              have hxb : -9223372036854775808 ≤ x ∧ x ≤ 9223372036854775807 := by rw [hx]; exact (hin j).2
              have hdd := HD.out
              rw [← hx] at z2
              clear hx z0 z1
              by_cases b1 : x < 0
              · have q1 : decide (x < 0) = true := decide_eq_true b1
                clear b1
                go_wp2_with fail
                go_ret
                exact ⟨rfl, HBW.out⟩
              · have q1 : decide (x < 0) = false := decide_eq_false b1
                by_cases b2 : 1000000000 - d < x
                · have q2 : decide (x > 1000000000 - d) = true := decide_eq_true b2
                  have q2' : decide (1000000000 - d < x) = true := decide_eq_true b2
                  clear b1 b2
                  go_wp2_with fail
                  go_ret
                  exact ⟨rfl, HBW.out⟩
                · have q2 : decide (x > 1000000000 - d) = false := decide_eq_false b2
                  have q2' : decide (1000000000 - d < x) = false := decide_eq_false b2
                  have HJ2 : Hid (∀ q, q < j + 1 → 0 ≤ (S q).wr ∧ (S q).wr ≤ 1000000000 - d) := hide (fun q hq => by
                    rcases Nat.lt_or_ge q j with h | h
                    · exact HJ.out q h
                    · rw [show q = j from by omega, ← HX.out]; omega)
                  clear b1 b2
                  go_wp2_with fail
                  go_roundw
                  case rel => exact ⟨j + 1, by go_num, by omega, trivial, HJ2⟩
                  case measure => simp [intOf]; omega
            · obtain rfl : j = k := by omega
              have f1 : decide (j < j) = false := by simp
              have f1' : decide ((j : Int) < (j : Int)) = false := by simp
              exfalso
              have hM : More S (upW S d) j d := upW_more HD.out (fun q hq => by have := HJ.out q hq; have := HD.out; omega)
              have hF := hM.flt HD.out.1 HJ.out pages false
              rcases HE5.out.2 with h | ⟨h, -, h'⟩
              · exact HE5.out.1 (by rw [← h, ← hF]; exact HE6.out.1)
              · have := HE6.out.2
                unfold First at this
                rw [hM.elig, h'] at this
                cases this.1
      · have HE5 := hide (And.intro h5 z5f)
        clear h5 z5f
        go_wp2_with fail
        refine (chooseq D2 k c2 (upW S d) wr.heap.size pages w5 HS5.out HB5.out.size hk63).mono ?_
        rintro e w6 ⟨hb6, h6⟩
        have HB6 := hide hb6
        clear hb6
        rcases h6 with ⟨k6, rfl, hk6, h6⟩ | ⟨z6, rfl, h6, z6f⟩
        · have HE6 := hide (And.intro hk6 h6)
          clear hk6 h6
          unfold errR
          go_wp2_with fail
          have HBW := hide (HBL.out.trans ((HB5.out.mono HBL.out.size).trans (HB6.out.mono (Nat.le_trans HBL.out.size HB5.out.size))))
          have HR6 := hide (HR.out.below HBW.out (Nat.le_refl _))
          clear HB5 HB6 HS5 HS2 HRM2 HBL
          go_loopw [16] (fun i wq => ∃ j : Nat, i = .int .i64 j ∧ j ≤ k ∧ wq = w6 ∧ Hid (∀ q, q < j → 0 ≤ (S q).wr ∧ (S q).wr ≤ 1000000000 - d)) (fun i _ => k - (intOf i).toNat)
          case atStart => exact ⟨0, rfl, by omega, rfl, hide (fun q hq => absurd hq (Nat.not_lt_zero q))⟩
          case round =>
            obtain ⟨j, rfl, hj, rfl, HJ⟩ := hrel
            by_cases hlt2 : j < k
            · have f1 : decide (j < k) = true := by simpa using hlt2
              have f1' : decide ((j : Int) < (k : Int)) = true := by simp; omega
              have hjk : (j : Int) < (k : Int) := by omega
              have hj0 : (0 : Int) ≤ (j : Int) := by omega
              obtain ⟨bb, off, rfl, hbT, z0, z1, z2⟩ := HR6.out j hlt2
              obtain ⟨x, hx⟩ : ∃ x, x = (S j).wr := ⟨_, rfl⟩
              have HX := hide hx
              have hxb : -9223372036854775808 ≤ x ∧ x ≤ 9223372036854775807 := by rw [hx]; exact (hin j).2
              have hdd := HD.out
              rw [← hx] at z2
              clear hx z0 z1
              by_cases b1 : x < 0
              · have q1 : decide (x < 0) = true := decide_eq_true b1
                clear b1
                go_wp2_with fail
                go_ret
                exact ⟨rfl, HBW.out⟩
              · have q1 : decide (x < 0) = false := decide_eq_false b1
                by_cases b2 : 1000000000 - d < x
                · have q2 : decide (x > 1000000000 - d) = true := decide_eq_true b2
                  have q2' : decide (1000000000 - d < x) = true := decide_eq_true b2
                  clear b1 b2
                  go_wp2_with fail
                  go_ret
                  exact ⟨rfl, HBW.out⟩
                · have q2 : decide (x > 1000000000 - d) = false := decide_eq_false b2
                  have q2' : decide (1000000000 - d < x) = false := decide_eq_false b2
                  have HJ2 : Hid (∀ q, q < j + 1 → 0 ≤ (S q).wr ∧ (S q).wr ≤ 1000000000 - d) := hide (fun q hq => by
                    rcases Nat.lt_or_ge q j with h | h
                    · exact HJ.out q h
                    · rw [show q = j from by omega, ← HX.out]; omega)
                  clear b1 b2
                  go_wp2_with fail
                  go_roundw
                  case rel => exact ⟨j + 1, by go_num, by omega, trivial, HJ2⟩
                  case measure => simp [intOf]; omega
            · obtain rfl : j = k := by omega
              have f1 : decide (j < j) = false := by simp
              have f1' : decide ((j : Int) < (j : Int)) = false := by simp
              exfalso
              have hM : More S (upW S d) j d := upW_more HD.out (fun q hq => by have := HJ.out q hq; have := HD.out; omega)
              have hF := hM.flt HD.out.1 HJ.out pages false
              rcases HE6.out.2 with h | ⟨h, -, h'⟩
              · exact HE6.out.1 (by rw [← h, hF]; exact HE5.out.1)
              · have := HE5.out.2
                unfold First at this
                rw [← hM.elig, h'] at this
                cases this.1
        · have HE6 := hide (And.intro h6 z6f)
          clear h6 z6f
          go_wp2_with fail
          have HM : Hid (More S (upW S d) k d) := hide (upW_more HD.out (flt_wr HE5.out.1))
          have HZ : Hid (z5 = z6) := hide (first_one (HM.out.first HE5.out.2) HE6.out.2)
          have HLV : Hid (levR (upW S d) k 3 = levR S k 3) := hide (HM.out.lev HD.out.1 (fun i hi => (flt_wr HE5.out.1 i hi).1) 3)
          have HRM6 := hide (HRM2.out.below (HB5.out.trans (HB6.out.mono HB5.out.size) |>.mono HZ2.out) (Nat.le_refl _))
          have HS6 := hide (HS5.out.below (HB6.out.mono HB5.out.size) (Nat.le_refl _))
          have HBW := hide (HBL.out.trans ((HB5.out.mono HBL.out.size).trans (HB6.out.mono (Nat.le_trans HBL.out.size HB5.out.size))))
          obtain rfl := HZ.out
          clear HS5 HS2 HRM2 HBL
          go_wp2_with fail
          refine (level_any D1 k c1 S w2.heap.size 3 w6 HRM6.out (by have := HB5.out.size; have := HB6.out.size; have := HZ2.out; omega) hk63 (by decide) (by decide)).mono ?_
          rintro e w7 ⟨hb7, h7⟩
          have HS7 := hide (HS6.out.below hb7 (Nat.le_trans HB5.out.size HB6.out.size))
          have HB7 := hide (HBW.out.trans (hb7.mono HBW.out.size))
          have HSZ7 := hide (Nat.le_trans HB5.out.size (Nat.le_trans HB6.out.size hb7.size))
          clear hb7 HB5 HB6 HS6 HRM6 HBW
          rcases h7 with ⟨h7, -⟩ | ⟨-, h7⟩
          · exact absurd (flt_4096 HE5.out.1) h7
          rcases h7 with ⟨l7, rfl⟩ | ⟨l7, rfl⟩
          · have HL7 := hide l7
            clear l7
            unfold errR
            go_wp2_with fail
            refine (level_any D2 k c2 (upW S d) wr.heap.size 3 w7 HS7.out HSZ7.out hk63 (by decide) (by decide)).mono ?_
            rintro e w8 ⟨hb8, h8⟩
            have HB8 := hide (HB7.out.trans (hb8.mono HB7.out.size))
            rcases h8 with ⟨h8, -⟩ | ⟨-, h8⟩
            · exact absurd (flt_4096 HE6.out.1) h8
            rcases h8 with ⟨l8, rfl⟩ | ⟨l8, rfl⟩
            · clear hb8 l8
              unfold errR
              go_wp2_with fail
              go_quiet (fail)
              go_wp2_with fail
              go_ret
              exact ⟨rfl, below_drewN HB8.out _⟩
            · exfalso
              rw [HLV.out] at l8
              have := HL7.out
              omega
          · have HL7 := hide l7
            clear l7
            go_wp2_with fail
            refine (level_any D2 k c2 (upW S d) wr.heap.size 3 w7 HS7.out HSZ7.out hk63 (by decide) (by decide)).mono ?_
            rintro e w8 ⟨hb8, h8⟩
            have HB8 := hide (HB7.out.trans (hb8.mono HB7.out.size))
            rcases h8 with ⟨h8, -⟩ | ⟨-, h8⟩
            · exact absurd (flt_4096 HE6.out.1) h8
            rcases h8 with ⟨l8, rfl⟩ | ⟨l8, rfl⟩
            · exfalso
              rw [HLV.out] at l8
              have := HL7.out
              omega
            · rw [HLV.out]
              clear hb8 l8
              go_wp2_with fail
              go_quiet (fail)
              go_wp2_with fail
              go_ret
              exact ⟨rfl, below_drewN HB8.out _⟩
end Go.Proofs.Ytndiionpijjdbaa.SwW
