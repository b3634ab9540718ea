/- The walk of granarylaw1.CodeSums: true, and nothing that was there is written. -/
import Derived.Test.YtmnhgpkbdiobkaaCodeFact
import Derived.Test.YtmnhgpkbdiobkaaSumsPlain
import Derived.Deep.DeepCutAuto
import Derived.Deep.RegionHeld3
set_option linter.unusedVariables false
namespace Go.Proofs.Ytmnhgpkbdiobkaa.SumsW
open Go.RowKit Crc CrcW FactW Sums

theorem xor3_cells (a b c : List UInt8) (k : Nat) : u8v (xor3 a b c (k + 1)) = u8v (xor3 a b c k) ++ [.int .u8 ((a.getD k 0 ^^^ b.getD k 0 ^^^ c.getD k 0).toNat : Int)] := by
  rw [xor3_succ, u8v_append]; rfl

theorem u8_xor_b (x y : UInt8) : bits .xor .u8 (x.toNat : Int) (y.toNat : Int) = ((x ^^^ y).toNat : Int) := by
  rw [u8_xor_nat _ _ x.toNat_lt y.toNat_lt, UInt8.toNat_xor]

theorem u32_xor_bv (a b : BitVec 32) : bits .xor .u32 (a.toNat : Int) (b.toNat : Int) = ((a ^^^ b).toNat : Int) := by
  rw [u32_xor_nat _ _ a.isLt b.isLt, BitVec.toNat_xor]

theorem get_rd {w : World} {A : Option Addr} {l : List UInt8} (h : Rd w A (u8v l)) {i : Nat} (hi : i < l.length) : ∃ b off, A = some ⟨b, off, none⟩ ∧ b < w.heap.size ∧ w.cell? ⟨b, off + i, none⟩ = some (.int .u8 ((l.getD i 0).toNat : Int)) := by
  obtain ⟨b, off, hA, hc⟩ := h.at_ (i := i) (by rw [u8v_length]; exact hi)
  refine ⟨b, off, hA, World.block_lt_of_cell? w _ hc, ?_⟩
  rw [hc]
  simp [u8v, List.getD, hi]

theorem flip_crc (D : List UInt8) (q : Nat) (h : q < 8 * D.length) : crc (flipBit D q) ≠ crc D := by
  have hi : q / 8 < D.length := by omega
  unfold flipBit
  refine crc_set_ne D (q / 8) hi _ ?_
  have e : D.getD (q / 8) 0 = D[q / 8] := by simp [List.getD, hi]
  rw [e]
  intro h2
  have h3 := congrArg (fun x => D[q / 8] ^^^ x) h2
  simp only [← UInt8.xor_assoc, UInt8.xor_self, UInt8.zero_xor] at h3
  have h4 : ∀ j : Fin 8, UInt8.ofNat (2 ^ j.val) ≠ 0 := by decide
  exact h4 ⟨q % 8, by omega⟩ h3

attribute [local irreducible] crc xor3 turnL flipBit

set_option maxRecDepth 100000 in
set_option maxHeartbeats 1000000 in
theorem sums_law (A B C : Option Addr) (la lb lc : List UInt8) (n1 n2 n3 c1 c2 c3 : Nat) (at_ : Int) (w : World) (h1 : n1 = la.length) (h2 : n2 = lb.length) (h3 : n3 = lc.length) (b1 : n1 ≤ 140737488351232) (b2 : n2 ≤ 140737488351232) (b3 : n3 ≤ 140737488351232)
    (k1 : n1 ≤ c1) (k2 : n2 ≤ c2) (k3 : n3 ≤ c3) (t1 : -9223372036854775808 ≤ at_) (t2 : at_ ≤ 9223372036854775807) (ra : Rd w A (u8v la)) (rb : Rd w B (u8v lb)) (rc : Rd w C (u8v lc)) :
    Calls Try.prog 5 #[.slice A n1 c1, .slice B n2 c2, .slice C n3 c3, .int .i64 at_] w fun e w' => e = .returned (.bool true) ∧ Below w.heap.size w w' := by
  obtain ⟨i0, hi0, hz0, hz1, hz2⟩ := info_parts u8_info
  have H1 := hide h1
  have H2 := hide h2
  have H3 := hide h3
  clear h1 h2 h3
  go_enter Try.func5, Try.ntmps5
  go_upto_if 28 with (go_at_call 17; refine (fact_any _).mono ?_; rintro e w1 ⟨rfl, hb1⟩)
  go_cut [10] (fun v wx => ∃ n : Nat, v = .int .i64 n ∧ n ≤ n1 ∧ n ≤ n2 ∧ Below w.heap.size w wx)
  case first =>
    go_wp2
    · go_meet
      exact ⟨n2, rfl, by omega, by omega, hb1⟩
    · go_meet
      exact ⟨n1, rfl, by omega, by omega, hb1⟩
  case rest =>
    clear hb1
    obtain ⟨n, rfl, hn1, hn2, hb1⟩ := hcut
    go_upto_if 34 with (fail)
    go_cut [10] (fun v wx => ∃ n : Nat, v = .int .i64 n ∧ n ≤ n1 ∧ n ≤ n2 ∧ n ≤ n3 ∧ Below w.heap.size w wx)
    case first =>
      go_wp2
      · go_meet
        exact ⟨n3, rfl, by omega, by omega, by omega, hb1⟩
      · go_meet
        exact ⟨n, rfl, by omega, by omega, by omega, hb1⟩
    case rest =>
      clear hb1 hn1 hn2
      obtain ⟨n, rfl, hn1, hn2, hn3, hb1⟩ := hcut
      go_wp2
      go_loopw [11, 12] (fun v i wr => ∃ k : Nat, k ≤ n ∧ i = .int .i64 k ∧ wr.ownsRow w.heap.size 5 1 v k (u8v (xor3 la lb lc k)) ∧ Below w.heap.size w wr) (fun _ i _ => n - (intOf i).toNat)
      case atStart => exact ⟨0, by omega, rfl, by rw [xor3_zero]; exact World.ownsRow_nil _ _ _ _, hb1⟩
      case round =>
        clear hb1
        obtain ⟨k, hk, rfl, hown, hb⟩ := hrel
        by_cases hlt : k < n
        · have hd1 : decide ((k : Int) < (n : Int)) = true := by simp; omega
          obtain ⟨ba, oa, rfl, la1, ca⟩ := get_rd ra (i := k) (by rw [← H1.out]; omega)
          obtain ⟨bb, ob, rfl, lb1, cb⟩ := get_rd rb (i := k) (by rw [← H2.out]; omega)
          obtain ⟨bc, oc, rfl, lc1, cc⟩ := get_rd rc (i := k) (by rw [← H3.out]; omega)
          have ca' := (hb.cell (p := ⟨ba, oa + k, none⟩) la1).trans ca
          have cb' := (hb.cell (p := ⟨bb, ob + k, none⟩) lb1).trans cb
          have cc' := (hb.cell (p := ⟨bc, oc + k, none⟩) lc1).trans cc
          have HS := hide (xor3_cells la lb lc k)
          generalize u8v (xor3 la lb lc k) = xs at hown HS
          have hx1 := u8_xor_b (la.getD k 0) (lb.getD k 0)
          have hx2 := u8_xor_b (la.getD k 0 ^^^ lb.getD k 0) (lc.getD k 0)
          generalize la.getD k 0 ^^^ lb.getD k 0 = t at hx1 hx2 HS
          generalize t ^^^ lc.getD k 0 = z at hx2 HS
          generalize la.getD k 0 = xa at ca ca' hx1
          generalize lb.getD k 0 = xb at cb cb' hx1
          generalize lc.getD k 0 = xc at cc cc' hx2
          have hj1 : (k : Int) < (n1 : Int) := by omega
          have hj2 : (k : Int) < (n2 : Int) := by omega
          have hj3 : (k : Int) < (n3 : Int) := by omega
          have hp0 : (0 : Int) ≤ (k : Int) := by omega
          have hw2 := hb.drew.alloc hb.size (.cells #[.int .u8 (z.toNat : Int)] 5)
          have hownA := (World.ownsRow.drew hown).alloc (.cells #[.int .u8 (z.toNat : Int)] 5)
          have cells_of : ∀ wq : World, Below w.heap.size w wq → wq.cell? ⟨ba, oa + k, none⟩ = some (.int .u8 (xa.toNat : Int)) ∧ wq.cell? ⟨bb, ob + k, none⟩ = some (.int .u8 (xb.toNat : Int)) ∧ wq.cell? ⟨bc, oc + k, none⟩ = some (.int .u8 (xc.toNat : Int)) :=
            fun _ h => ⟨(h.cell (p := ⟨ba, oa + k, none⟩) la1).trans ca, (h.cell (p := ⟨bb, ob + k, none⟩) lb1).trans cb, (h.cell (p := ⟨bc, oc + k, none⟩) lc1).trans cc⟩
          have HCELLS := hide cells_of
          clear cells_of ca cb cc
          go_wp2
          go_region_held3 (fun w' => w'.cell? ⟨ba, oa + k, none⟩ = some (.int .u8 (xa.toNat : Int)) ∧ w'.cell? ⟨bb, ob + k, none⟩ = some (.int .u8 (xb.toNat : Int)) ∧ w'.cell? ⟨bc, oc + k, none⟩ = some (.int .u8 (xc.toNat : Int)))
            (first | exact HCELLS.out _ hb.drew | exact HCELLS.out _ hw2 | exact HCELLS.out _ hw4)
            (first
              | (refine step_append_rd _ rfl (.tmp 42) (.tmp 57) 26 rfl w.heap.size 5 i0 _ 1 Try.underlying26 hi0 hz0 hz1 hz2 rfl _ k xs rfl hownA _ 1 1 [.int .u8 (z.toNat : Int)] rfl rfl (Rd.one _ _ _) ?_ ?_ ?_ ?_ ?_
                 · intro u hu; simp at hu; subst hu; rfl
                 · simp only [maxLen]; omega
                 · omega
                 · exact hw2.size
                 intro v' w4 hown4 hg4
                 have hg4' : (wr.drew.alloc (.cells #[.int .u8 (z.toNat : Int)] 5)).grownBy w4 u11.ownBlock := hg4
                 have hw4 := below_own hw2 hownA hg4' hw2.size (Nat.le_refl _)
                 clear hg4))
          go_wp2
          go_roundw
          case rel => exact ⟨k + 1, by omega, by go_num, by rw [HS.out]; exact hown4, hw4⟩
          case measure => simp [intOf]; omega
        · obtain rfl : k = n := by omega
          obtain ⟨AD, cD, rfl, hcD, -, hrdD, -, -⟩ := own_form hown
          have hkl1 : k = (la.take k).length := by rw [List.length_take, ← H1.out]; omega
          have hkl2 : k = (lb.take k).length := by rw [List.length_take, ← H2.out]; omega
          have hkl3 : k = (lc.take k).length := by rw [List.length_take, ← H3.out]; omega
          have K1 := hide hkl1
          have K2 := hide hkl2
          have K3 := hide hkl3
          have K4 := hide (xor3_length la lb lc k).symm
          clear hkl1 hkl2 hkl3 hown
          have ra' : Rd wr A (u8v (la.take k)) := by simpa [u8v] using (ra.below hb).take k
          have rb' : Rd wr B (u8v (lb.take k)) := by simpa [u8v] using (rb.below hb).take k
          have rc' : Rd wr C (u8v (lc.take k)) := by simpa [u8v] using (rc.below hb).take k
          have HSUM := hide (crc_xor3 la lb lc k (by rw [← H1.out]; omega) (by rw [← H2.out]; omega) (by rw [← H3.out]; omega))
          obtain ⟨X, hX⟩ : ∃ X, X = crc (la.take k) := ⟨_, rfl⟩
          obtain ⟨Y, hY⟩ : ∃ Y, Y = crc (lb.take k) := ⟨_, rfl⟩
          obtain ⟨Z, hZ⟩ : ∃ Z, Z = crc (lc.take k) := ⟨_, rfl⟩
          obtain ⟨D, hD⟩ : ∃ D, D = xor3 la lb lc k := ⟨_, rfl⟩
          rw [← hX, ← hY, ← hZ, ← hD] at HSUM
          rw [← hD] at hrdD K4
          have HX := hide hX
          have HY := hide hY
          have HZ := hide hZ
          clear hX hY hZ hD
          have hx1 := u32_xor_bv X Y
          have hx2 := u32_xor_bv (X ^^^ Y) Z
          rw [← HSUM.out] at hx2
          generalize X ^^^ Y = XY at hx1 hx2
          clear HSUM
          obtain ⟨WD, hWD⟩ : ∃ WD, WD = crc D := ⟨_, rfl⟩
          rw [← hWD] at hx2
          have HWD := hide hWD
          clear hWD
          go_wp2_with fail
          refine (crc_any A (la.take k) k c1 wr K1.out (by omega) ra').mono ?_
          rintro e w' ⟨rfl, rfl⟩
          rw [← HX.out]
          go_wp2_with fail
          refine (crc_any B (lb.take k) k c2 wr K2.out (by omega) rb').mono ?_
          rintro e w' ⟨rfl, rfl⟩
          rw [← HY.out]
          go_wp2_with fail
          refine (crc_any C (lc.take k) k c3 wr K3.out (by omega) rc').mono ?_
          rintro e w' ⟨rfl, rfl⟩
          rw [← HZ.out]
          go_wp2_with fail
          refine (crc_any AD D k cD wr K4.out (by omega) hrdD).mono ?_
          rintro e w' ⟨rfl, rfl⟩
          rw [← HWD.out]
          have hself : ((WD.toNat : Int) != (WD.toNat : Int)) = false := by simp
          by_cases hk0 : k = 0
          · subst hk0
            go_wp2_with fail
            go_ret
            exact ⟨rfl, hb⟩
          · have ht0 : ((k : Int) == 0) = false := by simp; omega
            go_wp2_with fail
            refine (turned_any AD none D [] k 0 cD 0 at_ wr K4.out rfl (by omega) (by omega) (by omega) t1 t2 hrdD (Rd.nil _ _)).mono ?_
            rintro e w2 ⟨v1, v2, rfl, ho1, ho2, hb2⟩
            have hq := pickN_lt at_ (8 * (k + 0)) (by omega)
            generalize pickN at_ (8 * (k + 0)) = q at ho1 hq
            rw [turnL_low (by rw [← K4.out]; omega)] at ho1
            obtain ⟨A1, e1, rfl, -, -, hrd1, -, -⟩ := own_form ho1
            have K5 := hide (show k = (flipBit D q).length by rw [flipBit_length, ← K4.out])
            have HNE := hide (flip_crc D q (by rw [← K4.out]; omega))
            obtain ⟨V, hV⟩ : ∃ V, V = crc (flipBit D q) := ⟨_, rfl⟩
            rw [← hV, ← HWD.out] at HNE
            have HV := hide hV
            clear hV ho1 ho2
            go_wp2_with fail
            refine (crc_any A1 (flipBit D q) k e1 w2 K5.out (by omega) hrd1).mono ?_
            rintro e w' ⟨rfl, rfl⟩
            rw [← HV.out]
            have hfin : ((V.toNat : Int) != (WD.toNat : Int)) = true := by
              simp only [bne_iff_ne, ne_eq]
              intro e
              exact HNE.out (BitVec.eq_of_toNat_eq (by omega))
            go_wp2_with fail
            go_ret
            exact ⟨rfl, hb.trans (hb2.mono hb.size)⟩

theorem law (w : World) (A : Option Addr) (la : List UInt8) (n1 c1 : Nat) (h1 : n1 = la.length) (k1 : n1 ≤ c1) (m1 : c1 ≤ 140737488351232) (ra : Rd w A (u8v la)) (B : Option Addr) (lb : List UInt8) (n2 c2 : Nat) (h2 : n2 = lb.length) (k2 : n2 ≤ c2) (m2 : c2 ≤ 140737488351232) (rb : Rd w B (u8v lb))
    (C : Option Addr) (lc : List UInt8) (n3 c3 : Nat) (h3 : n3 = lc.length) (k3 : n3 ≤ c3) (m3 : c3 ≤ 140737488351232) (rc : Rd w C (u8v lc)) (at_ : Int) (t1 : -9223372036854775808 ≤ at_) (t2 : at_ ≤ 9223372036854775807) :
    Calls Try.prog 5 #[.slice A n1 c1, .slice B n2 c2, .slice C n3 c3, .int .i64 at_] w fun e w' => e = .returned (.bool true) ∧ Below w.heap.size w w' :=
  sums_law A B C la lb lc n1 n2 n3 c1 c2 c3 at_ w h1 h2 h3 (by omega) (by omega) (by omega) k1 k2 k3 t1 t2 ra rb rc
end Go.Proofs.Ytmnhgpkbdiobkaa.SumsW
