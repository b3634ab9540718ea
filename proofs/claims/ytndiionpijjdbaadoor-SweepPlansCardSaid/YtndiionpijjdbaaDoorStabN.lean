/- The walk of slices' symMergeCmpFunc at ints: one element on the right. -/
import Derived.Test.YtndiionpijjdbaaDoorStabM
set_option linter.unusedVariables false
namespace Go.Proofs.YtndiionpijjdbaaDoor.Stab
open Go.RowKit I64

attribute [local irreducible] IB LT Srt
set_option maxRecDepth 20000 in
set_option maxHeartbeats 2000000 in
theorem sym_two {C : Int → Int → Int} {W0 : World} {B : Nat} {cv : Value} {n0 : Int} (hC : Cmp C) (hcmp : CmpOk W0 B cv C n0) (g c n : Nat) (P X Q : List Int) (y : Int) (tl : List Value) (a m b : Int) (w : World) (hW : Below B W0 w) (hBg : B ≤ g) (hb : IB w g (P ++ X ++ [y] ++ Q) tl)
    (hX : Srt C X) (hX2 : 2 ≤ X.length) (hS : Sep X [y]) (hyb : 0 ≤ y ∧ y < n0) (hin : ∀ u ∈ X, 0 ≤ u ∧ u < n0) (hn : n = P.length + X.length + 1 + Q.length) (hn4 : n ≤ 4096) (ha : a = P.length) (hm : m = P.length + X.length) (hbb : b = P.length + X.length + 1) :
    Calls Tryd.prog 30 #[.slice (some ⟨g, 0, none⟩) n c, .int .i64 a, .int .i64 m, .int .i64 b, fv cv] w (MrgP C w g P X [y] Q tl) := by
  unfold fv
  obtain ⟨p, hp⟩ : ∃ p, p = P.length := ⟨_, rfl⟩
  obtain ⟨N, hN⟩ : ∃ N, N = X.length := ⟨_, rfl⟩
  obtain ⟨M, hM⟩ : ∃ M, M = p + N := ⟨_, rfl⟩
  obtain rfl : a = (p : Int) := by omega
  obtain rfl : m = (M : Int) := by omega
  obtain rfl : b = (M : Int) + 1 := by omega
  have HC := hide hC
  have HCM := hide hcmp
  have HW := hide hW
  have HX := hide hX
  have HIN := hide hin
  have HP := hide hp
  have HNN := hide hN
  have HLN := hide hn
  have HYB := hide hyb
  have HSP : Hid (∀ u ∈ X, u < y) := hide (fun u hu => hS u hu y (List.mem_singleton.2 rfl))
  have HB := hide hb
  have HMP := hide hM
  have HGL : Hid (B ≤ w.heap.size) := hide (Nat.le_of_lt (Nat.lt_of_le_of_lt hBg hb.lt))
  have hpN : M + 1 ≤ n := by omega
  have hpM : p + 2 ≤ M := by omega
  have t0 : ((M : Int) - (p : Int) == 1) = false := by simp; omega
  have t1 : ((M : Int) + 1 - (M : Int) == 1) = true := by rw [show (M : Int) + 1 - (M : Int) = 1 from by omega]; rfl
  have HBS : Hid (Bs C X y 0 N) := hide (by rw [hN]; exact Bs.start X y)
  clear hC hcmp hW hb hX hS hin hn ha hbb hp hN hyb hm hM hX2
  go_enter Tryd.func30, Tryd.ntmps30
  go_wp2_with fail
  go_loopw [14, 15] (fun i j wr => ∃ I J : Nat, i = .int .i64 I ∧ j = .int .i64 J ∧ p ≤ I ∧ I ≤ J ∧ J ≤ M ∧ Hid (Bs C X y (I - p) (J - p)) ∧ Hid (w.grownBy wr (some g)) ∧ Hid (IB wr g (P ++ X ++ [y] ++ Q) tl)) (fun i j _ => (intOf j).toNat - (intOf i).toNat)
  case atStart => exact ⟨p, M, rfl, rfl, by omega, by omega, by omega, hide (by rw [Nat.sub_self, show M - p = N from by have := HMP.out; omega]; exact HBS.out), hide (gr_refl _ _), HB⟩
  case round =>
    obtain ⟨I, J, rfl, rfl, hMI, hIJ, hJN, HI, HG, HK⟩ := hrel
    by_cases hlt : I < J
    · have e1 : decide (I < J) = true := by simpa using hlt
      have e1' : decide ((I : Int) < (J : Int)) = true := by simp; omega
      obtain ⟨H, hH⟩ : ∃ H, H = (I + J) / 2 := ⟨_, rfl⟩
      have qH : ((I : Int) + (J : Int)) / 2 = (H : Int) := by omega
      have hIH : I ≤ H := by omega
      have hHJ : H < J := by omega
      obtain ⟨x, hx⟩ : ∃ x, x = X.getD (H - p) 0 := ⟨_, rfl⟩
      have HXX := hide hx
      have hHl : H - p < X.length := by have := HNN.out; have := HMP.out; omega
      have HXM : Hid (x ∈ X) := hide (by rw [hx]; exact getD_mem _ _ hHl)
      have HXB := hide (HIN.out x HXM.out)
      have HTOT : Hid ((P ++ X ++ [y] ++ Q).length = n) := hide (by simp only [List.length_append, List.length_singleton]; have := HLN.out; omega)
      have c1 : wr.cell? ⟨g, H, none⟩ = some (.int .i64 x) := by
        have h := HK.out.at_ (i := P.length + (H - p)) (by rw [HTOT.out]; have := HP.out; omega)
        rw [List.append_assoc P, List.append_assoc P, getD_app2, List.append_assoc X, getD_app1 _ _ _ hHl, ← hx] at h
        rw [show H = P.length + (H - p) from by have := HP.out; omega]
        exact h
      have c2 : wr.cell? ⟨g, M, none⟩ = some (.int .i64 y) := by
        have h := HK.out.at_ (i := (P ++ X).length + 0) (by rw [HTOT.out]; simp only [List.length_append]; have := HP.out; have := HMP.out; have := HNN.out; omega)
        rw [List.append_assoc (P ++ X), getD_app2] at h
        rw [show M = (P ++ X).length + 0 from by simp only [List.length_append]; have := HP.out; have := HMP.out; have := HNN.out; omega]
        exact h
      have HCALL : Hid (Calls Tryd.prog 19 #[.int .i64 y, .int .i64 x, cv] wr.drew (CRes wr.drew (C y x))) := hide (HCM.out wr.drew y x (low_gr HW.out (gr_drew HG.out) hBg HGL.out) HYB.out.1 HYB.out.2 HXB.out.1 HXB.out.2)
      have q2 : (0 : Int) ≤ (H : Int) := by omega
      have q3 : (H : Int) < (n : Int) := by omega
      have q4 : (0 : Int) ≤ (M : Int) := by omega
      have q5 : (M : Int) < (n : Int) := by omega
      clear hx hH
      by_cases hcx : C y x < 0
      · have t2 : decide (C y x < 0) = true := by simpa using hcx
        have HBS2 : Hid (Bs C X y (I - p) (H - p)) := hide (HI.out.down HC.out HX.out (by omega) (by omega) (by rw [← HXX.out]; unfold LT; exact .inl hcx))
        obtain ⟨cyx, hcyx⟩ : ∃ cyx, cyx = C y x := ⟨_, rfl⟩
        rw [← hcyx] at HCALL t2
        clear hcyx hcx
        go_wp2_with fail
        go_region_held3 (fun w' => w'.cell? ⟨g, H, none⟩ = some (.int .i64 x) ∧ w'.cell? ⟨g, M, none⟩ = some (.int .i64 y))
          (first | exact ⟨c1, c2⟩ | exact ⟨c1', c2'⟩)
          (first
            | (go_at_call 19
               with_reducible refine HCALL.out.mono ?_
               rintro e w2 ⟨rfl, hb2⟩
               have HB2 := hide (HK.out.drew.below hb2)
               have HG2 := hide (gr_trans (gr_drew HG.out) (gr_below hb2))
               have c1' : w2.cell? ⟨g, H, none⟩ = some (.int .i64 x) := (hb2.cell (p := ⟨g, H, none⟩) HK.out.lt).trans c1
               have c2' : w2.cell? ⟨g, M, none⟩ = some (.int .i64 y) := (hb2.cell (p := ⟨g, M, none⟩) HK.out.lt).trans c2
               clear hb2))
        go_wp2_with fail
        go_roundw
        case rel => exact ⟨I, H, rfl, rfl, by omega, by omega, by omega, HBS2, HG2, HB2⟩
        case measure => simp [intOf]; omega
      · have t2 : decide (C y x < 0) = false := by simpa using hcx
        have HBS2 : Hid (Bs C X y (H + 1 - p) (J - p)) := hide (by
          rw [show H + 1 - p = (H - p) + 1 from by omega]
          exact HI.out.up HC.out HX.out (by omega) (by omega) (by rw [← HXX.out]; exact LT.of_not HC.out (HSP.out x HXM.out) hcx))
        obtain ⟨cyx, hcyx⟩ : ∃ cyx, cyx = C y x := ⟨_, rfl⟩
        rw [← hcyx] at HCALL t2
        clear hcyx hcx
        go_wp2_with fail
        go_region_held3 (fun w' => w'.cell? ⟨g, H, none⟩ = some (.int .i64 x) ∧ w'.cell? ⟨g, M, none⟩ = some (.int .i64 y))
          (first | exact ⟨c1, c2⟩ | exact ⟨c1', c2'⟩)
          (first
            | (go_at_call 19
               with_reducible refine HCALL.out.mono ?_
               rintro e w2 ⟨rfl, hb2⟩
               have HB2 := hide (HK.out.drew.below hb2)
               have HG2 := hide (gr_trans (gr_drew HG.out) (gr_below hb2))
               have c1' : w2.cell? ⟨g, H, none⟩ = some (.int .i64 x) := (hb2.cell (p := ⟨g, H, none⟩) HK.out.lt).trans c1
               have c2' : w2.cell? ⟨g, M, none⟩ = some (.int .i64 y) := (hb2.cell (p := ⟨g, M, none⟩) HK.out.lt).trans c2
               clear hb2))
        go_wp2_with fail
        go_roundw
        case rel => exact ⟨H + 1, J, by go_num, rfl, by omega, by omega, by omega, HBS2, HG2, HB2⟩
        case measure => simp [intOf]; omega
    · obtain rfl : I = J := by omega
      have e1 : decide (I < I) = false := by simp
      have e1' : decide ((I : Int) < (I : Int)) = false := by simp
      obtain ⟨i0, hi0⟩ : ∃ i0, i0 = I - p := ⟨_, rfl⟩
      have HBS3 := hide HI.out
      rw [← hi0] at HBS3
      have hi0N : i0 ≤ N := by have := HMP.out; omega
      have hIM : I = p + i0 := by omega
      have HDONE := hide (HBS3.out.done HX.out)
      have HST : Hid (IB wr g (P ++ (X.take N ++ y :: X.drop N) ++ Q) tl) := hide (by
        rw [List.take_of_length_le (by rw [HNN.out]; exact Nat.le_refl _), List.drop_of_length_le (by rw [HNN.out]; exact Nat.le_refl _)]
        simpa using HK.out)
      have HIM := hide hIM
      clear hi0 hIM
      go_wp2_with fail
      go_loopw [17] (fun k wr => ∃ k' : Nat, k = .int .i64 ((p : Int) + (k' : Int)) ∧ i0 ≤ k' ∧ k' ≤ N ∧ Hid (IB wr g (P ++ (X.take k' ++ y :: X.drop k') ++ Q) tl) ∧ Hid (w.grownBy wr (some g))) (fun k _ => (intOf k).toNat)
      case atStart => exact ⟨N, by rw [show (p : Int) + (N : Int) = (M : Int) from by have := HMP.out; omega], by omega, by omega, HST, HG⟩
      case round =>
        clear HK HST HG
        obtain ⟨k, rfl, hki, hk, HK, HG⟩ := hrel
        by_cases hk2 : i0 < k
        · obtain ⟨k1, rfl⟩ : ∃ k1, k = k1 + 1 := ⟨k - 1, by omega⟩
          obtain ⟨K, hK⟩ : ∃ K, K = p + k1 := ⟨_, rfl⟩
          rw [show (p : Int) + ((k1 + 1 : Nat) : Int) = (K : Int) + 1 from by omega]
          have HKK := hide hK
          have hKI : (I : Int) < (K : Int) + 1 := by have := HIM.out; omega
          have d1 : decide ((I : Int) < (K : Int) + 1) = true := by simpa using hKI
          obtain ⟨x, hx⟩ : ∃ x, x = X.getD k1 0 := ⟨_, rfl⟩
          have hkl : k1 < X.length := by rw [← HNN.out]; omega
          have e3 : X.take (k1 + 1) = X.take k1 ++ [x] := by
            rw [hx, List.getD_eq_getElem?_getD, List.getElem?_eq_getElem hkl]
            exact List.take_succ_eq_append_getElem hkl
          have e4 : X.drop k1 = x :: X.drop (k1 + 1) := by
            rw [hx, List.getD_eq_getElem?_getD, List.getElem?_eq_getElem hkl]
            exact List.drop_eq_getElem_cons hkl
          obtain ⟨PP, hPP⟩ : ∃ PP, PP = P ++ X.take k1 := ⟨_, rfl⟩
          obtain ⟨R, hR⟩ : ∃ R, R = X.drop (k1 + 1) ++ Q := ⟨_, rfl⟩
          have hPL : PP.length = K := by rw [hPP, List.length_append, List.length_take, hK, HP.out]; omega
          have HBK : Hid (IB wr g (PP ++ x :: y :: R) tl) := hide (by
            have h := HK.out
            rw [e3] at h
            rw [hPP, hR]
            simpa using h)
          have HEQ : Hid (PP ++ y :: x :: R = P ++ (X.take k1 ++ y :: X.drop k1) ++ Q) := hide (by rw [e4, hPP, hR]; simp)
          have HTOT : Hid (K + 1 < (PP ++ x :: y :: R).length) := hide (by rw [List.length_append, hPL]; simp only [List.length_cons]; omega)
          have HPL := hide hPL
          have c1 : wr.cell? ⟨g, K, none⟩ = some (.int .i64 x) := by
            have h := HBK.out.at_ (i := PP.length + 0) (by rw [hPL]; have := HTOT.out; omega)
            rw [getD_app2, hPL] at h
            exact h
          have c2 : wr.cell? ⟨g, K + 1, none⟩ = some (.int .i64 y) := by
            have h := HBK.out.at_ (i := PP.length + 1) (by rw [hPL]; have := HTOT.out; omega)
            rw [getD_app2, hPL] at h
            exact h
          have f1 := HBK.out.free (K + 1)
          have HS1 := hide (HBK.out.set (i := K + 1) HTOT.out x)
          have c3 := HS1.out.at_ (i := K) (by rw [List.length_set]; have := HTOT.out; omega)
          have f3 := HS1.out.free K
          have HS2 := hide (HS1.out.set (i := K) (by rw [List.length_set]; have := HTOT.out; omega) y)
          obtain ⟨x3, hx3⟩ : ∃ x3, x3 = ((PP ++ x :: y :: R).set (K + 1) x).getD K 0 := ⟨_, rfl⟩
          rw [← hx3] at c3
          have HNX : Hid (IB ((wr.setCell ⟨g, K + 1, none⟩ (.int .i64 x)).setCell ⟨g, K, none⟩ (.int .i64 y)).drew g (P ++ (X.take k1 ++ y :: X.drop k1) ++ Q) tl) := hide (by
            have h := HS2.out
            rw [← HPL.out, swap_prev, HEQ.out] at h
            rw [← HPL.out]
            exact h.drew)
          have HG3 := hide (gr_drew (gr_trans HG.out (gr_trans (gr_set wr g (K + 1) (.int .i64 x)) (gr_set (wr.setCell ⟨g, K + 1, none⟩ (.int .i64 x)) g K (.int .i64 y)))))
          have q2 : (0 : Int) ≤ (K : Int) := by omega
          have hKn : K + 1 < n := by have := HMP.out; omega
          have q3 : (K : Int) < (n : Int) := by omega
          have q4 : (0 : Int) ≤ (K : Int) + 1 := by omega
          have q5 : (K : Int) + 1 < (n : Int) := by omega
          have q6 : ((K : Int) + 1).toNat = K + 1 := by omega
          have q7 : IntKind.i64.wrap ((K : Int) + 1 - 1) = (K : Int) := by rw [IntKind.wrap_i64]; omega
          have q8 : IntKind.i64.wrap (K : Int) = (K : Int) := by rw [IntKind.wrap_i64]; omega
          clear hx e3 e4 hPP hR hPL hx3 hK
          go_wp2_with fail
          go_region
          go_wp2_with fail
          go_roundw
          case rel => exact ⟨k1, by have := HKK.out; rw [show (p : Int) + (k1 : Int) = (K : Int) from by omega], by omega, by omega, HNX, HG3⟩
          case measure => simp [intOf]
        · have hkk : k = i0 := by omega
          subst hkk
          rw [show (p : Int) + (k : Int) = (I : Int) from by have := HIM.out; omega]
          have d1 : decide ((I : Int) < (I : Int)) = false := by simp
          go_wp2_with fail
          go_end0
          refine ⟨_, ?_, HDONE.out, rfl, HK.out, HG.out⟩
          have h1 : (X.take k ++ y :: X.drop k).Perm (y :: (X.take k ++ X.drop k)) := List.perm_middle
          rw [List.take_append_drop] at h1
          exact h1.trans (List.perm_append_singleton y X).symm
end Go.Proofs.YtndiionpijjdbaaDoor.Stab
