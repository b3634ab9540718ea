/- The walk of slices' symMergeCmpFunc at ints: one element on either side. -/
import Derived.Test.YtndiionpijjdbaaDoorStabI

set_option linter.unusedVariables false
namespace Go.Proofs.YtndiionpijjdbaaDoor.Stab
open Go.RowKit I64

/-- What a merge leaves. -/
def MrgP (C : Int → Int → Int) (w : World) (g : Nat) (P X Y Q : List Int) (tl : List Value) (e : Ending) (w' : World) : Prop := ∃ Z, Z.Perm (X ++ Y) ∧ Srt C Z ∧ RowP w g (P ++ Z ++ Q) tl e w'
theorem srt_at {C : Int → Int → Int} {Y : List Int} (h : Srt C Y) {i j : Nat} (hij : i < j) (hj : j < Y.length) : LT C (Y.getD i 0) (Y.getD j 0) := by
  simp only [List.getD_eq_getElem?_getD, List.getElem?_eq_getElem hj, List.getElem?_eq_getElem (show i < Y.length by omega), Option.getD_some]
  exact List.pairwise_iff_getElem.1 h i j _ _ hij
theorem mem_take_at {Y : List Int} {k : Nat} {u : Int} (h : u ∈ Y.take k) : ∃ i, i < k ∧ i < Y.length ∧ u = Y.getD i 0 := by
  obtain ⟨i, hi, rfl⟩ := List.mem_iff_getElem.1 h
  rw [List.length_take] at hi
  refine ⟨i, by omega, by omega, ?_⟩
  simp [List.getD_eq_getElem?_getD, show i < Y.length by omega]
theorem mem_drop_at {Y : List Int} {k : Nat} {u : Int} (h : u ∈ Y.drop k) : ∃ i, k ≤ i ∧ i < Y.length ∧ u = Y.getD i 0 := by
  obtain ⟨i, hi, rfl⟩ := List.mem_iff_getElem.1 h
  rw [List.length_drop] at hi
  refine ⟨k + i, by omega, by omega, ?_⟩
  simp [List.getD_eq_getElem?_getD, show k + i < Y.length by omega]
/-- Where a search for x's place in a sorted row stands. -/
structure Bs (C : Int → Int → Int) (Y : List Int) (x : Int) (i j : Nat) : Prop where
  ij : i ≤ j
  jl : j ≤ Y.length
  lo : ∀ u ∈ Y.take i, LT C u x
  hi : ∀ u ∈ Y.drop j, LT C x u
section
variable {C : Int → Int → Int} {Y : List Int} {x : Int} {i j h : Nat}
theorem Bs.start (Y : List Int) (x : Int) : Bs C Y x 0 Y.length := ⟨Nat.zero_le _, Nat.le_refl _, fun u hu => by simp at hu, fun u hu => by simp at hu⟩
theorem Bs.up (b : Bs C Y x i j) (hC : Cmp C) (hs : Srt C Y) (h1 : i ≤ h) (h2 : h < j) (hl : LT C (Y.getD h 0) x) : Bs C Y x (h + 1) j :=
  ⟨by omega, b.jl, fun u hu => by
    obtain ⟨k, hk, hkl, rfl⟩ := mem_take_at hu
    rcases Nat.lt_or_ge k h with hlt | hge
    · exact LT.trans hC (srt_at hs hlt (by have := b.jl; omega)) hl
    · rw [show k = h from by omega]; exact hl, b.hi⟩
theorem Bs.down (b : Bs C Y x i j) (hC : Cmp C) (hs : Srt C Y) (h1 : i ≤ h) (h2 : h < j) (hl : LT C x (Y.getD h 0)) : Bs C Y x i h :=
  ⟨h1, by have := b.jl; omega, b.lo, fun u hu => by
    obtain ⟨k, hk, hkl, rfl⟩ := mem_drop_at hu
    rcases Nat.lt_or_ge h k with hlt | hge
    · exact LT.trans hC hl (srt_at hs hlt hkl)
    · rw [show k = h from by omega]; exact hl⟩
theorem Bs.done (b : Bs C Y x i i) (hs : Srt C Y) : Srt C (Y.take i ++ x :: Y.drop i) := by
  have sp : Y = Y.take i ++ Y.drop i := (List.take_append_drop _ _).symm
  rw [sp] at hs
  refine Srt.append hs.left (List.pairwise_cons.2 ⟨b.hi, hs.right⟩) ?_
  intro u hu v hv
  rcases List.mem_cons.1 hv with rfl | hv
  · exact b.lo u hu
  · exact hs.across u hu v hv
end

attribute [local irreducible] IB LT Srt
set_option maxRecDepth 20000 in
set_option maxHeartbeats 2000000 in
theorem sym_one {C : Int → Int → Int} {W0 : World} {B : Nat} {cv : Value} {n0 : Int} (hC : Cmp C) (hcmp : CmpOk W0 B cv C n0) (g c n : Nat) (P Y Q : List Int) (x : Int) (tl : List Value) (a m b : Int) (w : World) (hW : Below B W0 w) (hBg : B ≤ g) (hb : IB w g (P ++ [x] ++ Y ++ Q) tl)
    (hY : Srt C Y) (hS : Sep [x] Y) (hxb : 0 ≤ x ∧ x < n0) (hin : ∀ u ∈ Y, 0 ≤ u ∧ u < n0) (hn : n = P.length + 1 + Y.length + Q.length) (hn4 : n ≤ 4096) (ha : a = P.length) (hm : m = P.length + 1) (hbb : b = P.length + 1 + Y.length) :
    Calls Tryd.prog 30 #[.slice (some ⟨g, 0, none⟩) n c, .int .i64 a, .int .i64 m, .int .i64 b, fv cv] w (MrgP C w g P [x] Y Q tl) := by
  unfold fv
  obtain ⟨p, hp⟩ : ∃ p, p = P.length := ⟨_, rfl⟩
  obtain ⟨N, hN⟩ : ∃ N, N = Y.length := ⟨_, rfl⟩
  obtain ⟨M, hM⟩ : ∃ M, M = p + 1 := ⟨_, rfl⟩
  obtain rfl : a = (p : Int) := by omega
  obtain rfl : m = (M : Int) := by omega
  obtain rfl : b = (M : Int) + (N : Int) := by omega
  have HC := hide hC
  have HCM := hide hcmp
  have HW := hide hW
  have HY := hide hY
  have HIN := hide hin
  have HP := hide hp
  have HNN := hide hN
  have HLN := hide hn
  have HXB := hide hxb
  have HSP : Hid (∀ u ∈ Y, x < u) := hide (fun u hu => hS x (List.mem_singleton.2 rfl) u hu)
  have HB := hide hb
  have HMP := hide hM
  have HGL : Hid (B ≤ w.heap.size) := hide (Nat.le_of_lt (Nat.lt_of_le_of_lt hBg hb.lt))
  have hpN : M + N ≤ n := by omega
  have hpM : p < M := by omega
  have t0 : (M : Int) - (p : Int) = 1 := by omega
  have t1 : ((M : Int) - (p : Int) == 1) = true := by rw [t0]; rfl
  have HBS : Hid (Bs C Y x 0 N) := hide (by rw [hN]; exact Bs.start Y x)
  clear hC hcmp hW hb hY hS hin hn ha hbb hp hN hxb hm hM t0
  go_enter Tryd.func30, Tryd.ntmps30
  go_wp2_with fail
  go_loopw [10, 11] (fun i j wr => ∃ I J : Nat, i = .int .i64 I ∧ j = .int .i64 J ∧ M ≤ I ∧ I ≤ J ∧ J ≤ M + N ∧ Hid (Bs C Y x (I - M) (J - M)) ∧ Hid (w.grownBy wr (some g)) ∧ Hid (IB wr g (P ++ [x] ++ Y ++ Q) tl)) (fun i j _ => (intOf j).toNat - (intOf i).toNat)
  case atStart => exact ⟨M, M + N, rfl, by rw [Int.natCast_add], by omega, by omega, by omega, hide (by rw [Nat.sub_self, Nat.add_sub_cancel_left]; exact HBS.out), hide (gr_refl _ _), HB⟩
  case round =>
    obtain ⟨I, J, rfl, rfl, hMI, hIJ, hJN, HI, HG, HK⟩ := hrel
    by_cases hlt : I < J
    · have e1 : decide (I < J) = true := by simpa using hlt
      have e1' : decide ((I : Int) < (J : Int)) = true := by simp; omega
      obtain ⟨H, hH⟩ : ∃ H, H = (I + J) / 2 := ⟨_, rfl⟩
      have qH : ((I : Int) + (J : Int)) / 2 = (H : Int) := by omega
      have hIH : I ≤ H := by omega
      have hHJ : H < J := by omega
      obtain ⟨y, hy⟩ : ∃ y, y = Y.getD (H - M) 0 := ⟨_, rfl⟩
      have HYY := hide hy
      have hHl : H - M < Y.length := by have := HNN.out; omega
      have HYM : Hid (y ∈ Y) := hide (by rw [hy]; exact getD_mem _ _ hHl)
      have HYB := hide (HIN.out y HYM.out)
      have HTOT : Hid ((P ++ [x] ++ Y ++ Q).length = n) := hide (by simp only [List.length_append, List.length_singleton]; have := HLN.out; omega)
      have c1 : wr.cell? ⟨g, H, none⟩ = some (.int .i64 y) := by
        have h := HK.out.at_ (i := (P ++ [x]).length + (H - M)) (by rw [HTOT.out]; simp only [List.length_append, List.length_singleton]; have := HP.out; have := HMP.out; omega)
        rw [List.append_assoc (P ++ [x]), getD_app2, getD_app1 _ _ _ hHl, ← hy] at h
        rw [show H = (P ++ [x]).length + (H - M) from by simp only [List.length_append, List.length_singleton]; have := HP.out; have := HMP.out; omega]
        exact h
      have c2 : wr.cell? ⟨g, p, none⟩ = some (.int .i64 x) := by
        have h := HK.out.at_ (i := P.length + 0) (by rw [HTOT.out]; have := HP.out; omega)
        rw [List.append_assoc P, List.append_assoc P, getD_app2] at h
        rw [HP.out]
        exact h
      have HCALL : Hid (Calls Tryd.prog 19 #[.int .i64 y, .int .i64 x, cv] wr.drew (CRes wr.drew (C y x))) := hide (HCM.out wr.drew y x (low_gr HW.out (gr_drew HG.out) hBg HGL.out) HYB.out.1 HYB.out.2 HXB.out.1 HXB.out.2)
      have q2 : (0 : Int) ≤ (H : Int) := by omega
      have q3 : (H : Int) < (n : Int) := by omega
      have q4 : (0 : Int) ≤ (p : Int) := by omega
      have q5 : (p : Int) < (n : Int) := by omega
      clear hy hH
      by_cases hcx : C y x < 0
      · have t2 : decide (C y x < 0) = true := by simpa using hcx
        have HBS2 : Hid (Bs C Y x (H + 1 - M) (J - M)) := hide (by
          rw [show H + 1 - M = (H - M) + 1 from by omega]
          exact HI.out.up HC.out HY.out (by omega) (by omega) (by rw [← HYY.out]; unfold LT; exact .inl hcx))
        obtain ⟨cyx, hcyx⟩ : ∃ cyx, cyx = C y x := ⟨_, rfl⟩
        rw [← hcyx] at HCALL t2
        clear hcyx hcx
        go_wp2_with fail
        go_region_held3 (fun w' => w'.cell? ⟨g, H, none⟩ = some (.int .i64 y) ∧ w'.cell? ⟨g, p, none⟩ = some (.int .i64 x))
          (first | exact ⟨c1, c2⟩ | exact ⟨c1', c2'⟩)
          (first
            | (go_at_call 19
               with_reducible refine HCALL.out.mono ?_
               rintro e w2 ⟨rfl, hb2⟩
               have HB2 := hide (HK.out.drew.below hb2)
               have HG2 := hide (gr_trans (gr_drew HG.out) (gr_below hb2))
               have c1' : w2.cell? ⟨g, H, none⟩ = some (.int .i64 y) := (hb2.cell (p := ⟨g, H, none⟩) HK.out.lt).trans c1
               have c2' : w2.cell? ⟨g, p, none⟩ = some (.int .i64 x) := (hb2.cell (p := ⟨g, p, none⟩) HK.out.lt).trans c2
               clear hb2))
        go_wp2_with fail
        go_roundw
        case rel => exact ⟨H + 1, J, by go_num, rfl, by omega, by omega, by omega, HBS2, HG2, HB2⟩
        case measure => simp [intOf]; omega
      · have t2 : decide (C y x < 0) = false := by simpa using hcx
        have HBS2 : Hid (Bs C Y x (I - M) (H - M)) := hide (HI.out.down HC.out HY.out (by omega) (by omega) (by rw [← HYY.out]; exact LT.of_not HC.out (HSP.out y HYM.out) hcx))
        obtain ⟨cyx, hcyx⟩ : ∃ cyx, cyx = C y x := ⟨_, rfl⟩
        rw [← hcyx] at HCALL t2
        clear hcyx hcx
        go_wp2_with fail
        go_region_held3 (fun w' => w'.cell? ⟨g, H, none⟩ = some (.int .i64 y) ∧ w'.cell? ⟨g, p, none⟩ = some (.int .i64 x))
          (first | exact ⟨c1, c2⟩ | exact ⟨c1', c2'⟩)
          (first
            | (go_at_call 19
               with_reducible refine HCALL.out.mono ?_
               rintro e w2 ⟨rfl, hb2⟩
               have HB2 := hide (HK.out.drew.below hb2)
               have HG2 := hide (gr_trans (gr_drew HG.out) (gr_below hb2))
               have c1' : w2.cell? ⟨g, H, none⟩ = some (.int .i64 y) := (hb2.cell (p := ⟨g, H, none⟩) HK.out.lt).trans c1
               have c2' : w2.cell? ⟨g, p, none⟩ = some (.int .i64 x) := (hb2.cell (p := ⟨g, p, none⟩) HK.out.lt).trans c2
               clear hb2))
        go_wp2_with fail
        go_roundw
        case rel => exact ⟨I, H, rfl, rfl, by omega, by omega, by omega, HBS2, HG2, HB2⟩
        case measure => simp [intOf]; omega
    · obtain rfl : I = J := by omega
      have e1 : decide (I < I) = false := by simp
      have e1' : decide ((I : Int) < (I : Int)) = false := by simp
      obtain ⟨i0, hi0⟩ : ∃ i0, i0 = I - M := ⟨_, rfl⟩
      have HBS3 := hide HI.out
      rw [← hi0] at HBS3
      have hi0N : i0 ≤ N := by omega
      have hIM : I = M + i0 := by omega
      have HDONE := hide (HBS3.out.done HY.out)
      have HST : Hid (IB wr g (P ++ (Y.take 0 ++ x :: Y.drop 0) ++ Q) tl) := hide (by simpa using HK.out)
      have HIM := hide hIM
      have hI1 : 1 ≤ I := by omega
      clear hi0 hIM
      go_wp2_with fail
      go_loopw [13] (fun k wr => ∃ k' : Nat, k = .int .i64 ((p : Int) + (k' : Int)) ∧ k' ≤ i0 ∧ Hid (IB wr g (P ++ (Y.take k' ++ x :: Y.drop k') ++ Q) tl) ∧ Hid (w.grownBy wr (some g))) (fun k _ => p + i0 - (intOf k).toNat)
      case atStart => exact ⟨0, by simp, by omega, HST, HG⟩
      case round =>
        clear HK HST HG
        obtain ⟨k, rfl, hk, HK, HG⟩ := hrel
        obtain ⟨K, hK⟩ : ∃ K, K = p + k := ⟨_, rfl⟩
        rw [show (p : Int) + (k : Int) = (K : Int) from by omega]
        have HKK := hide hK
        by_cases hk2 : k < i0
        · have hKI : (K : Int) < (I : Int) - 1 := by have := HIM.out; have := HMP.out; omega
          have d1 : decide ((K : Int) < (I : Int) - 1) = true := by simpa using hKI
          obtain ⟨y, hy⟩ : ∃ y, y = Y.getD k 0 := ⟨_, rfl⟩
          have hkl : k < Y.length := by rw [← HNN.out]; omega
          have e3 : Y.take (k + 1) = Y.take k ++ [y] := by
            rw [hy, List.getD_eq_getElem?_getD, List.getElem?_eq_getElem hkl]
            exact List.take_succ_eq_append_getElem hkl
          have e4 : Y.drop k = y :: Y.drop (k + 1) := by
            rw [hy, List.getD_eq_getElem?_getD, List.getElem?_eq_getElem hkl]
            exact List.drop_eq_getElem_cons hkl
          obtain ⟨PP, hPP⟩ : ∃ PP, PP = P ++ Y.take k := ⟨_, rfl⟩
          obtain ⟨R, hR⟩ : ∃ R, R = Y.drop (k + 1) ++ Q := ⟨_, rfl⟩
          have hPL : PP.length = K := by rw [hPP, List.length_append, List.length_take, hK, HP.out]; omega
          have HBK : Hid (IB wr g (PP ++ x :: y :: R) tl) := hide (by
            have h := HK.out
            rw [e4] at h
            rw [hPP, hR]
            simpa using h)
          have HEQ : Hid (PP ++ y :: x :: R = P ++ (Y.take (k + 1) ++ x :: Y.drop (k + 1)) ++ Q) := hide (by rw [e3, hPP, hR]; simp)
          have HTOT : Hid (K + 1 < (PP ++ x :: y :: R).length) := hide (by rw [List.length_append, hPL]; simp only [List.length_cons]; omega)
          have HPL := hide hPL
          have c1 : wr.cell? ⟨g, K, none⟩ = some (.int .i64 x) := by
            have h := HBK.out.at_ (i := PP.length + 0) (by rw [hPL]; have := HTOT.out; omega)
            rw [getD_app2, hPL] at h
            exact h
          have c2 : wr.cell? ⟨g, K + 1, none⟩ = some (.int .i64 y) := by
            have h := HBK.out.at_ (i := PP.length + 1) (by rw [hPL]; have := HTOT.out; omega)
            rw [getD_app2, hPL] at h
            exact h
          have f1 := HBK.out.free K
          have HS1 := hide (HBK.out.set (i := K) (by have := HTOT.out; omega) y)
          have c3 := HS1.out.at_ (i := K + 1) (by rw [List.length_set]; exact HTOT.out)
          have f3 := HS1.out.free (K + 1)
          have HS2 := hide (HS1.out.set (i := K + 1) (by rw [List.length_set]; exact HTOT.out) x)
          obtain ⟨x3, hx3⟩ : ∃ x3, x3 = ((PP ++ x :: y :: R).set K y).getD (K + 1) 0 := ⟨_, rfl⟩
          rw [← hx3] at c3
          have HNX : Hid (IB ((wr.setCell ⟨g, K, none⟩ (.int .i64 y)).setCell ⟨g, K + 1, none⟩ (.int .i64 x)).drew g (P ++ (Y.take (k + 1) ++ x :: Y.drop (k + 1)) ++ Q) tl) := hide (by
            have h := HS2.out
            rw [← HPL.out, swap_next, HEQ.out] at h
            rw [← HPL.out]
            exact h.drew)
          have HG3 := hide (gr_drew (gr_trans HG.out (gr_trans (gr_set wr g K (.int .i64 y)) (gr_set (wr.setCell ⟨g, K, none⟩ (.int .i64 y)) g (K + 1) (.int .i64 x)))))
          have q2 : (0 : Int) ≤ (K : Int) := by omega
          have hKn : K + 1 < n := by have := HLN.out; have := HNN.out; have := HP.out; omega
          have q3 : (K : Int) < (n : Int) := by omega
          have q4 : (0 : Int) ≤ (K : Int) + 1 := by omega
          have q5 : (K : Int) + 1 < (n : Int) := by omega
          have q6 : ((K : Int) + 1).toNat = K + 1 := by omega
          have q7 : IntKind.i64.wrap ((K : Int) + 1) = (K : Int) + 1 := by rw [IntKind.wrap_i64]; omega
          clear hy e3 e4 hPP hR hPL hx3 hK
          go_wp2_with fail
          go_region
          go_wp2_with fail
          go_roundw
          case rel => exact ⟨k + 1, by have := HKK.out; rw [show (p : Int) + ((k + 1 : Nat) : Int) = (K : Int) + 1 from by omega], by omega, HNX, HG3⟩
          case measure => simp [intOf]; have := HKK.out; omega
        · have d1 : decide ((K : Int) < (I : Int) - 1) = false := by simp; have := HIM.out; have := HMP.out; omega
          have d1' : ¬ (K : Int) < (I : Int) - 1 := by have := HIM.out; have := HMP.out; omega
          have HEND : Hid (IB wr g (P ++ (Y.take i0 ++ x :: Y.drop i0) ++ Q) tl) := hide (by
            have h := HK.out
            rw [show k = i0 from by omega] at h
            exact h)
          clear hK
          go_wp2_with fail
          go_end0
          refine ⟨_, ?_, HDONE.out, rfl, HEND.out, HG.out⟩
          have h1 : (Y.take i0 ++ x :: Y.drop i0).Perm (x :: (Y.take i0 ++ Y.drop i0)) := List.perm_middle
          rw [List.take_append_drop] at h1
          exact h1
end Go.Proofs.YtndiionpijjdbaaDoor.Stab
