/- The walk of granarylaw1.BufferPlays. -/
import Derived.Test.YtndhmdengadmjaaDoorBufStep
set_option linter.unusedVariables false
namespace Go.Proofs.YtndhmdengadmjaaDoor.BufL
open Go.RowKit I64 BufP BufW Items ToldW

set_option maxRecDepth 100000 in
set_option maxHeartbeats 8000000 in
theorem plays_law (w : World) (hE : ErrT w) (most : Int) (hm1 : -9223372036854775808 ≤ most) (hm2 : most ≤ 9223372036854775807) (A : Option Addr) (n c : Nat) (S : Nat → OpR) (hn : n ≤ c) (h40 : n * 40 ≤ 140737488351232) (hr : RdO w A n S) :
    Calls Tryd.prog 4 #[.int .i64 most, .slice A n c] w fun e w' => e = .returned (.bool true) ∧ Below w.heap.size w w' := by
  by_cases hbad : most < 1 ∨ 16 < most
  · have HN := hide (new_bad most w hbad)
    have HB := hide hbad
    have HEE := hide (error_some 1 1 w hE true (by decide))
    unfold errV at HN
    by_cases h1 : most < 1
    · have d1 : decide (most < 1) = true := decide_eq_true h1
      clear hbad h1
      go_enter Tryd.func4, Tryd.ntmps4
      go_wp2_with (first
        | (go_at_call 11
           refine HN.out.mono ?_
           rintro e w1 ⟨rfl, rfl⟩)
        | (go_at_call 8
           refine HEE.out.mono ?_
           rintro e w2 ⟨rfl, hb2⟩)
        | fail)
      go_ret
      exact ⟨rfl, hb2⟩
    · have d1 : decide (most < 1) = false := decide_eq_false h1
      have d2 : decide (most > 16) = true := decide_eq_true (by omega)
      clear hbad h1
      go_enter Tryd.func4, Tryd.ntmps4
      go_wp2_with (first
        | (go_at_call 11
           refine HN.out.mono ?_
           rintro e w1 ⟨rfl, rfl⟩)
        | (go_at_call 8
           refine HEE.out.mono ?_
           rintro e w2 ⟨rfl, hb2⟩)
        | fail)
      go_ret
      exact ⟨rfl, hb2⟩
  have HNEW := hide (new_any most w (by omega) (by omega))
  have HR := hide hr
  have hn9 : n ≤ 3518437208780 := by omega
  have HERR := hide hE
  have d1 : decide (most < 1) = false := decide_eq_false (by omega)
  have d2 : decide (most > 16) = false := decide_eq_false (by omega)
  clear hbad hr h40 hE
  go_enter Tryd.func4, Tryd.ntmps4
  go_wp2_with (first
    | (go_at_call 11
       refine HNEW.out.mono ?_
       rintro e w1 ⟨g, rfl, hbuf1, hlow1⟩
       have f1 := bk_alloc_fr hlow1.size (.cells #[.int .i64 most, .slice none 0 0] 41)
       have ST := hide (show Both w (w1.alloc (.cells #[.int .i64 most, .slice none 0 0] 41)) g w1.heap.size most [] from
         ⟨hlow1.trans f1.low, hbuf1.below ((Below.refl _ _).alloc (Nat.le_refl _) _), _, Bk.new _ _ _, hlow1.size, none, 0, rfl, Nat.le_refl _, fun i x hi => by simp at hi⟩)
       clear hbuf1 hlow1 f1
       unfold ptr)
    | fail)
  generalize hr0 : w1.heap.size = r at *
  generalize w1.alloc (.cells #[.int .i64 most, .slice none 0 0] 41) = w2 at *
  go_loopw [8] (fun i wr => ∃ (j : Nat) (L : List It), j ≤ n ∧ i = .int .i64 j ∧ Hid (Both w wr g r most L)) (fun i _ => n - (intOf i).toNat)
  case atStart => exact ⟨0, [], by omega, rfl, ST⟩
  case round =>
    obtain ⟨j, L, hj, rfl, HS⟩ := hrel
    by_cases hlt : j < n
    · have hd1 : decide ((j : Int) < (n : Int)) = true := by simp; omega
      have hji : (j : Int) < (n : Int) := by omega
      obtain ⟨b, off, rfl, hb, c0, c1, c2, hlc, hcm, hrd, hbx, hby⟩ := HR.out j hlt
      have hbel := HS.out.low
      have x0 := (hbel.cell hb).trans c0
      have x1 := (hbel.cell hb).trans c1
      have x2 := (hbel.cell hb).trans c2
      have hD : BufW.Data wr w.heap.size (S j).l (S j).A (S j).c := ⟨hlc, by omega, by
        by_cases he : (S j).l = []
        · exact .inl he
        · right
          intro ad e
          left
          obtain ⟨b', off', e', hb', -⟩ := hrd.form (by rw [u8v_length]; exact List.length_pos_iff.2 he)
          rw [e] at e'
          injection e' with e'
          rw [e']
          exact hb', hrd.below hbel⟩
      have HSTEP := hide (step_any w g r most L (S j).x (S j).y (S j).l (S j).A (S j).c wr HERR.out HS.out hD hby.1 hby.2)
      unfold ptr at HSTEP
      generalize S j = s at *
      obtain ⟨kx, ky, ls, As, cs⟩ := s
      simp only at x0 x1 x2 HSTEP
      clear c0 c1 c2 hlc hcm hrd hbx hby hbel hD HNEW ST
      go_wp2_with fail
      refine HSTEP.out.mono ?_
      rintro e w3 ⟨rfl, L3, hb3⟩
      have HS3 := hide hb3
      have HLEN := hide (len_any w.heap.size g most L3 w3 hb3.buf)
      obtain ⟨v, hrk, -, A2, c2, rfl, -, -⟩ := hb3.ref
      have r1 := hrk.at_ (i := 1) (u := .slice A2 L3.length c2) rfl
      have dne : ((L3.length : Int) != (L3.length : Int)) = false := by simp
      unfold ptr at HLEN
      clear hb3 hrk x0 x1 x2
      go_wp2_with fail
      refine HLEN.out.mono ?_
      rintro e w5 ⟨rfl, rfl⟩
      go_wp2_with fail
      go_roundw
      case rel => exact ⟨j + 1, _, by omega, by go_num, HS3⟩
      case measure => simp [intOf]; omega
    · have hd1 : decide ((j : Int) < (n : Int)) = false := by simp; omega
      go_wp2_with fail
      go_ret
      exact ⟨rfl, HS.out.low⟩
end Go.Proofs.YtndhmdengadmjaaDoor.BufL
