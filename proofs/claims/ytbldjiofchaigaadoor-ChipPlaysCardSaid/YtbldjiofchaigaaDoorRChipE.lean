/- The walks of the document's chip: Erase, Read; of GeometryFault. -/
import Derived.Test.YtbldjiofchaigaaDoorRChipP

set_option linter.unusedVariables false
namespace Go.Proofs.YtbldjiofchaigaaDoor.ChipW
open Go.RowKit ChipP CopyW ToldW

/-- The bytes behind m rounds of Erase's loop. -/
def erFn (g : Geo) (s : St) (M m : Nat) (x : Int) (k' i' j' : Nat) : Int := if k' = M ∧ i' * g.y + j' < m then x else byt s k' i' j'
theorem erFn_zero (g : Geo) (s : St) (M : Nat) (x : Int) (k' i' j' : Nat) : byt s k' i' j' = erFn g s M 0 x k' i' j' := by
  unfold erFn
  rw [if_neg (fun h => absurd h.2 (Nat.not_lt_zero _))]
theorem div_mod_of {a b y m : Nat} (hb : b < y) (h : a * y + b = m) : a = m / y ∧ b = m % y := by
  have hy : 0 < y := by omega
  subst h
  rw [Nat.add_comm, Nat.add_mul_div_right _ _ hy, Nat.add_mul_mod_self_right, Nat.div_eq_of_lt hb, Nat.mod_eq_of_lt hb]
  exact ⟨(Nat.zero_add _).symm, rfl⟩
theorem of_div_mod (m y : Nat) : m / y * y + m % y = m := by rw [Nat.mul_comm]; exact Nat.div_add_mod m y
theorem erFn_step (g : Geo) (s : St) (M m : Nat) (x : Int) (k' i' j' : Nat) (hj : j' < g.y) : (if k' = M ∧ i' = m / g.y ∧ j' = m % g.y then x else erFn g s M m x k' i' j') = erFn g s M (m + 1) x k' i' j' := by
  unfold erFn
  by_cases h1 : k' = M ∧ i' = m / g.y ∧ j' = m % g.y
  · rw [if_pos h1]
    obtain ⟨rfl, rfl, rfl⟩ := h1
    rw [if_pos ⟨rfl, by rw [of_div_mod]; omega⟩]
  · rw [if_neg h1]
    by_cases h2 : k' = M ∧ i' * g.y + j' < m
    · rw [if_pos h2, if_pos ⟨h2.1, by omega⟩]
    · rw [if_neg h2, if_neg (fun h3 => (by
        by_cases e : i' * g.y + j' = m
        · exact h1 ⟨h3.1, div_mod_of hj e⟩
        · exact h2 ⟨h3.1, by omega⟩))]
theorem erFn_end (g : Geo) (s : St) (M : Nat) (x : UInt8) (off : Bool) (b : BS) (hb : b.pg = fun _ => List.replicate g.y x) (k' i' j' : Nat) (hi : i' < g.p) (hj : j' < g.y) : erFn g s M (g.p * g.y) (x.toNat : Int) k' i' j' = byt ⟨off, upd s.blk M b⟩ k' i' j' := by
  unfold erFn byt
  simp only
  by_cases h1 : k' = M
  · subst h1
    rw [upd_eq, hb, if_pos ⟨rfl, in_blk hi hj⟩]
    simp [List.getD_eq_getElem?_getD, hj]
  · rw [upd_ne _ _ _ _ h1, if_neg (fun h => h1 h.1)]
/-- Where Erase's loop stands. -/
def EI (w0 W : World) (g : Geo) (r ga gn gw gd cap : Nat) (s : St) (M m : Nat) (x : Int) : Prop :=
  RF W g r ga gn gw gd cap s.off (fun k => ((s.blk k).nx : Int)) (fun k => ((s.blk k).wr : Int)) (fun k => (s.blk k).bad) (erFn g s M m x) ∧ Keep (fun j => ¬ RB r ga gn gw gd j) w0 W

def xB (fault : Int) : UInt8 := if fault = 0 then 255 else 0

attribute [local irreducible] erFn byt EI xB
set_option maxRecDepth 20000 in
set_option maxHeartbeats 4000000 in
theorem rer_any {w : World} {g : Geo} {r ga gn gw gd cap : Nat} {s : St} (h : RAt w g r ga gn gw gd cap s) (hg : g.Ok) (die k fault : Int) (hw : ∀ k, (s.blk k).wr ≤ 1000000000000000) :
    Calls Tryd.prog 30 #[ptr r, .int .i64 die, .int .i64 k, .int .i64 fault] w (RPost w g r ga gn gw gd cap (erE g s die k fault) (erS g s die k fault)) := by
  have HFA := hide (rfault_any h hg die k)
  have HH := hide h
  have HG := hide hg
  have HW := hide hw
  have hp16 := hg.p16
  have hp1 := hg.p1
  have hy8 := hg.y8
  have hy256 := hg.y256
  unfold ptr at HFA ⊢
  clear h hw
  go_enter Tryd.func30, Tryd.ntmps30
  go_wp2_with fail
  refine HFA.out.mono ?_
  rintro e w' ⟨rfl, ⟨hf, rfl⟩ | ⟨hf, rfl⟩⟩
  · have HX := hide (er_at hf fault)
    have d0 : (atF g s die k != 0) = true := by simpa using hf
    clear hf HFA
    go_wp2_with fail
    go_ret
    exact ⟨by rw [HX.out.1]; rfl, by rw [HX.out.2]; exact HH.out, Keep.refl _ _⟩
  · have hz := at_zero hf
    have hlt := ix_lt hz.2.1 hz.2.2.1 hz.2.2.2.1 hz.2.2.2.2
    have HOFF := hide hz.1
    have HF := hide hf
    have c2 := RF.b2 HH.out
    have c3 := RF.b3 HH.out
    have c4 := RF.b4 HH.out
    have c7 := RF.b7 HH.out
    have a3 := RF.bad_ HH.out hlt
    obtain ⟨M, hM⟩ : ∃ M, M = ix g die k := ⟨_, rfl⟩
    have HM := hide hM
    have HMN : Hid (M < g.n) := hide (hM ▸ hlt)
    have hMi : (M : Int) < (g.n : Int) := by rw [hM]; omega
    rw [← hM] at a3 ⊢
    clear hz hf HFA hlt hM
    by_cases hb4 : fault < 0 ∨ (2 : Int) < fault
    · have HX := hide (er_bad (g := g) (s := s) (die := die) (k := k) fault (f := 1) (by unfold erF; rw [if_neg (fun h => h HF.out), if_pos hb4]) (by decide))
      by_cases h0 : fault < 0
      · have d1 : decide (fault < 0) = true := decide_eq_true h0
        clear hb4 h0
        go_wp2_with fail
        go_ret
        exact ⟨by rw [HX.out.1]; rfl, by rw [HX.out.2]; exact HH.out, Keep.refl _ _⟩
      · have d1 : decide (fault < 0) = false := decide_eq_false h0
        have d2 : decide (fault > 2) = true := decide_eq_true (by omega)
        clear hb4 h0
        go_wp2_with fail
        go_ret
        exact ⟨by rw [HX.out.1]; rfl, by rw [HX.out.2]; exact HH.out, Keep.refl _ _⟩
    · have d1 : decide (fault < 0) = false := decide_eq_false (by omega)
      have d2 : decide (fault > 2) = false := decide_eq_false (by omega)
      cases hbd : (s.blk M).bad with
      | true =>
        have HX := hide (er_bad (g := g) (s := s) (die := die) (k := k) fault (f := 6) (by unfold erF; rw [if_neg (fun h => h HF.out), if_neg hb4, if_pos (by rw [← HM.out]; exact hbd)]) (by decide))
        rw [hbd] at a3
        clear hbd hb4
        go_wp2_with fail
        go_ret
        exact ⟨by rw [HX.out.1]; rfl, by rw [HX.out.2]; exact HH.out, Keep.refl _ _⟩
      | false =>
        rw [hbd] at a3
        have HX := hide (er_ok (g := g) (s := s) (die := die) (k := k) fault (by unfold erF; rw [if_neg (fun h => h HF.out), if_neg hb4, if_neg (by rw [← HM.out, hbd]; decide)]))
        rw [← HM.out] at HX
        have HBD := hide hbd
        by_cases hf1 : fault = 1
        · subst hf1
          have f3 := HH.out.hd.free M
          have HS := hide (RF.setBad HH.out M true)
          have HKS := hide (rkeep_set (r := r) (ga := ga) (gn := gn) (gw := gw) (gd := gd) w' (p := ⟨gd, M, none⟩) (.inr (.inr (.inr (.inr rfl)))) (.bool true))
          clear hbd hb4
          go_wp2_with fail
          go_ret
          refine ⟨by rw [HX.out.1]; rfl, ?_, HKS.out⟩
          rw [HX.out.2]
          unfold RAt
          refine (show RF _ g r ga gn gw gd cap false _ _ _ _ from by have h := HS.out; rw [HOFF.out] at h; exact h).congr (fun k' _ => ?_) (fun k' _ => ?_) (fun k' _ => ?_) (fun k' i' j' _ _ hj => ?_)
          · by_cases e : k' = M
            · subst e; simp only [upd_eq]; rfl
            · simp only [upd_ne _ _ _ _ e]
          · by_cases e : k' = M
            · subst e; simp only [upd_eq]; rfl
            · simp only [upd_ne _ _ _ _ e]
          · by_cases e : k' = M
            · subst e; simp only [upd_eq]; rfl
            · simp only [upd_ne _ _ _ _ e]
          · unfold byt
            by_cases e : k' = M
            · subst e; simp only [upd_eq]; rfl
            · simp only [upd_ne _ _ _ _ e]
        have HE : Hid (erB g (s.blk M) fault = if fault = 0 then ⟨fun _ => List.replicate g.y 255, 0, (s.blk M).wr + 1, (s.blk M).bad⟩ else ⟨fun _ => List.replicate g.y 0, g.p, (s.blk M).wr + 1, (s.blk M).bad⟩) := hide (by
          unfold erB
          by_cases h0 : fault = 0
          · rw [if_pos h0, if_pos h0]
          · rw [if_neg h0, if_neg h0, if_neg hf1])
        have d3 : (fault == 1) = false := by simpa using hf1
        obtain ⟨L, hL⟩ : ∃ L, L = g.p * g.y := ⟨_, rfl⟩
        have HLL := hide hL
        have hLb : L ≤ 4096 := by rw [hL]; have := Nat.mul_le_mul hp16 hy256; omega
        obtain ⟨m1, hm1⟩ : ∃ m1, m1 = M * L := ⟨_, rfl⟩
        have hm1b : m1 ≤ 262144 := by
          have h1 := Nat.mul_le_mul (Nat.le_of_lt (Nat.lt_of_lt_of_le HMN.out hg.n64)) hLb
          omega
        have q0 : IntKind.i64.wrap ((g.p : Int) * (g.y : Int)) = (L : Int) := by rw [← Int.natCast_mul, ← hL, IntKind.wrap_i64]; omega
        have q1 : IntKind.i64.wrap ((M : Int) * (L : Int)) = (m1 : Int) := by rw [← Int.natCast_mul, ← hm1, IntKind.wrap_i64]; omega
        have q1' : wrap64 ((M : Int) * (L : Int)) = (m1 : Int) := by rw [← Int.natCast_mul, ← hm1]; unfold wrap64; omega
        have HAD : Hid (∀ m, m < L → ad g M (m / g.y) (m % g.y) = m1 + m ∧ m / g.y < g.p ∧ m % g.y < g.y) := hide (fun m hm => ⟨by rw [ad_blk, ← hL, ← hm1, of_div_mod], by rw [Nat.div_lt_iff_lt_mul (by omega), ← hL]; exact hm, Nat.mod_lt _ (by omega)⟩)
        have HX1 : Hid (∀ m, m < L → m1 + m < g.n * g.p * g.y) := hide (fun m hm => by
          have h1 := HAD.out m hm
          rw [← h1.1]
          exact ad_lt HMN.out h1.2.1 h1.2.2)
        obtain ⟨N, hN⟩ : ∃ N, N = g.n * g.p * g.y := ⟨_, rfl⟩
        have HNN := hide hN
        rw [← hN] at HX1
        clear hbd hL hm1 hN hb4 hf1
        go_wp2_with fail
        go_quiet (fail)
        go_wp2_with fail
        go_loopw [12] (fun i W => ∃ m, m ≤ L ∧ i = .int .i64 m ∧ Hid (EI w' W g r ga gn gw gd cap s M m ((xB fault).toNat : Int))) (fun i _ => L - (intOf i).toNat)
        case atStart => exact ⟨0, by omega, rfl, hide (by unfold EI; exact ⟨((RF.drewN HH.out _).congr (fun _ _ => rfl) (fun _ _ => rfl) (fun _ _ => rfl) (fun k' i' j' _ _ _ => erFn_zero g s M _ k' i' j')), (Keep.refl _ _).drewN _⟩)⟩
        case round =>
          obtain ⟨m, hm, rfl, HI⟩ := hrel
          have HRF := hide (show RF wr _ _ _ _ _ _ _ _ _ _ _ _ from by have h := HI.out; unfold EI at h; exact h.1)
          have HKP := hide (show Keep _ w' wr from by have h := HI.out; unfold EI at h; exact h.2)
          by_cases hlt : m < L
          · have e1 : decide (m < L) = true := by simpa using hlt
            have e1' : decide ((m : Int) < (L : Int)) = true := by simp; omega
            have c4 := RF.b4 HRF.out
            rw [← HNN.out] at c4
            have hal := RF.all_ HRF.out (k := M) HMN.out (HAD.out m hlt).2.1 (HAD.out m hlt).2.2
            rw [(HAD.out m hlt).1] at hal
            obtain ⟨u0, hu0⟩ : ∃ u0, u0 = erFn g s M m ((xB fault).toNat : Int) M (m / g.y) (m % g.y) := ⟨_, rfl⟩
            rw [← hu0] at hal
            have ga0 := hal.1
            have ga1 := hal.2
            have hbnd := HX1.out m hlt
            have q5 : IntKind.i64.wrap ((m1 : Int) + (m : Int)) = (m1 : Int) + (m : Int) := by rw [IntKind.wrap_i64]; omega
            have q6 : 0 ≤ (m1 : Int) + (m : Int) := by omega
            have q7 : (m1 : Int) + (m : Int) < (N : Int) := by omega
            have q8 : ((m1 : Int) + (m : Int)).toNat = m1 + m := by omega
            clear hal hu0
            by_cases hf0 : fault = 0
            · have t1 : (fault == 0) = true := by simpa using hf0
              have HNEXT : Hid (EI w' (wr.setCell ⟨ga, m1 + m, none⟩ (.int .u8 255)) g r ga gn gw gd cap s M (m + 1) ((xB fault).toNat : Int)) := hide (by
                unfold EI
                refine ⟨?_, HKP.out.trans (rkeep_set (r := r) (ga := ga) (gn := gn) (gw := gw) (gd := gd) wr (p := ⟨ga, m1 + m, none⟩) (.inr (.inl rfl)) _)⟩
                rw [← (HAD.out m hlt).1]
                refine (RF.setAll HRF.out HMN.out (HAD.out m hlt).2.1 (HAD.out m hlt).2.2 255).congr (fun _ _ => rfl) (fun _ _ => rfl) (fun _ _ => rfl) (fun k' i' j' _ _ hj => ?_)
                rw [show (255 : Int) = ((xB fault).toNat : Int) from by unfold xB; rw [if_pos hf0]; rfl]
                exact erFn_step g s M m _ k' i' j' hj)
              clear hf0
              go_wp2_with fail
              go_roundw
              case rel => exact ⟨m + 1, by omega, by go_num, HNEXT⟩
              case measure => simp [intOf]; omega
            · have t1 : (fault == 0) = false := by simpa using hf0
              have HNEXT : Hid (EI w' (wr.setCell ⟨ga, m1 + m, none⟩ (.int .u8 0)) g r ga gn gw gd cap s M (m + 1) ((xB fault).toNat : Int)) := hide (by
                unfold EI
                refine ⟨?_, HKP.out.trans (rkeep_set (r := r) (ga := ga) (gn := gn) (gw := gw) (gd := gd) wr (p := ⟨ga, m1 + m, none⟩) (.inr (.inl rfl)) _)⟩
                rw [← (HAD.out m hlt).1]
                refine (RF.setAll HRF.out HMN.out (HAD.out m hlt).2.1 (HAD.out m hlt).2.2 0).congr (fun _ _ => rfl) (fun _ _ => rfl) (fun _ _ => rfl) (fun k' i' j' _ _ hj => ?_)
                rw [show (0 : Int) = ((xB fault).toNat : Int) from by unfold xB; rw [if_neg hf0]; rfl]
                exact erFn_step g s M m _ k' i' j' hj)
              clear hf0
              go_wp2_with fail
              go_roundw
              case rel => exact ⟨m + 1, by omega, by go_num, HNEXT⟩
              case measure => simp [intOf]; omega
          · have e1 : decide (m < L) = false := by simpa using hlt
            have e1' : decide ((m : Int) < (L : Int)) = false := by simp; omega
            obtain rfl : m = L := by omega
            have c4' := RF.b6 HRF.out
            have wfr := HRF.out.hw.free M
            have w0 := RF.wr_ HRF.out HMN.out
            have hwb := HW.out M
            obtain ⟨wv, hwv⟩ : ∃ wv, wv = (s.blk M).wr := ⟨_, rfl⟩
            rw [← hwv] at w0 hwb
            have HWV := hide hwv
            have HR1 := hide (RF.setWr HRF.out M ((wv : Int) + 1))
            have HK1 := hide (HKP.out.trans (rkeep_set (r := r) (ga := ga) (gn := gn) (gw := gw) (gd := gd) wr (p := ⟨gw, M, none⟩) (.inr (.inr (.inr (.inl rfl)))) (.int .i64 ((wv : Int) + 1))))
            have c5' := RF.b5 HR1.out
            have nfr := HR1.out.hn.free M
            have n0 := RF.nx_ HR1.out HMN.out
            have HR2 := hide (RF.setNx HR1.out M 0)
            have HK2 := hide (HK1.out.trans (rkeep_set (r := r) (ga := ga) (gn := gn) (gw := gw) (gd := gd) (wr.setCell ⟨gw, M, none⟩ (.int .i64 ((wv : Int) + 1))) (p := ⟨gn, M, none⟩) (.inr (.inr (.inl rfl))) (.int .i64 0)))
            have HEND : Hid (∀ off (nv : Nat) W', RF W' g r ga gn gw gd cap off (upd (fun k => ((s.blk k).nx : Int)) M (nv : Int)) (upd (fun k => ((s.blk k).wr : Int)) M ((wv : Int) + 1)) (fun k => (s.blk k).bad) (erFn g s M m ((xB fault).toNat : Int)) → nv = (if fault = 0 then 0 else g.p) → RAt W' g r ga gn gw gd cap ⟨off, upd s.blk M (erB g (s.blk M) fault)⟩) := hide (by
              intro off nv W' h hnv
              rw [HE.out]
              unfold RAt
              have hpg : ∀ (k' i' j' : Nat), i' < g.p → j' < g.y → erFn g s M m ((xB fault).toNat : Int) k' i' j' = byt ⟨off, upd s.blk M (if fault = 0 then ⟨fun _ => List.replicate g.y 255, 0, (s.blk M).wr + 1, (s.blk M).bad⟩ else ⟨fun _ => List.replicate g.y 0, g.p, (s.blk M).wr + 1, (s.blk M).bad⟩)⟩ k' i' j' := by
                intro k' i' j' hi hj
                rw [HLL.out]
                refine erFn_end g s M (xB fault) off _ ?_ k' i' j' hi hj
                unfold xB
                by_cases h0 : fault = 0
                · rw [if_pos h0, if_pos h0]
                · rw [if_neg h0, if_neg h0]
              refine h.congr (fun k' _ => ?_) (fun k' _ => ?_) (fun k' _ => ?_) (fun k' i' j' _ hi hj => hpg k' i' j' hi hj)
              · by_cases e : k' = M
                · subst e; simp only [upd_eq]; rw [hnv]; by_cases h0 : fault = 0
                  · rw [if_pos h0, if_pos h0]
                  · rw [if_neg h0, if_neg h0]
                · simp only [upd_ne _ _ _ _ e]
              · by_cases e : k' = M
                · subst e; simp only [upd_eq]; rw [HWV.out]; by_cases h0 : fault = 0
                  · rw [if_pos h0]; simp
                  · rw [if_neg h0]; simp
                · simp only [upd_ne _ _ _ _ e]
              · by_cases e : k' = M
                · subst e; simp only [upd_eq]; by_cases h0 : fault = 0
                  · rw [if_pos h0]
                  · rw [if_neg h0]
                · simp only [upd_ne _ _ _ _ e])
            clear hwv
            by_cases hf2 : fault = 2
            · subst hf2
              have c5'' := RF.b5 HR2.out
              have c2'' := RF.b2 HR2.out
              have nfr2 := HR2.out.hn.free M
              have n02 := RF.nx_ HR2.out HMN.out
              have HR3 := hide (RF.setNx HR2.out M (g.p : Int)).drew
              have HK3 := hide (HK2.out.trans (rkeep_set (r := r) (ga := ga) (gn := gn) (gw := gw) (gd := gd) ((wr.setCell ⟨gw, M, none⟩ (.int .i64 ((wv : Int) + 1))).setCell ⟨gn, M, none⟩ (.int .i64 0)) (p := ⟨gn, M, none⟩) (.inr (.inr (.inl rfl))) (.int .i64 (g.p : Int)))).drew
              have c8 := RF.b8 HR3.out
              have f8 := HR3.out.box.free 8
              have HR4 := hide (RF.setOff HR3.out true)
              have HK4 := hide (HK3.out.trans (rkeep_set (r := r) (ga := ga) (gn := gn) (gw := gw) (gd := gd) (((wr.setCell ⟨gw, M, none⟩ (.int .i64 ((wv : Int) + 1))).setCell ⟨gn, M, none⟩ (.int .i64 0)).setCell ⟨gn, M, none⟩ (.int .i64 (g.p : Int))).drew (p := ⟨r, 8, none⟩) (.inl rfl) (.bool true)))
              go_wp2_with fail
              go_region
              go_wp2_with fail
              go_ret
              refine ⟨by rw [HX.out.1]; rfl, ?_, HK4.out⟩
              rw [HX.out.2]
              refine HEND.out _ g.p _ ?_ rfl
              have h := HR4.out
              rw [upd_upd] at h
              exact h
            · have d4 : (fault == 2) = false := by simpa using hf2
              have HF0 : Hid (fault = 0) := hide (by
                have h1 : ¬ decide (fault < 0) = true := by rw [d1]; decide
                have h2 : ¬ decide (fault > 2) = true := by rw [d2]; decide
                have h3 : fault ≠ 1 := by simpa using d3
                simp only [decide_eq_true_eq] at h1 h2
                omega)
              clear hf2
              go_wp2_with fail
              go_ret
              refine ⟨by rw [HX.out.1, HF0.out]; rfl, ?_, HK2.out⟩
              rw [HX.out.2, HF0.out]
              have h := HR2.out
              rw [HOFF.out] at h
              have h2 := HEND.out false 0 _ h (by rw [HF0.out]; rfl)
              rw [HF0.out] at h2
              exact h2
end Go.Proofs.YtbldjiofchaigaaDoor.ChipW
