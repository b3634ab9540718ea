/- The walks of the chip's Erase and Read. -/
import Derived.Test.YtbldjiofchaigaaDoorChipB
import Derived.Test.YtbldjiofchaigaaDoorChipF
set_option linter.unusedVariables false
namespace Go.Proofs.YtbldjiofchaigaaDoor.ChipW
open Go.RowKit ChipP CopyW

section
variable {g : Geo} {s : St} {die k : Int}
theorem er_bad {f : Int} (fault : Int) (e : erF g s die k fault = f) (hf : f ≠ 0) : erE g s die k fault = f ∧ erS g s die k fault = s := by
  unfold erE erS
  rw [e]
  exact ⟨if_pos hf, if_pos hf⟩
theorem er_at (h : atF g s die k ≠ 0) (fault : Int) : erE g s die k fault = atF g s die k ∧ erS g s die k fault = s := er_bad fault (by unfold erF; rw [if_pos h]) h
theorem er_ok (fault : Int) (e : erF g s die k fault = 0) : erE g s die k fault = endF fault ∧ erS g s die k fault = ⟨decide (fault = 2), upd s.blk (ix g die k) (erB g (s.blk (ix g die k)) fault)⟩ := by
  unfold erE erS
  rw [e]
  exact ⟨if_neg (fun h => h rfl), if_neg (fun h => h rfl)⟩
end

/-- What Erase says. -/
def ErPost (w : World) (O : Nat → Prop) (g : Geo) (c : Nat) (err : Int) (s' : St) (e : Ending) (w' : World) : Prop := e = .returned (errV err) ∧ ChipAt w' O c g s' ∧ Keep O w w'
set_option maxRecDepth 20000 in
set_option maxHeartbeats 4000000 in
theorem er_any {w : World} {O : Nat → Prop} {g : Geo} {s : St} {c bb : Nat} {pb : Nat → Nat} {qb : Nat → Nat → Nat} (h : ChipL w O g s c bb pb qb) (hg : g.Ok) (die k : Int) (fault : Int) (hO : ∀ j, O j → j < w.heap.size) (hw : ∀ k, (s.blk k).wr ≤ 1000000000000000) :
    Calls Tryd.prog 13 #[ptr c, .int .i64 die, .int .i64 k, .int .i64 fault] w (ErPost w O g c (erE g s die k fault) (erS g s die k fault)) := by
  have HA := hide (at_any h hg die k)
  have HH := hide h
  have HO := hide hO
  have HW := hide hw
  have hp16 := hg.p16
  have hy8 := hg.y8
  have hy256 := hg.y256
  unfold ptr at HA ⊢
  clear h hO hw
  go_enter Tryd.func13, Tryd.ntmps13
  go_wp2_with fail
  refine HA.out.mono ?_
  rintro e w' ⟨⟨d, rfl⟩, ⟨hf, rfl⟩ | ⟨hf, rfl⟩⟩
  · have HX := hide (er_at hf fault)
    have HF := hide (errV_ne hf)
    have HL := hide (HH.out.drewN d)
    clear hf HA
    unfold errR
    go_wp2_with fail
    go_ret
    exact ⟨by rw [HX.out.1, HF.out]; rfl, by rw [HX.out.2]; exact ⟨_, _, _, HL.out⟩, (Keep.refl _ _).drewN d⟩
  · have hz := at_zero hf
    have hlt := ix_lt hz.2.1 hz.2.2.1 hz.2.2.2.1 hz.2.2.2.2
    have HOFF := hide hz.1
    have HLT := hide hlt
    have HF := hide hf
    have c3 := HH.out.b3
    have a0 := HH.out.a0 hlt
    have a3 := HH.out.a3 hlt
    have HL := hide (HH.out.drewN d)
    obtain ⟨M, hM⟩ : ∃ M, M = ix g die k := ⟨_, rfl⟩
    have HM := hide hM
    have HMN : Hid (M < g.n) := hide (hM ▸ hlt)
    rw [← hM] at a0 a3 ⊢
    clear hz hf HA hlt hM
    by_cases hb2 : fault < 0 ∨ (2 : Int) < fault
    · have HX := hide (er_bad (g := g) (s := s) (die := die) (k := k) fault (f := 1) (by unfold erF; rw [if_neg (fun h => h HF.out), if_pos hb2]) (by decide))
      by_cases h0 : fault < 0
      · have d1 : decide (fault < 0) = true := decide_eq_true h0
        clear hb2 h0
        go_wp2_with fail
        go_ret
        exact ⟨by rw [HX.out.1]; rfl, by rw [HX.out.2]; exact ⟨_, _, _, HL.out⟩, (Keep.refl _ _).drewN d⟩
      · have d1 : decide (fault < 0) = false := decide_eq_false h0
        have d2 : decide (fault > 2) = true := decide_eq_true (by omega)
        clear hb2 h0
        go_wp2_with fail
        go_ret
        exact ⟨by rw [HX.out.1]; rfl, by rw [HX.out.2]; exact ⟨_, _, _, HL.out⟩, (Keep.refl _ _).drewN d⟩
    · cases hbd : (s.blk M).bad with
      | true =>
        have HX := hide (er_bad (g := g) (s := s) (die := die) (k := k) fault (f := 6) (by unfold erF; rw [if_neg (fun h => h HF.out), if_neg hb2, if_pos (by rw [← HM.out]; exact hbd)]) (by decide))
        have d1 : decide (fault < 0) = false := decide_eq_false (by omega)
        have d2 : decide (fault > 2) = false := decide_eq_false (by omega)
        rw [hbd] at a3
        clear hbd hb2
        go_wp2_with fail
        go_ret
        exact ⟨by rw [HX.out.1]; rfl, by rw [HX.out.2]; exact ⟨_, _, _, HL.out⟩, (Keep.refl _ _).drewN d⟩
      | false =>
        rw [hbd] at a3
        have HX := hide (er_ok (g := g) (s := s) (die := die) (k := k) fault (by unfold erF; rw [if_neg (fun h => h HF.out), if_neg hb2, if_neg (by rw [← HM.out, hbd]; decide)]))
        rw [← HM.out] at HX
        have HBD := hide hbd
        obtain ⟨wr0, hwr⟩ : ∃ wr0, wr0 = (s.blk M).wr := ⟨_, rfl⟩
        have HWR := hide hwr
        have hwr9 : wr0 ≤ 1000000000000000 := by rw [hwr]; exact HW.out M
        have HOD : Hid (∀ j, O j → j < (w.drewN d).heap.size) := hide HO.out
        have hfc : fault = 0 ∨ fault = 1 ∨ fault = 2 := by omega
        have hbk := HL.out.pgs M HMN.out
        have HFILL : Hid (∀ x : UInt8, Calls Tryd.prog 23 #[.pointer (some ⟨bb, M * 4, none⟩), .int .u8 (x.toNat : Int)] (w.drewN d) (FillPost (w.drewN d) (pb M) g.p g.y x)) := hide (fun x =>
          fill_any bb (M * 4) (pb M) g.p g.y x _ (w.drewN d) (HL.out.a0 HMN.out) hbk (fun i hi => ⟨_, _, rfl⟩) hy8 hy256 hp16 (bk_ne HL.out.arr hbk (by decide)))
        clear hb2 hbd hwr hbk
        rcases hfc with rfl | rfl | rfl
        · have HF1 : Hid (Calls Tryd.prog 23 #[.pointer (some ⟨bb, M * 4, none⟩), .int .u8 255] (w.drewN d) (FillPost (w.drewN d) (pb M) g.p g.y 255)) := hide (HFILL.out 255)
          go_wp2_with fail
          refine HF1.out.mono ?_
          rintro e W1 ⟨rfl, q, hq1, hq2, hq3, hq4⟩
          have HL1 := hide (HL.out.setPages HMN.out q 255 HOD.out hq1 hq2 hq3 hq4)
          have HK1 := hide (((Keep.refl O w).drewN d).trans (Keep.grown hq4 (HH.out.op M HMN.out)))
          clear hq1 hq2 hq3 hq4 HFILL HF1
          have f1 := HL1.out.arr.free (M * 4 + 1)
          have g1 := HL1.out.a1 HMN.out
          have HL2 : Hid (ChipL (W1.setCell ⟨bb, M * 4 + 1, none⟩ (.int .i64 0)) O g _ c bb pb _) := hide (HL1.out.setNx M 0)
          have HK2 := hide (HK1.out.trans (Keep.set W1 (p := ⟨bb, M * 4 + 1, none⟩) HH.out.ob (.int .i64 0)))
          have f2 := HL2.out.arr.free (M * 4 + 2)
          have g2 := HL2.out.a2 HMN.out
          simp only [upd_eq] at g2 g1
          rw [← HWR.out] at g2
          have HL3 := hide (HL2.out.setWr M (wr0 + 1))
          have HK3 := hide (HK2.out.trans (Keep.set (W1.setCell ⟨bb, M * 4 + 1, none⟩ (.int .i64 0)) (p := ⟨bb, M * 4 + 2, none⟩) HH.out.ob (.int .i64 ((wr0 + 1 : Nat) : Int))))
          rw [show ((wr0 + 1 : Nat) : Int) = (wr0 : Int) + 1 from by simp] at HL3 HK3
          have HEND := hide (end_any HL3.out HOFF.out 0)
          go_wp2_with fail
          refine HEND.out.mono ?_
          rintro e W4 ⟨rfl, hL4, hK4⟩
          have HL4 := hide hL4
          have HK4 := hide (HK3.out.trans hK4)
          clear hL4 hK4 HEND
          go_wp2_with fail
          go_ret
          refine ⟨by rw [HX.out.1]; rfl, ?_, HK4.out⟩
          rw [HX.out.2]
          have h := HL4.out
          simp only [upd_eq, upd_upd, HWR.out] at h
          exact ⟨_, _, _, h⟩
        · have f3 : (w.drewN d).frozen? ⟨bb, M * 4 + 3, none⟩ = false := HL.out.arr.free _
          have HL3 := hide (HL.out.setBad M true)
          have HK3 := hide (((Keep.refl O w).drewN d).trans (Keep.set (w.drewN d) (p := ⟨bb, M * 4 + 3, none⟩) HH.out.ob (.bool true)))
          have HEND := hide (end_any HL3.out HOFF.out 1)
          go_wp2_with fail
          refine HEND.out.mono ?_
          rintro e W4 ⟨rfl, hL4, hK4⟩
          have HL4 := hide hL4
          have HK4 := hide (HK3.out.trans hK4)
          clear hL4 hK4 HEND
          go_wp2_with fail
          go_ret
          refine ⟨by rw [HX.out.1]; rfl, ?_, HK4.out⟩
          rw [HX.out.2]
          exact ⟨_, _, _, HL4.out⟩
        · have HF1 : Hid (Calls Tryd.prog 23 #[.pointer (some ⟨bb, M * 4, none⟩), .int .u8 0] (w.drewN d) (FillPost (w.drewN d) (pb M) g.p g.y 0)) := hide (HFILL.out 0)
          go_wp2_with fail
          refine HF1.out.mono ?_
          rintro e W1 ⟨rfl, q, hq1, hq2, hq3, hq4⟩
          have HL1 := hide (HL.out.setPages HMN.out q 0 HOD.out hq1 hq2 hq3 hq4)
          have HK1 := hide (((Keep.refl O w).drewN d).trans (Keep.grown hq4 (HH.out.op M HMN.out)))
          clear hq1 hq2 hq3 hq4 HFILL HF1
          have f1 := HL1.out.arr.free (M * 4 + 1)
          have g1 := HL1.out.a1 HMN.out
          have HL2 : Hid (ChipL (W1.setCell ⟨bb, M * 4 + 1, none⟩ (.int .i64 (g.p : Int))) O g _ c bb pb _) := hide (HL1.out.setNx M g.p)
          have HK2 := hide (HK1.out.trans (Keep.set W1 (p := ⟨bb, M * 4 + 1, none⟩) HH.out.ob (.int .i64 (g.p : Int))))
          have f2 := HL2.out.arr.free (M * 4 + 2)
          have g2 := HL2.out.a2 HMN.out
          simp only [upd_eq] at g2 g1
          rw [← HWR.out] at g2
          have HL3 := hide (HL2.out.setWr M (wr0 + 1))
          have HK3 := hide (HK2.out.trans (Keep.set (W1.setCell ⟨bb, M * 4 + 1, none⟩ (.int .i64 (g.p : Int))) (p := ⟨bb, M * 4 + 2, none⟩) HH.out.ob (.int .i64 ((wr0 + 1 : Nat) : Int))))
          rw [show ((wr0 + 1 : Nat) : Int) = (wr0 : Int) + 1 from by simp] at HL3 HK3
          have c3' := HL1.out.b3
          have HEND := hide (end_any HL3.out HOFF.out 2)
          go_wp2_with fail
          refine HEND.out.mono ?_
          rintro e W4 ⟨rfl, hL4, hK4⟩
          have HL4 := hide hL4
          have HK4 := hide (HK3.out.trans hK4)
          clear hL4 hK4 HEND
          go_wp2_with fail
          go_ret
          refine ⟨by rw [HX.out.1]; rfl, ?_, HK4.out⟩
          rw [HX.out.2]
          have h := HL4.out
          simp only [upd_eq, upd_upd, HWR.out] at h
          exact ⟨_, _, _, h⟩

/-- What Read says. -/
def rdF (g : Geo) (s : St) (die k page : Int) : Int := if atF g s die k ≠ 0 then atF g s die k else if page < 0 ∨ (g.p : Int) ≤ page then 1 else 0
def RdPost (w : World) (g : Geo) (s : St) (die k page : Int) (e : Ending) (w' : World) : Prop :=
  Below w.heap.size w w' ∧ ((rdF g s die k page ≠ 0 ∧ e = .returned (.tuple #[.slice none 0 0, errR (rdF g s die k page)])) ∨
    (rdF g s die k page = 0 ∧ ∃ D c', e = .returned (.tuple #[.slice D g.y c', .nilIface]) ∧ w'.ownsRow w.heap.size 5 1 (.slice D g.y c') g.y (u8v ((s.blk (ix g die k)).pg page.toNat)) ∧ ((s.blk (ix g die k)).pg page.toNat).length = g.y))
set_option maxRecDepth 20000 in
set_option maxHeartbeats 4000000 in
theorem read_any {w : World} {O : Nat → Prop} {g : Geo} {s : St} {c bb : Nat} {pb : Nat → Nat} {qb : Nat → Nat → Nat} (h : ChipL w O g s c bb pb qb) (hg : g.Ok) (die k page : Int) :
    Calls Tryd.prog 14 #[ptr c, .int .i64 die, .int .i64 k, .int .i64 page] w (RdPost w g s die k page) := by
  have HA := hide (at_any h hg die k)
  have HH := hide h
  have hp16 := hg.p16
  have hy8 := hg.y8
  have hy256 := hg.y256
  unfold ptr at HA ⊢
  clear h
  go_enter Tryd.func14, Tryd.ntmps14
  go_wp2_with fail
  refine HA.out.mono ?_
  rintro e w' ⟨⟨d, rfl⟩, ⟨hf, rfl⟩ | ⟨hf, rfl⟩⟩
  · have HX : Hid (rdF g s die k page = atF g s die k) := hide (by unfold rdF; rw [if_pos hf])
    have HF := hide hf
    clear hf HA
    unfold errR
    go_wp2_with fail
    go_ret2
    exact ⟨below_drewN (Below.refl _ _) d, .inl ⟨by rw [HX.out]; exact HF.out, by rw [HX.out]; rfl⟩⟩
  · have hz := at_zero hf
    have hlt := ix_lt hz.2.1 hz.2.2.1 hz.2.2.2.1 hz.2.2.2.2
    have HF := hide hf
    have c3 := HH.out.b3
    have a0 := HH.out.a0 hlt
    have HLT := hide hlt
    obtain ⟨M, hM⟩ : ∃ M, M = ix g die k := ⟨_, rfl⟩
    have HM := hide hM
    have HMN : Hid (M < g.n) := hide (hM ▸ hlt)
    rw [← hM] at a0 ⊢
    clear hz hf HA hlt hM
    by_cases hb2 : page < 0 ∨ (g.p : Int) ≤ page
    · have HX : Hid (rdF g s die k page = 1) := hide (by unfold rdF; rw [if_neg (fun h => h HF.out), if_pos hb2])
      by_cases h0 : page < 0
      · have d1 : decide (page < 0) = true := decide_eq_true h0
        clear hb2 h0
        go_wp2_with fail
        go_ret2
        exact ⟨below_drewN (Below.refl _ _) d, .inl ⟨by rw [HX.out]; decide, by rw [HX.out]; rfl⟩⟩
      · have d1 : decide (page < 0) = false := decide_eq_false h0
        have d2 : decide (page ≥ (g.p : Int)) = true := decide_eq_true (by omega)
        clear hb2 h0
        go_wp2_with fail
        go_ret2
        exact ⟨below_drewN (Below.refl _ _) d, .inl ⟨by rw [HX.out]; decide, by rw [HX.out]; rfl⟩⟩
    · have HX : Hid (rdF g s die k page = 0) := hide (by unfold rdF; rw [if_neg (fun h => h HF.out), if_neg hb2])
      obtain ⟨P, rfl⟩ : ∃ P : Nat, page = P := ⟨page.toNat, by omega⟩
      have hP : P < g.p := by omega
      have d1 : decide ((P : Int) < 0) = false := decide_eq_false (by omega)
      have d2 : decide (g.p ≤ P) = false := decide_eq_false (by omega)
      have d2' : decide ((P : Int) ≥ (g.p : Int)) = false := decide_eq_false (by omega)
      have hpi : (P : Int) < (g.p : Int) := by omega
      have p0 := HH.out.p0 HMN.out hP
      have hlen := HH.out.len M P HMN.out hP
      obtain ⟨tl, htl⟩ := HH.out.pag M P HMN.out hP
      obtain ⟨l, hl⟩ : ∃ l, l = (s.blk M).pg P := ⟨_, rfl⟩
      rw [← hl] at hlen htl
      have hrd : Rd w (some ⟨qb M P, 0, none⟩) (u8v l) := .inr ⟨_, 0, rfl, fun i u hu => by
        rw [Nat.zero_add]
        refine htl.at_ ?_
        rw [List.getElem?_toArray, List.getElem?_append_left (List.getElem?_eq_some_iff.1 hu).1]
        exact hu⟩
      have HCL := hide (clone_any (some ⟨qb M P, 0, none⟩) l g.y g.y (w.drewN d) hlen.symm (by omega) (by simp) (hrd.drewN d))
      have HL := hide hl
      have HLEN := hide hlen
      unfold ChipW.pgs at p0
      clear hb2 hlen htl hl hrd
      go_wp2_with fail
      refine HCL.out.mono ?_
      rintro e W2 ⟨D, c', rfl, ho, hb⟩
      have HO := hide ho
      have HB := hide ((below_drewN (Below.refl _ _) d).trans hb)
      clear ho hb HCL
      go_wp2_with fail
      go_ret2
      refine ⟨HB.out, .inr ⟨HX.out, D, c', rfl, ?_, ?_⟩⟩
      · rw [← HM.out, Int.toNat_natCast, ← HL.out]
        exact HO.out
      · rw [← HM.out, Int.toNat_natCast, ← HL.out]
        exact HLEN.out
end Go.Proofs.YtbldjiofchaigaaDoor.ChipW
