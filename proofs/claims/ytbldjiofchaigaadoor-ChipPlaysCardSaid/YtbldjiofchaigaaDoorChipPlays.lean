/- The walk of granarylaw1.ChipPlays. -/
import Derived.Test.YtbldjiofchaigaaDoorChipStep
import Derived.Test.YtbldjiofchaigaaDoorChipTurns
set_option linter.unusedVariables false
namespace Go.Proofs.YtbldjiofchaigaaDoor.ChipW
open Go.RowKit ChipP CopyW ToldW

attribute [local irreducible] progE progS progF erE erS erF atF nxF wrF badF errV ix Geo.n ChipAt copC
set_option maxRecDepth 20000 in
set_option maxHeartbeats 2000000 in
theorem plays_law (w : World) (hE : ErrT w) (gd gb' gp gy : Int) (i1 : inI64 gd) (i2 : inI64 gb') (i3 : inI64 gp) (i4 : inI64 gy)
    (A : Option Addr) (n cc : Nat) (S : Nat → COp) (hnc : n ≤ cc) (hf : n * 64 ≤ 140737488351232) (hr : RdC w A n S) :
    Calls Tryd.prog 7 #[.agg #[.int .i64 gd, .int .i64 gb', .int .i64 gp, .int .i64 gy], .slice A n cc] w fun e w' => e = .returned (.bool true) ∧ Below w.heap.size w w' := by
  obtain ⟨w0, hw0⟩ : ∃ w0, w0 = w.alloc (.cells #[.int .i64 gd, .int .i64 gb', .int .i64 gp, .int .i64 gy] 23) := ⟨_, rfl⟩
  have HK0 : Hid (Bk w0 w.heap.size 23 #[.int .i64 gd, .int .i64 gb', .int .i64 gp, .int .i64 gy]) := hide (by rw [hw0]; exact Bk.new _ _ _)
  have HB0 : Hid (Below w.heap.size w w0) := hide (by rw [hw0]; exact (Below.refl _ _).alloc (Nat.le_refl _) _)
  have HE := hide (hE.below HB0.out (Nat.le_refl _))
  have HR := hide hr
  have HI4 := hide i4
  have HGL : Hid (w.heap.size < w0.heap.size) := hide HK0.out.lt
  have k0 := HK0.out.at_ (i := 0) (u := .int .i64 gd) rfl
  have k1 := HK0.out.at_ (i := 1) (u := .int .i64 gb') rfl
  have k2 := HK0.out.at_ (i := 2) (u := .int .i64 gp) rfl
  have k3 := HK0.out.at_ (i := 3) (u := .int .i64 gy) rfl
  have HNEW := hide (new_any w0 (fun j => j < w0.heap.size) (fun _ h => h) gd gb' gp gy (by have := HI4.out; unfold inI64 at this; omega) (by have := HI4.out; unfold inI64 at this; omega))
  unfold geoV at HNEW
  rw [hw0] at k0 k1 k2 k3
  have HW0 := hide hw0
  clear hE hr i1 i2 i3 i4 hw0
  go_enter Tryd.func7, Tryd.ntmps7
  go_wp2_with fail
  rw [← HW0.out]
  refine HNEW.out.mono ?_
  rintro e w2 ⟨hb2, ⟨hbad, rfl⟩ | ⟨hok, c, rfl, hc⟩⟩
  · have HK2 := hide (HK0.out.below hb2 HK0.out.lt)
    have HB2 := hide (HB0.out.trans (hb2.mono HB0.out.size))
    have HE2 := hide (HE.out.below hb2 (Nat.le_refl _))
    have HGF := hide (geo_bad w2 gd gb' gp gy hbad (by have := HI4.out; unfold inI64 at this; omega) (by have := HI4.out; unfold inI64 at this; omega))
    unfold geoV at HGF
    clear hb2 HNEW k0 k1 k2 k3 hbad
    have k0 := HK2.out.at_ (i := 0) (u := .int .i64 gd) rfl
    have k1 := HK2.out.at_ (i := 1) (u := .int .i64 gb') rfl
    have k2 := HK2.out.at_ (i := 2) (u := .int .i64 gp) rfl
    have k3 := HK2.out.at_ (i := 3) (u := .int .i64 gy) rfl
    unfold errR
    go_wp2_with fail
    refine HGF.out.mono ?_
    rintro e w3 ⟨rfl, hb3⟩
    have HB3 := hide (HB2.out.trans (hb3.mono HB2.out.size))
    have HER := hide (error_some 1 1 w3 (HE2.out.below hb3 (Nat.le_refl _)) true (by decide))
    clear hb3 HGF k0 k1 k2 k3
    go_wp2_with fail
    refine HER.out.mono ?_
    rintro e w4 ⟨rfl, hb4⟩
    have HB4 := hide (HB3.out.trans (hb4.mono HB3.out.size))
    clear hb4 HER
    go_wp2_with fail
    go_ret
    exact ⟨rfl, HB4.out⟩
  have hg := geo_ok hok
  have HOK := hide hok
  have HGP : Hid (gd = ((gd.toNat : Nat) : Int) ∧ gb' = ((gb'.toNat : Nat) : Int) ∧ gp = ((gp.toNat : Nat) : Int) ∧ gy = ((gy.toNat : Nat) : Int)) := hide (by unfold badG at hok; omega)
  obtain ⟨g, hgg⟩ : ∃ g : Geo, g = ⟨gd.toNat, gb'.toNat, gp.toNat, gy.toNat⟩ := ⟨_, rfl⟩
  have HGG : Hid (geoV g.d g.b g.p g.y = geoV gd gb' gp gy) := hide (by rw [hgg, HGP.out.1, HGP.out.2.1, HGP.out.2.2.1, HGP.out.2.2.2]; rfl)
  rw [← hgg] at hc hg
  have HG := hide hg
  have HC := hide hc
  have HB2 := hide hb2
  have HK2 := hide (HK0.out.below hb2 HK0.out.lt)
  have HGF := hide (Bk.at_ (i := 0) HK2.out (u := .int .i64 gd) rfl)
  clear hb2 hok hc hgg HNEW k0 k1 k2 k3 hg HGF
  have HGF := hide (ChipW.geoR_ok w2 gd gb' gp gy HOK.out)
  unfold geoV at HGF
  have k0 := HK2.out.at_ (i := 0) (u := .int .i64 gd) rfl
  have k1 := HK2.out.at_ (i := 1) (u := .int .i64 gb') rfl
  have k2 := HK2.out.at_ (i := 2) (u := .int .i64 gp) rfl
  have k3 := HK2.out.at_ (i := 3) (u := .int .i64 gy) rfl
  unfold ptr
  go_wp2_with fail
  refine HGF.out.mono ?_
  rintro e w3 ⟨rfl, hb3⟩
  have HB3 := hide (HB2.out.trans (hb3.mono HB2.out.size))
  have HC3 := hide (HC.out.below hb3)
  have HK3 := hide (HK2.out.below hb3 HK2.out.lt)
  have HER := hide (error_nil 0 w3 true (by decide))
  clear hb3 HGF k0 k1 k2 k3
  go_wp2_with fail
  refine HER.out.mono ?_
  rintro e w4 ⟨rfl, hb4⟩
  have HB4 := hide (HB3.out.trans (hb4.mono HB3.out.size))
  have HC4 := hide (HC3.out.below hb4)
  have HK4 := hide (HK3.out.below hb4 HK3.out.lt)
  have HNR := hide (rnew_any w4 g HG.out)
  rw [HGG.out] at HNR
  unfold geoV at HNR
  have k0 := HK4.out.at_ (i := 0) (u := .int .i64 gd) rfl
  have k1 := HK4.out.at_ (i := 1) (u := .int .i64 gb') rfl
  have k2 := HK4.out.at_ (i := 2) (u := .int .i64 gp) rfl
  have k3 := HK4.out.at_ (i := 3) (u := .int .i64 gy) rfl
  clear hb4 HER
  go_wp2_with fail
  refine HNR.out.mono ?_
  rintro e w5 ⟨hb5, r, ga, gn, gw, gx, cap, rfl, hrf, hcap, hrb⟩
  have HCAP := hide hcap
  have HLT : Hid (∀ j, RB r ga gn gw gx j → j < w5.heap.size) := hide (fun j hj => by
    obtain ⟨cs, hb, -⟩ := hrf.all
    rcases hj with h | h | h | h | h
    · rw [h]; exact hrf.box.lt
    · rw [h]; exact hb.lt
    · rw [h]; exact hrf.hn.lt
    · rw [h]; exact hrf.hw.lt
    · rw [h]; exact hrf.hd.lt)
  have HBOTH : Hid (Both w0 w5 (fun j => j < w0.heap.size ∨ (w4.heap.size ≤ j ∧ j < w5.heap.size)) c r ga gn gw gx cap g (newS g) (newS g) 0) := hide
    { chip := (HC4.out.more (fun j hj => hj.imp id And.left)).below hb5
      ref := hrf
      low := HB4.out.trans (hb5.mono HB4.out.size)
      wc := fun _ => Nat.le_refl _
      hO := fun j hj => by have h1 := HB4.out.size; have h2 := hb5.size; omega
      hR := fun j hj => ⟨.inr ⟨hrb j hj, HLT.out j hj⟩, by have h1 := HB4.out.size; have h2 := hrb j hj; omega⟩
      h1 := fun j hj => .inl hj }
  generalize (fun j => j < w0.heap.size ∨ (w4.heap.size ≤ j ∧ j < w5.heap.size)) = O at HBOTH
  clear hb5 hrf hrb HNR k0 k1 k2 k3 hcap HLT
  unfold ptr
  go_wp2_with fail
  go_loopw [10] (fun i wr => ∃ (s : St) (m : Nat), m ≤ n ∧ i = .int .i64 m ∧ Hid (Both w0 wr O c r ga gn gw gx cap g s s m)) (fun i _ => n - (intOf i).toNat)
  case atStart => exact ⟨newS g, 0, by omega, rfl, HBOTH⟩
  case round =>
    obtain ⟨s, m, hm, rfl, HL⟩ := hrel
    by_cases hlt : m < n
    · have hd1 : decide (m < n) = true := by simp; omega
      have hd1' : decide ((m : Int) < (n : Int)) = true := by simp; omega
      have hmi : (m : Int) < (n : Int) := by omega
      have HBW : Hid (Below w.heap.size w wr) := hide (HB0.out.trans (HL.out.low.mono HB0.out.size))
      obtain ⟨b, off, rfl, hbl, hcells, ho1, ho2, ho3, ho4, ho5, ho6, ho7, ho8⟩ := HR.out m hlt
      obtain ⟨o, ho⟩ : ∃ o, o = S m := ⟨_, rfl⟩
      rw [← ho] at hcells ho1 ho2 ho3
      clear ho
      obtain ⟨z0, z1, z2, z3, z4, z5⟩ := cop_cells HBW.out hbl hcells
      have HST := hide (step_any HL.out HG.out HE.out (by omega) HCAP.out o ⟨ho1, ho2, ho3.below HB0.out⟩)
      clear hcells ho1 ho2 ho3 ho4 ho5 ho6 ho7 ho8 hbl HBW
      go_wp2_with fail
      refine HST.out.mono ?_
      rintro e w6 ⟨rfl, s', hbo⟩
      have HBO := hide hbo
      have HOF := hide (offA HBO.out.chip)
      have c8 := RF.b8 HBO.out.ref
      obtain ⟨ox, hox⟩ : ∃ ox, ox = s'.off := ⟨_, rfl⟩
      rw [← hox] at c8 HOF
      have x1 : (ox != ox) = false := by simp
      clear hbo HST z0 z1 z2 z3 z4 z5 hox
      go_wp2_with fail
      refine HOF.out.mono ?_
      rintro e w7 ⟨rfl, rfl⟩
      clear HOF
      go_wp2_with fail
      go_roundw
      case rel => exact ⟨s', m + 1, by omega, by go_num, HBO⟩
      case measure => simp [intOf]; omega
    · have hd1 : decide (m < n) = false := by simp; omega
      have hd1' : decide ((m : Int) < (n : Int)) = false := by simp; omega
      have HLW := hide (HB0.out.trans (HL.out.low.mono HB0.out.size))
      go_wp2_with fail
      go_ret
      exact ⟨rfl, HLW.out⟩
end Go.Proofs.YtbldjiofchaigaaDoor.ChipW
