/- The walk of granarylaw1.ChipWaits. -/
import Derived.Test.YtbldjiofchaigaaDoorChipWears
import Derived.Test.YtbldjiofchaigaaDoorChipKeeps
set_option linter.unusedVariables false
namespace Go.Proofs.YtbldjiofchaigaaDoor.ChipW
open Go.RowKit ChipP CopyW ToldW

theorem off_prog {g : Geo} {s : St} (h : s.off = true) (od ob page : Int) (l : List UInt8) (n : Nat) (hn : n = l.length) (fault : Int) : progE g s od ob page n fault = 7 ∧ progS g s od ob page l fault = s := by
  have e : atF g s od ob = 7 := by unfold atF; rw [if_pos h]
  have h1 := prog_at (g := g) (s := s) (die := od) (k := ob) (by rw [e]; decide) page l n hn fault
  exact ⟨h1.1.trans e, h1.2⟩
theorem off_er {g : Geo} {s : St} (h : s.off = true) (od ob fault : Int) : erE g s od ob fault = 7 ∧ erS g s od ob fault = s := by
  have e : atF g s od ob = 7 := by unfold atF; rw [if_pos h]
  have h1 := er_at (g := g) (s := s) (die := od) (k := ob) (by rw [e]; decide) fault
  exact ⟨h1.1.trans e, h1.2⟩
theorem off_rd {g : Geo} {s : St} (h : s.off = true) (od ob page : Int) : rdF g s od ob page = 7 := by
  have e : atF g s od ob = 7 := by unfold atF; rw [if_pos h]
  unfold rdF
  rw [if_pos (by rw [e]; decide), e]
theorem torn_first {g : Geo} {die k : Int} {l : List UInt8} (h : progF g (newS g) die k 0 l.length 2 = 0) :
    (progS g (newS g) die k 0 l 2).off = true ∧ ((progS g (newS g) die k 0 l 2).blk (ix g die k)).pg 0 = l.take (l.length / 2) ++ (List.replicate g.y 255).drop (l.length / 2) ∧ ((progS g (newS g) die k 0 l 2).blk (ix g die k)).nx = 1 ∧ ((progS g (newS g) die k 0 l 2).blk (ix g die k)).wr = 0 := by
  rw [keep_first h]
  refine ⟨by rw [prog_yes h]; rfl, ?_, rfl, rfl⟩
  show upd (fun _ => List.replicate g.y 255) 0 (mix 2 l (List.replicate g.y 255)) 0 = _
  rw [upd_eq]
  unfold mix
  rw [if_neg (by decide)]
theorem torn_ok {g : Geo} {die k : Int} {n : Nat} (h : progF g (newS g) die k 0 n 2 = 0) : progE g (newS g) die k 0 n 2 = 7 := if_neg (fun hh => hh h)
theorem torn_not {g : Geo} {die k : Int} {n : Nat} (h : progF g (newS g) die k 0 n 2 ≠ 0) : progE g (newS g) die k 0 n 2 ≠ 0 ∧ progE g (newS g) die k 0 n 2 ≠ 7 := by
  have e : progE g (newS g) die k 0 n 2 = progF g (newS g) die k 0 n 2 := if_pos h
  rw [e]
  refine ⟨h, fun h7 => ?_⟩
  unfold progF at h7
  by_cases h1 : atF g (newS g) die k = 0
  · rw [if_neg (fun hh => hh h1)] at h7
    by_cases a1 : (0 : Int) < 0 ∨ (g.p : Int) ≤ 0 ∨ (2 : Int) < 0 ∨ (2 : Int) < 2
    · rw [if_pos a1] at h7; omega
    · rw [if_neg a1] at h7
      by_cases a2 : n ≠ g.y
      · rw [if_pos a2] at h7; omega
      · rw [if_neg a2] at h7
        by_cases a3 : ((newS g).blk (ix g die k)).bad = true
        · rw [if_pos a3] at h7; omega
        · rw [if_neg a3] at h7
          by_cases a4 : (0 : Int) ≠ ((newS g).blk (ix g die k)).nx
          · rw [if_pos a4] at h7; omega
          · rw [if_neg a4] at h7; omega
  · rw [if_pos h1] at h7
    unfold atF at h7
    rw [if_neg (by show ¬ false = true; decide)] at h7
    by_cases a1 : die < 0 ∨ (g.d : Int) ≤ die ∨ k < 0 ∨ (g.b : Int) ≤ k
    · rw [if_pos a1] at h7; omega
    · rw [if_neg a1] at h7; omega
/-- What is read of a torn page. -/
theorem torn_at {l : List UInt8} {y i : Nat} (hl : l.length = y) (hi : i < y) : (i < y / 2 → (l.take (l.length / 2) ++ (List.replicate y 255).drop (l.length / 2))[i]? = l[i]?) ∧ (y / 2 ≤ i → (l.take (l.length / 2) ++ (List.replicate y 255).drop (l.length / 2))[i]? = some 255) := by
  rw [hl]
  have e : (l.take (y / 2)).length = y / 2 := by rw [List.length_take, hl]; omega
  refine ⟨fun h => ?_, fun h => ?_⟩
  · rw [List.getElem?_append_left (by omega), List.getElem?_take, if_pos h]
  · rw [List.getElem?_append_right (by omega), List.getElem?_drop, List.getElem?_replicate, if_pos (by omega)]
attribute [local irreducible] progE progS progF erE erS erF atF nxF wrF badF rdF errV ix Geo.n ChipAt copC mix
set_option maxRecDepth 20000 in
set_option maxHeartbeats 3000000 in
theorem waits_law (w : World) (hE : ErrT w) (gd gb' gp gy : Int) (i1 : inI64 gd) (i2 : inI64 gb') (i3 : inI64 gp) (i4 : inI64 gy) (die : Int) (t1 : -9223372036854775808 ≤ die) (t2 : die ≤ 9223372036854775807) (blk : Int) (t3 : -9223372036854775808 ≤ blk) (t4 : blk ≤ 9223372036854775807)
    (A0 : Option Addr) (l0 : List UInt8) (n0 c0 : Nat) (h0 : n0 = l0.length) (h01 : n0 ≤ c0) (h02 : c0 ≤ 140737488351232) (h03 : Rd w A0 (u8v l0)) (A : Option Addr) (n cc : Nat) (S : Nat → COp) (hnc : n ≤ cc) (hf : n * 64 ≤ 140737488351232) (hr : RdC w A n S) :
    Calls Tryd.prog 6 #[.agg #[.int .i64 gd, .int .i64 gb', .int .i64 gp, .int .i64 gy], .int .i64 die, .int .i64 blk, .slice A0 n0 c0, .slice A n cc] w fun e w' => e = .returned (.bool true) ∧ Below w.heap.size w w' := by
  have HK := hide (Bk.new w 23 #[.int .i64 gd, .int .i64 gb', .int .i64 gp, .int .i64 gy])
  have HB0 : Hid (Below w.heap.size w (w.alloc (.cells #[.int .i64 gd, .int .i64 gb', .int .i64 gp, .int .i64 gy] 23))) := hide ((Below.refl _ _).alloc (Nat.le_refl _) _)
  have HR := hide hr
  have HFACT := hide (fact_any (w.alloc (.cells #[.int .i64 gd, .int .i64 gb', .int .i64 gp, .int .i64 gy] 23)) (hE.below HB0.out (Nat.le_refl _)))
  have HI4 := hide i4
  have HE := hide hE
  have HD0 := hide h03
  have HN0 := hide h0
  clear h03 h0
  clear hE hr i1 i2 i3 i4
  go_enter Tryd.func6, Tryd.ntmps6
  go_wp2_with fail
  refine HFACT.out.mono ?_
  rintro e w1 ⟨rfl, hb1⟩
  have HK1 := hide (HK.out.below hb1 HK.out.lt)
  have HB1 := hide (HB0.out.trans (hb1.mono HB0.out.size))
  have k0 := HK1.out.at_ (i := 0) (u := .int .i64 gd) rfl
  have k1 := HK1.out.at_ (i := 1) (u := .int .i64 gb') rfl
  have k2 := HK1.out.at_ (i := 2) (u := .int .i64 gp) rfl
  have k3 := HK1.out.at_ (i := 3) (u := .int .i64 gy) rfl
  have HNEW := hide (new_any w1 (fun j => j < w1.heap.size) (fun _ h => h) gd gb' gp gy (by have := HI4.out; unfold inI64 at this; omega) (by have := HI4.out; unfold inI64 at this; omega))
  unfold geoV at HNEW
  have HGL : Hid (w.heap.size < w1.heap.size) := hide (Nat.lt_of_lt_of_le HK.out.lt hb1.size)
  clear hb1 HFACT HK
  go_wp2_with fail
  refine HNEW.out.mono ?_
  rintro e w2 ⟨hb2, ⟨hbad, rfl⟩ | ⟨hok, c, rfl, hc⟩⟩
  · have HB2 := hide (HB1.out.trans (hb2.mono HB1.out.size))
    clear hb2 HNEW k0 k1 k2 k3
    unfold errR
    go_wp2_with fail
    go_ret
    exact ⟨rfl, HB2.out⟩
  have hg := geo_ok hok
  have HGY : Hid (gy = ((gy.toNat : Nat) : Int)) := hide (by unfold badG at hok; omega)
  obtain ⟨g, hgg⟩ : ∃ g : Geo, g = ⟨gd.toNat, gb'.toNat, gp.toNat, gy.toNat⟩ := ⟨_, rfl⟩
  have HGG : Hid (gy = (g.y : Int)) := hide (by rw [hgg]; exact HGY.out)
  rw [← hgg] at hc hg
  have hp16 := hg.p16
  have hp1 := hg.p1
  have hy8 := hg.y8
  have hy256 := hg.y256
  have HG := hide hg
  have HLI := hide (LI.start hc hb2)
  clear hb2 hok hc hgg HNEW k0 k1 k2 k3 hg
  have HOD : Hid (u8v l0 ≠ [] → ∀ ad, A0 = some ad → ad.block < w1.heap.size) := hide (fun hne ad e => by
    obtain ⟨b2, off2, hA2, hlt2, -⟩ := HD0.out.form (List.length_pos_iff.2 hne)
    rw [hA2] at e
    injection e with e
    rw [← e]
    exact Nat.lt_of_lt_of_le hlt2 HB1.out.size)
  have HP0 := hide (progA HLI.out.chip HG.out die blk 0 A0 n0 c0 l0 2 HN0.out h01 (HD0.out.below (HB1.out.trans (HLI.out.low.mono HB1.out.size))) HOD.out (by omega))
  obtain ⟨pe, hpe⟩ : ∃ pe, pe = progE g (newS g) die blk 0 n0 2 := ⟨_, rfl⟩
  have HPE := hide hpe
  rw [← hpe] at HP0
  obtain ⟨s, hs0⟩ : ∃ s, s = progS g (newS g) die blk 0 l0 2 := ⟨_, rfl⟩
  have HS0 := hide hs0
  rw [← hs0] at HP0
  clear hpe hs0
  unfold ptr
  go_wp2_with fail
  refine HP0.out.mono ?_
  rintro e w3 ⟨rfl, hc3, hk3⟩
  have HL3 : Hid (LI w1 w3 c g s 0) := hide ⟨hc3, HLI.out.low.trans (hk3.below (fun j hj => hj) HLI.out.low.size), fun k => by rw [HS0.out, prog_wr]; exact HLI.out.wr k, fun k => by rw [HS0.out]; exact prog_nx _ _ _ _ _ HLI.out.nx k⟩
  have HERR := hide (err_any pe 7 w3 ((HE.out.below HB1.out (Nat.le_refl _)).below HL3.out.low (Nat.le_refl _)))
  clear hc3 hk3 HP0
  go_wp2_with fail
  refine HERR.out.mono ?_
  rintro e w4 ⟨rfl, hb4⟩
  have HL4 : Hid (LI w1 w4 c g s 0) := hide ⟨HL3.out.chip.below hb4, HL3.out.low.trans (hb4.mono HL3.out.low.size), HL3.out.wr, HL3.out.nx⟩
  clear hb4 HERR HL3
  by_cases hpf : progF g (newS g) die blk 0 n0 2 = 0
  · have hp7 : pe = 7 := by rw [HPE.out]; exact torn_ok hpf
    have hz := at_zero (prog_zero hpf).1
    have hny : n0 = g.y := (prog_zero hpf).2.2.2.2.2.1
    have HZ : Hid (0 ≤ die ∧ die < g.d ∧ 0 ≤ blk ∧ blk < g.b) := hide hz.2
    have hT := torn_first (g := g) (die := die) (k := blk) (l := l0) (by rw [← HN0.out]; exact hpf)
    rw [← HS0.out] at hT
    have HT := hide hT
    have hoff := hT.1
    have HOFF := hide hoff
    have HLY : Hid (l0.length = g.y) := hide (HN0.out.symm.trans hny)
    have x7 : decide (pe = 7) = true := decide_eq_true hp7
    rw [x7]
    have HNY := hide hny
    clear hp7 hpf hz hny hT x7
    clear hoff
    go_wp2_with fail
    go_loopw [15] (fun i wr => ∃ (m : Nat), m ≤ n ∧ i = .int .i64 m ∧ Hid (LI w1 wr c g s 0)) (fun i _ => n - (intOf i).toNat)
    case atStart => exact ⟨0, by omega, rfl, HL4⟩
    case round =>
      obtain ⟨m, hm, rfl, HL⟩ := hrel
      by_cases hlt : m < n
      · have hd1 : decide (m < n) = true := by simp; omega
        have hd1' : decide ((m : Int) < (n : Int)) = true := by simp; omega
        have hmi : (m : Int) < (n : Int) := by omega
        have HBW : Hid (Below w.heap.size w wr) := hide (HB1.out.trans (HL.out.low.mono HB1.out.size))
        obtain ⟨b, off, rfl, hbl, hcells, ho1, ho2, ho3, ho4, ho5, ho6, ho7, ho8⟩ := HR.out m hlt
        obtain ⟨o, ho⟩ : ∃ o, o = S m := ⟨_, rfl⟩
        rw [← ho] at hcells ho1 ho2 ho3
        clear ho
        obtain ⟨z0, z1, z2, z3, z4, z5⟩ := cop_cells HBW.out hbl hcells
        have HRI : Hid (RI w1 (wr.alloc (.cells #[.int .i64 o.kind, .int .i64 o.die, .int .i64 o.blk, .int .i64 o.page, .slice o.A o.l.length o.c, .int .i64 o.fault] 35)) wr.heap.size c g s 0 o) := hide (RI.start2 HL.out o)
        have y0 := HRI.out.y0
        have y1 := HRI.out.y1
        have y2 := HRI.out.y2
        have y3 := HRI.out.y3
        have y4 := HRI.out.y4
        have y5 := HRI.out.y5
        have HRD := hide (((ho3.below HBW.out)).alloc (.cells #[.int .i64 o.kind, .int .i64 o.die, .int .i64 o.blk, .int .i64 o.page, .slice o.A o.l.length o.c, .int .i64 o.fault] 35))
        have HOA : Hid (u8v o.l ≠ [] → ∀ ad, o.A = some ad → ad.block < w1.heap.size ∨ ad.block = wr.heap.size) := hide (fun hne ad e => .inl (by
          obtain ⟨b2, off2, hA2, hlt2, -⟩ := ho3.form (List.length_pos_iff.2 hne)
          rw [hA2] at e
          injection e with e
          rw [← e]
          exact Nat.lt_of_lt_of_le hlt2 HB1.out.size))
        have HOL := hide (And.intro ho1 ho2)
        clear hcells ho1 ho2 ho3 ho4 ho5 ho6 ho7 ho8 hbl HBW
        have HOF := hide (offA HRI.out.chip)
        rw [HOFF.out] at HOF
        go_wp2_with fail
        generalize wr.alloc (.cells #[.int .i64 o.kind, .int .i64 o.die, .int .i64 o.blk, .int .i64 o.page, .slice o.A o.l.length o.c, .int .i64 o.fault] 35) = W2 at *
        generalize wr.heap.size = gx at *
        clear z0 z1 z2 z3 z4 z5
        refine HOF.out.mono ?_
        rintro e W9 ⟨rfl, rfl⟩
        have h1 := off_prog (g := g) HOFF.out o.die o.blk o.page o.l o.l.length rfl o.fault
        have HP := hide (progA HRI.out.chip HG.out o.die o.blk o.page o.A o.l.length o.c o.l o.fault rfl HOL.out.1 HRD.out HOA.out (by have := HOL.out; omega))
        rw [h1.1, h1.2] at HP
        clear h1 HOF
        go_wp2_with fail
        refine HP.out.mono ?_
        rintro e W3 ⟨rfl, hc3, hk3⟩
        have HR3 := hide (HRI.out.keep hc3 hk3 HRI.out.wr HRI.out.nx)
        clear hc3 hk3 HP y0 y1 y2 y3 y4 y5 HRI
        have h1 := off_er (g := g) HOFF.out o.die o.blk o.fault
        have HER := hide (erA HR3.out.chip HG.out o.die o.blk o.fault HR3.out.bound (fun k => by have := HR3.out.wr k; omega))
        rw [h1.1, h1.2] at HER
        have y1 := HR3.out.y1
        have y2 := HR3.out.y2
        have y5 := HR3.out.y5
        rw [errV_ne (by decide)]
        unfold errR
        clear h1
        go_wp2_with fail
        refine HER.out.mono ?_
        rintro e W4 ⟨rfl, hc4, hk4⟩
        have HR4 := hide (HR3.out.keep hc4 hk4 HR3.out.wr HR3.out.nx)
        clear hc4 hk4 HER y1 y2 y5 HR3
        have HRE := hide (readA HR4.out.chip HG.out o.die o.blk o.page)
        have HRF := hide (off_rd (g := g) HOFF.out o.die o.blk o.page)
        have y1 := HR4.out.y1
        have y2 := HR4.out.y2
        have y3 := HR4.out.y3
        rw [errV_ne (by decide)]
        unfold errR
        go_wp2_with fail
        refine HRE.out.mono ?_
        rintro e W5 ⟨hb5, ⟨-, rfl⟩ | ⟨hz5, -⟩⟩
        rotate_left
        · exact absurd hz5 (by rw [HRF.out]; decide)
        have HR5 := hide (HR4.out.below hb5)
        rw [HRF.out]
        clear hb5 HRE HR4 y1 y2 y3
        have HQ1 := hide (error_some 7 7 W5 (HR5.out.errT HE.out HB1.out) true (by decide))
        unfold errR
        go_wp2_with fail
        refine HQ1.out.mono ?_
        rintro e W6 ⟨rfl, hb6⟩
        have HR6 := hide (HR5.out.below hb6)
        clear hb6 HQ1 HR5
        have HQ2 := hide (error_some 7 7 W6 (HR6.out.errT HE.out HB1.out) true (by decide))
        go_wp2_with fail
        refine HQ2.out.mono ?_
        rintro e W7 ⟨rfl, hb7⟩
        have HR7 := hide (HR6.out.below hb7)
        clear hb7 HQ2 HR6
        have HQ3 := hide (error_some 7 7 W7 (HR7.out.errT HE.out HB1.out) true (by decide))
        go_wp2_with fail
        refine HQ3.out.mono ?_
        rintro e W8 ⟨rfl, hb8⟩
        have HEND := hide (HR7.out.below hb8).end_
        clear hb8 HQ3 HR7
        go_wp2_with fail
        go_roundw
        case rel => exact ⟨m + 1, by omega, by go_num, HEND⟩
        case measure => simp [intOf]; omega
      · have hd1 : decide (m < n) = false := by simp; omega
        have hd1' : decide ((m : Int) < (n : Int)) = false := by simp; omega
        obtain ⟨K, hK⟩ : ∃ K, K = ix g die blk := ⟨_, rfl⟩
        have HKK := hide hK
        have HON := hide (onA HL.out.chip)
        have HLL := hide HL.out.low
        clear hK
        go_wp2_with fail
        refine HON.out.mono ?_
        rintro e W3 ⟨rfl, hc3, hk3⟩
        have HC3 := hide hc3
        have HB3 := hide (HLL.out.trans (hk3.below (fun j hj => hj) HLL.out.size))
        clear hc3 hk3 HON HL
        have HAT : Hid (atF g (onS s) die blk = 0) := hide (at_on HZ.out.1 HZ.out.2.1 HZ.out.2.2.1 HZ.out.2.2.2 rfl)
        have HNX : Hid (nxF g (onS s) die blk = 1) := hide (by rw [nx_ok HAT.out]; show ((s.blk (ix g die blk)).nx : Int) = 1; rw [HT.out.2.2.1]; rfl)
        have HWX : Hid (wrF g (onS s) die blk = 0) := hide (by rw [wr_ok HAT.out]; show ((s.blk (ix g die blk)).wr : Int) = 0; rw [HT.out.2.2.2]; rfl)
        have HNE := hide (nextA HC3.out HG.out die blk)
        rw [HAT.out, HNX.out, errV_zero] at HNE
        go_wp2_with fail
        refine HNE.out.mono ?_
        rintro e W4 ⟨rfl, d1, rfl⟩
        have HWE := hide (wearA (HC3.out.drewN d1) HG.out die blk)
        rw [HAT.out, HWX.out, errV_zero] at HWE
        clear HNE
        go_wp2_with fail
        refine HWE.out.mono ?_
        rintro e W5 ⟨rfl, d2, rfl⟩
        have HRDD := hide (readA (HC3.out.drewN (d1 + d2)) HG.out die blk 0)
        have HRZ := hide (rd_zero HAT.out hp1)
        clear HWE
        go_wp2_with fail
        refine HRDD.out.mono ?_
        rintro e W6 ⟨hb6, ⟨hne, -⟩ | ⟨-, D, c', rfl, ho, hlen⟩⟩
        · exact absurd HRZ.out hne
        obtain ⟨pg, hpg⟩ : ∃ pg, pg = ((onS s).blk (ix g die blk)).pg (0 : Int).toNat := ⟨_, rfl⟩
        rw [← hpg] at ho hlen
        have HPG : Hid (pg = l0.take (l0.length / 2) ++ (List.replicate g.y 255).drop (l0.length / 2)) := hide (by rw [hpg]; exact HT.out.2.1)
        have HB6 := hide (HB1.out.trans ((HB3.out.trans (((below_drewN (Below.refl _ _) (d1 + d2)).trans hb6).mono HB3.out.size)).mono HB1.out.size))
        have hk3 : W6.cell? ⟨w.heap.size, 3, none⟩ = some (.int .i64 (g.y : Int)) := by
          have h := (HK1.out.below (HB3.out.trans (((below_drewN (Below.refl _ _) (d1 + d2)).trans hb6).mono HB3.out.size)) HGL.out).at_ (i := 3) (u := .int .i64 gy) rfl
          rw [HGG.out] at h
          exact h
        have HOB := hide (Rd.of_own ho)
        have HLEN := hide hlen
        have x5 : ((g.y : Int) != (g.y : Int)) = false := by simp
        have HDB := hide (HD0.out.below HB6.out)
        obtain ⟨bD, oD, hDA, -, -⟩ := HOB.out.form (by rw [u8v_length, HLEN.out]; omega)
        obtain ⟨bA, oA, hAA, -, -⟩ := HDB.out.form (by rw [u8v_length, HLY.out]; omega)
        subst hDA
        subst hAA
        clear hpg hlen ho hb6 HRDD
        go_wp2_with fail
        clear hk3
        go_loopw [30] (fun i wq => ∃ (j d : Nat), j ≤ g.y ∧ i = .int .i64 j ∧ wq = W6.drewN d) (fun i _ => g.y - (intOf i).toNat)
        case atStart => exact ⟨0, 0, by omega, rfl, rfl⟩
        case round =>
          obtain ⟨j, d, hj, rfl, rfl⟩ := hrel
          by_cases hlt2 : j < g.y
          · have hd2 : decide (j < g.y) = true := by simp; omega
            have hd2' : decide ((j : Int) < (g.y : Int)) = true := by simp; omega
            have hjy : (j : Int) < (g.y : Int) := by omega
            obtain ⟨hf', hfd⟩ : ∃ hf', hf' = g.y / 2 := ⟨_, rfl⟩
            have q2 : (g.y : Int) / 2 = (hf' : Int) := by omega
            have q2' : (g.y : Int).tdiv 2 = (hf' : Int) := by rw [Int.tdiv_eq_ediv_of_nonneg (by omega)]; omega
            have HTA := hide (torn_at (i := j) HLY.out hlt2)
            rw [← HPG.out, ← hfd] at HTA
            clear hfd
            have hjl : j < pg.length := by rw [HLEN.out]; exact hlt2
            have hjl0 : j < l0.length := by rw [HLY.out]; exact hlt2
            obtain ⟨b1, o1, e1, c1⟩ := HOB.out.at_ (i := j) (by rw [u8v_length]; exact hjl)
            obtain ⟨b2, o2, e2, c2⟩ := HDB.out.at_ (i := j) (by rw [u8v_length]; exact hjl0)
            injection e1 with e1
            injection e1 with e1a e1b
            subst e1a e1b
            injection e2 with e2
            injection e2 with e2a e2b
            subst e2a e2b
            have hn0 : (j : Int) < (n0 : Int) := by rw [HNY.out]; exact hjy
            have v1 : (u8v pg)[j]'(by rw [u8v_length]; exact hjl) = .int .u8 (((pg[j]'hjl).toNat : Nat) : Int) := by simp [u8v]
            have v2 : (u8v l0)[j]'(by rw [u8v_length]; exact hjl0) = .int .u8 (((l0[j]'hjl0).toNat : Nat) : Int) := by simp [u8v]
            rw [v1] at c1
            rw [v2] at c2
            by_cases hhalf : j < hf'
            · have g1 : decide (j < hf') = true := by simpa using hhalf
              have g1' : decide ((j : Int) < (hf' : Int)) = true := by simp; omega
              have g2 : decide (hf' ≤ j) = false := by simp; omega
              have g2' : decide ((j : Int) ≥ (hf' : Int)) = false := by simp; omega
              have hval := HTA.out.1 hhalf
              rw [List.getElem?_eq_getElem hjl, List.getElem?_eq_getElem hjl0] at hval
              injection hval with hval
              rw [hval] at c1
              generalize (l0[j]'hjl0).toNat = bv at *
              have x9 : ((bv : Int) != (bv : Int)) = false := by simp
              clear hval v1 v2
              go_wp2_with fail
              go_quiet (fail)
              go_wp2_with fail
              go_roundw
              case rel => exact ⟨j + 1, _, by omega, by go_num, rfl⟩
              case measure => simp [intOf]; omega
            · have g1 : decide (j < hf') = false := by simpa using hhalf
              have g1' : decide ((j : Int) < (hf' : Int)) = false := by simp; omega
              have g2 : decide (hf' ≤ j) = true := by simp; omega
              have g2' : decide ((j : Int) ≥ (hf' : Int)) = true := by simp; omega
              have hval := HTA.out.2 (by omega)
              rw [List.getElem?_eq_getElem hjl] at hval
              injection hval with hval
              rw [hval] at c1
              clear hval v1 v2 c2
              go_wp2_with fail
              go_quiet (fail)
              go_wp2_with fail
              go_roundw
              case rel => exact ⟨j + 1, _, by omega, by go_num, rfl⟩
              case measure => simp [intOf]; omega
          · have hd2 : decide (j < g.y) = false := by simp; omega
            have hd2' : decide ((j : Int) < (g.y : Int)) = false := by simp; omega
            go_wp2_with fail
            go_ret
            exact ⟨rfl, below_drewN HB6.out d⟩
  · have hne := torn_not hpf
    rw [← HPE.out] at hne
    have x7 : decide (pe = 7) = false := decide_eq_false hne.2
    have HLB := hide (HB1.out.trans (HL4.out.low.mono HB1.out.size))
    rw [x7, errV_ne hne.1]
    clear hpf hne x7
    unfold errR
    go_wp2_with fail
    go_ret
    exact ⟨rfl, HLB.out⟩
end Go.Proofs.YtbldjiofchaigaaDoor.ChipW
