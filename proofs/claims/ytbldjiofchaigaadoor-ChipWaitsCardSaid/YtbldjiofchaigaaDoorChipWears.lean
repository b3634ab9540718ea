/- The walk of granarylaw1.ChipWears. -/
import Derived.Test.YtbldjiofchaigaaDoorChipTurns
set_option linter.unusedVariables false
namespace Go.Proofs.YtbldjiofchaigaaDoor.ChipW
open Go.RowKit ChipP CopyW ToldW

theorem err_any (x k : Int) (w : World) (hE : ErrT w) : Calls Tryd.prog 17 #[errV x, .int .i64 k] w fun e w' => e = .returned (.bool (decide (x = k))) ∧ Below w.heap.size w w' := by
  by_cases h : x = 0
  · subst h
    rw [errV_zero]
    exact error_nil k w _ rfl
  · rw [errV_ne h]
    exact error_some x k w hE _ rfl
theorem RI.errT {w w1 W : World} {gb c : Nat} {g : Geo} {s : St} {i : Nat} {o : COp} (h : RI w1 W gb c g s i o) (hE : ErrT w) (hb : Below w.heap.size w w1) : ErrT W := (hE.below hb (Nat.le_refl _)).below h.low (Nat.le_refl _)
/-- What an erase does to one block's wear and whether it is bad. -/
theorem er_self {g : Geo} {s : St} {die k fault : Int} (h1 : 0 ≤ die) (h2 : die < g.d) (h3 : 0 ≤ k) (h4 : k < g.b) (ho : s.off = false) :
    ((fault = 0 ∧ erE g s die k fault = 0 ∧ ((erS g s die k fault).blk (ix g die k)).wr = (s.blk (ix g die k)).wr + 1 ∧ (s.blk (ix g die k)).bad = false) ∨
     (fault = 2 ∧ erE g s die k fault = 7 ∧ ((erS g s die k fault).blk (ix g die k)).wr = (s.blk (ix g die k)).wr + 1 ∧ (s.blk (ix g die k)).bad = false) ∨
     (erE g s die k fault ≠ 0 ∧ erE g s die k fault ≠ 7 ∧ ((erS g s die k fault).blk (ix g die k)).wr = (s.blk (ix g die k)).wr ∧ ((s.blk (ix g die k)).bad = true → ((erS g s die k fault).blk (ix g die k)).bad = true))) := by
  have hat := at_on (g := g) h1 h2 h3 h4 ho
  by_cases h : erF g s die k fault = 0
  · have hz := er_zero h
    have hE : erE g s die k fault = endF fault := if_neg (fun hh => hh h)
    have hb : ∀ j : Nat, ((erS g s die k fault).blk (ix g die k)) = erB g (s.blk (ix g die k)) fault := fun _ => by rw [er_yes h]; exact upd_eq _ _ _
    have hc : fault = 0 ∨ fault = 1 ∨ fault = 2 := by omega
    rcases hc with rfl | rfl | rfl
    · exact .inl ⟨rfl, by rw [hE]; rfl, by rw [hb 0]; rfl, hz.2.2.2⟩
    · refine .inr (.inr ⟨by rw [hE]; decide, by rw [hE]; decide, by rw [hb 0]; rfl, fun _ => by rw [hb 0]; rfl⟩)
    · exact .inr (.inl ⟨rfl, by rw [hE]; rfl, by rw [hb 0]; rfl, hz.2.2.2⟩)
  · have hE : erE g s die k fault = erF g s die k fault := if_pos h
    refine .inr (.inr ⟨by rw [hE]; exact h, ?_, by rw [er_no h], fun hh => by rw [er_no h]; exact hh⟩)
    rw [hE]
    unfold erF
    rw [if_neg (fun hh => hh hat)]
    by_cases a1 : fault < 0 ∨ 2 < fault
    · rw [if_pos a1]; decide
    · rw [if_neg a1]
      by_cases a2 : (s.blk (ix g die k)).bad = true
      · rw [if_pos a2]; decide
      · rw [if_neg a2]; decide
attribute [local irreducible] progE progS progF erE erS erF atF nxF wrF badF rdF errV ix Geo.n ChipAt copC mix
set_option maxRecDepth 20000 in
set_option maxHeartbeats 3000000 in
theorem wears_law (w : World) (hE : ErrT w) (gd gb' gp gy : Int) (i1 : inI64 gd) (i2 : inI64 gb') (i3 : inI64 gp) (i4 : inI64 gy) (die : Int) (t1 : -9223372036854775808 ≤ die) (t2 : die ≤ 9223372036854775807) (blk : Int) (t3 : -9223372036854775808 ≤ blk) (t4 : blk ≤ 9223372036854775807)
    (A : Option Addr) (n cc : Nat) (S : Nat → COp) (hnc : n ≤ cc) (hf : n * 64 ≤ 140737488351232) (hr : RdC w A n S) :
    Calls Tryd.prog 5 #[.agg #[.int .i64 gd, .int .i64 gb', .int .i64 gp, .int .i64 gy], .int .i64 die, .int .i64 blk, .slice A n cc] w fun e w' => e = .returned (.bool true) ∧ Below w.heap.size w w' := by
  have HK := hide (Bk.new w 23 #[.int .i64 gd, .int .i64 gb', .int .i64 gp, .int .i64 gy])
  have HB0 : Hid (Below w.heap.size w (w.alloc (.cells #[.int .i64 gd, .int .i64 gb', .int .i64 gp, .int .i64 gy] 23))) := hide ((Below.refl _ _).alloc (Nat.le_refl _) _)
  have HR := hide hr
  have HFACT := hide (fact_any (w.alloc (.cells #[.int .i64 gd, .int .i64 gb', .int .i64 gp, .int .i64 gy] 23)) (hE.below HB0.out (Nat.le_refl _)))
  have HI4 := hide i4
  have HE := hide hE
  clear hE hr i1 i2 i3 i4
  go_enter Tryd.func5, Tryd.ntmps5
  go_wp2_with fail
  refine HFACT.out.mono ?_
  rintro e w1 ⟨rfl, hb1⟩
  have HK1 := hide (HK.out.below hb1 HK.out.lt)
  have HB1 := hide (HB0.out.trans (hb1.mono HB0.out.size))
  have k0 := HK1.out.at_ (i := 0) (u := .int .i64 gd) rfl
  have k1 := HK1.out.at_ (i := 1) (u := .int .i64 gb') rfl
  have k2 := HK1.out.at_ (i := 2) (u := .int .i64 gp) rfl
  have k3 := HK1.out.at_ (i := 3) (u := .int .i64 gy) rfl
  have HNEW := hide (new_any w1 (fun j => j < w1.heap.size) (fun _ h => h) gd gb' gp gy (by have := HI4.out; unfold inI64 at this; omega) (by have := HI4.out; unfold inI64 at this; omega))
  unfold geoV at HNEW
  have HGL : Hid (w.heap.size < w1.heap.size) := hide (Nat.lt_of_lt_of_le HK.out.lt hb1.size)
  clear hb1 HFACT HK
  go_wp2_with fail
  refine HNEW.out.mono ?_
  rintro e w2 ⟨hb2, ⟨hbad, rfl⟩ | ⟨hok, c, rfl, hc⟩⟩
  · have HB2 := hide (HB1.out.trans (hb2.mono HB1.out.size))
    clear hb2 HNEW k0 k1 k2 k3
    unfold errR
    go_wp2_with fail
    go_ret
    exact ⟨rfl, HB2.out⟩
  have hg := geo_ok hok
  have HGY : Hid (gy = ((gy.toNat : Nat) : Int)) := hide (by unfold badG at hok; omega)
  obtain ⟨g, hgg⟩ : ∃ g : Geo, g = ⟨gd.toNat, gb'.toNat, gp.toNat, gy.toNat⟩ := ⟨_, rfl⟩
  have HGG : Hid (gy = (g.y : Int)) := hide (by rw [hgg]; exact HGY.out)
  rw [← hgg] at hc hg
  have hp16 := hg.p16
  have hp1 := hg.p1
  have hy8 := hg.y8
  have hy256 := hg.y256
  have HG := hide hg
  have HLI := hide (LI.start hc hb2)
  clear hb2 hok hc hgg HNEW k0 k1 k2 k3 hg
  have HN2 := hide (nextA HLI.out.chip HG.out die blk)
  unfold ptr
  go_wp2_with fail
  refine HN2.out.mono ?_
  rintro e w3 ⟨rfl, d, rfl⟩
  clear HN2
  by_cases hat : atF g (newS g) die blk = 0
  · have hz := at_zero hat
    have HZ : Hid (0 ≤ die ∧ die < g.d ∧ 0 ≤ blk ∧ blk < g.b) := hide hz.2
    obtain ⟨K, hK⟩ : ∃ K, K = ix g die blk := ⟨_, rfl⟩
    have HKK := hide hK
    rw [hat, errV_zero]
    clear hz hat hK
    go_wp2_with fail
    go_loopw [12, 13] (fun worn i wr => ∃ (s : St) (m : Nat), m ≤ n ∧ i = .int .i64 m ∧ worn = .int .i64 ((s.blk K).wr : Int) ∧ s.off = false ∧ Hid (LI w1 wr c g s m)) (fun _ i _ => n - (intOf i).toNat)
    case atStart => exact ⟨newS g, 0, by omega, rfl, rfl, rfl, hide (HLI.out.drewN d)⟩
    case round =>
      obtain ⟨s, m, hm, rfl, rfl, hoff, HL⟩ := hrel
      have HOFF := hide hoff
      obtain ⟨v, hv⟩ : ∃ v, v = (s.blk K).wr := ⟨_, rfl⟩
      have hvm : v ≤ m := by rw [hv]; exact HL.out.wr K
      have HV := hide hv
      obtain ⟨bv, hbv⟩ : ∃ bv, bv = (s.blk K).bad := ⟨_, rfl⟩
      have HBV := hide hbv
      rw [← hv]
      clear hv hbv hoff
      by_cases hlt : m < n
      · have hd1 : decide (m < n) = true := by simp; omega
        have hd1' : decide ((m : Int) < (n : Int)) = true := by simp; omega
        have hmi : (m : Int) < (n : Int) := by omega
        have HBW : Hid (Below w.heap.size w wr) := hide (HB1.out.trans (HL.out.low.mono HB1.out.size))
        obtain ⟨b, off, rfl, hbl, hcells, ho1, ho2, ho3, ho4, ho5, ho6, ho7, ho8⟩ := HR.out m hlt
        obtain ⟨o, ho⟩ : ∃ o, o = S m := ⟨_, rfl⟩
        rw [← ho] at hcells ho1 ho2 ho3
        clear ho
        obtain ⟨z0, z1, z2, z3, z4, z5⟩ := cop_cells HBW.out hbl hcells
        have HRI : Hid (RI w1 (wr.alloc (.cells #[.int .i64 o.kind, .int .i64 o.die, .int .i64 o.blk, .int .i64 o.page, .slice o.A o.l.length o.c, .int .i64 o.fault] 35)) wr.heap.size c g s m o) := hide (RI.start2 HL.out o)
        have y0 := HRI.out.y0
        have y1 := HRI.out.y1
        have y2 := HRI.out.y2
        have y3 := HRI.out.y3
        have y4 := HRI.out.y4
        have y5 := HRI.out.y5
        have HRD := hide (((ho3.below HBW.out)).alloc (.cells #[.int .i64 o.kind, .int .i64 o.die, .int .i64 o.blk, .int .i64 o.page, .slice o.A o.l.length o.c, .int .i64 o.fault] 35))
        have HOA : Hid (u8v o.l ≠ [] → ∀ ad, o.A = some ad → ad.block < w1.heap.size ∨ ad.block = wr.heap.size) := hide (fun hne ad e => .inl (by
          obtain ⟨b2, off2, hA2, hlt2, -⟩ := ho3.form (List.length_pos_iff.2 hne)
          rw [hA2] at e
          injection e with e
          rw [← e]
          exact Nat.lt_of_lt_of_le hlt2 HB1.out.size))
        have HOL := hide (And.intro ho1 ho2)
        clear hcells ho1 ho2 ho3 ho4 ho5 ho6 ho7 ho8 hbl HBW
        have HAT0 : Hid (atF g s die blk = 0) := hide (at_on HZ.out.1 HZ.out.2.1 HZ.out.2.2.1 HZ.out.2.2.2 HOFF.out)
        have HBA := hide (badA HRI.out.chip HG.out die blk)
        have HBF : Hid (badF g s die blk = bv) := hide (by rw [HBV.out, HKK.out]; exact bad_ok HAT0.out)
        rw [HAT0.out, HBF.out, errV_zero] at HBA
        go_wp2_with fail
        generalize wr.alloc (.cells #[.int .i64 o.kind, .int .i64 o.die, .int .i64 o.blk, .int .i64 o.page, .slice o.A o.l.length o.c, .int .i64 o.fault] 35) = W2 at *
        generalize wr.heap.size = gx at *
        clear z0 z1 z2 z3 z4 z5
        refine HBA.out.mono ?_
        rintro e W9 ⟨rfl, d0, rfl⟩
        have HRI2 := hide (HRI.out.drewN d0)
        clear HBA
        by_cases hk3 : o.kind = 3
        · have hk3b : (o.kind == 3) = true := by simpa using hk3
          have HER := hide (erA HRI2.out.chip HG.out o.die o.blk o.fault HRI2.out.bound (fun k => by have := HRI2.out.wr k; omega))
          obtain ⟨s3, hs3⟩ : ∃ s3, s3 = erS g s o.die o.blk o.fault := ⟨_, rfl⟩
          have HS3 := hide hs3
          obtain ⟨ee, hee⟩ : ∃ ee, ee = erE g s o.die o.blk o.fault := ⟨_, rfl⟩
          have HEE := hide hee
          rw [← hs3, ← hee] at HER
          clear hk3 hs3 hee
          go_wp2_with fail
          refine HER.out.mono ?_
          rintro e W3 ⟨rfl, hc3, hk3⟩
          have HR2 := hide (HRI2.out.keepE hc3 hk3 (fun k => by rw [HS3.out]; exact er_wr _ _ _ m HRI2.out.wr k) (fun k => by rw [HS3.out]; exact er_nx _ _ _ HRI2.out.nx k))
          clear hc3 hk3 HER y0 y1 y2 y3 y4 y5
          have HERR := hide (err_any ee 7 W3 (HR2.out.errT HE.out HB1.out))
          go_wp2_with fail
          refine HERR.out.mono ?_
          rintro e W8 ⟨rfl, hb8⟩
          have HR3 := hide (HR2.out.below hb8)
          clear hb8 HERR HR2
          have y1 := HR3.out.y1
          have y2 := HR3.out.y2
          by_cases hhere : o.die = die ∧ o.blk = blk
          · have x1 : (o.die == die) = true := by simpa using hhere.1
            have x2 : (o.blk == blk) = true := by simpa using hhere.2
            have hself := er_self (g := g) (s := s) (fault := o.fault) HZ.out.1 HZ.out.2.1 HZ.out.2.2.1 HZ.out.2.2.2 HOFF.out
            have e1 : erE g s die blk o.fault = ee := by rw [HEE.out, hhere.1, hhere.2]
            have e2 : erS g s die blk o.fault = s3 := by rw [HS3.out, hhere.1, hhere.2]
            rw [e1, e2, ← HKK.out, ← HV.out, ← HBV.out] at hself
            clear e1 e2 hhere
            rcases hself with ⟨-, he, hw, hb⟩ | ⟨-, he, hw, hb⟩ | ⟨he0, he7, hw, hb⟩
            · have HVW := hide hw
              have HVB : Hid (bv = true → (s3.blk K).bad = true) := hide (fun h => by rw [hb] at h; cases h)
              rw [he, errV_zero]
              clear he hw hb
              have HON := hide (onA HR3.out.chip)
              go_wp2_with fail
              refine HON.out.mono ?_
              rintro e W4 ⟨rfl, hc4, hk4⟩
              have HR4 := hide (HR3.out.keep hc4 hk4 HR3.out.wr HR3.out.nx)
              clear hc4 hk4 HON
              have HAT : Hid (atF g (onS s3) die blk = 0) := hide (at_on HZ.out.1 HZ.out.2.1 HZ.out.2.2.1 HZ.out.2.2.2 rfl)
              have HWX : Hid (wrF g (onS s3) die blk = ((v + 1 : Nat) : Int)) := hide (by rw [← HVW.out, HKK.out]; exact wr_ok HAT.out)
              have HBX : Hid (badF g (onS s3) die blk = (s3.blk K).bad) := hide (by rw [HKK.out]; exact bad_ok HAT.out)
              have HWE := hide (wearA HR4.out.chip HG.out die blk)
              rw [HAT.out, HWX.out, errV_zero] at HWE
              go_wp2_with fail
              refine HWE.out.mono ?_
              rintro e W5 ⟨rfl, d1, rfl⟩
              have HBE := hide (badA (HR4.out.drewN d1).chip HG.out die blk)
              rw [HAT.out, HBX.out, errV_zero] at HBE
              obtain ⟨b3, hb3⟩ : ∃ b3, b3 = (s3.blk K).bad := ⟨_, rfl⟩
              have HB3 := hide hb3
              rw [← hb3] at HBE
              clear hb3 HWE
              go_wp2_with fail
              refine HBE.out.mono ?_
              rintro e W6 ⟨rfl, d2, rfl⟩
              have HEND := hide (HR4.out.drewN (d1 + d2)).end_
              have x9 : (((v + 1 : Nat) : Int) != ((v + 1 : Nat) : Int)) = false := by simp
              have x9' : ((v : Int) + 1 != (v : Int) + 1) = false := by simp
              clear HBE HR3 HR4
              cases bv with
              | false =>
                go_wp2_with fail
                go_roundw
                case rel => exact ⟨onS s3, m + 1, by omega, by go_num, by rw [show ((onS s3).blk K).wr = (s3.blk K).wr from rfl, HVW.out]; rfl, rfl, HEND⟩
                case measure => simp [intOf]; omega
              | true =>
                obtain rfl : b3 = true := HB3.out.trans (HVB.out rfl)
                go_wp2_with fail
                go_roundw
                case rel => exact ⟨onS s3, m + 1, by omega, by go_num, by rw [show ((onS s3).blk K).wr = (s3.blk K).wr from rfl, HVW.out]; rfl, rfl, HEND⟩
                case measure => simp [intOf]; omega
            · have HVW := hide hw
              have HVB : Hid (bv = true → (s3.blk K).bad = true) := hide (fun h => by rw [hb] at h; cases h)
              have x3 : decide (ee = 7) = true := decide_eq_true he
              rw [x3, errV_ne (by rw [he]; decide)]
              clear he hw hb x3
              unfold errR
              have HON := hide (onA HR3.out.chip)
              go_wp2_with fail
              refine HON.out.mono ?_
              rintro e W4 ⟨rfl, hc4, hk4⟩
              have HR4 := hide (HR3.out.keep hc4 hk4 HR3.out.wr HR3.out.nx)
              clear hc4 hk4 HON
              have HAT : Hid (atF g (onS s3) die blk = 0) := hide (at_on HZ.out.1 HZ.out.2.1 HZ.out.2.2.1 HZ.out.2.2.2 rfl)
              have HWX : Hid (wrF g (onS s3) die blk = ((v + 1 : Nat) : Int)) := hide (by rw [← HVW.out, HKK.out]; exact wr_ok HAT.out)
              have HBX : Hid (badF g (onS s3) die blk = (s3.blk K).bad) := hide (by rw [HKK.out]; exact bad_ok HAT.out)
              have HWE := hide (wearA HR4.out.chip HG.out die blk)
              rw [HAT.out, HWX.out, errV_zero] at HWE
              go_wp2_with fail
              refine HWE.out.mono ?_
              rintro e W5 ⟨rfl, d1, rfl⟩
              have HBE := hide (badA (HR4.out.drewN d1).chip HG.out die blk)
              rw [HAT.out, HBX.out, errV_zero] at HBE
              obtain ⟨b3, hb3⟩ : ∃ b3, b3 = (s3.blk K).bad := ⟨_, rfl⟩
              have HB3 := hide hb3
              rw [← hb3] at HBE
              clear hb3 HWE
              go_wp2_with fail
              refine HBE.out.mono ?_
              rintro e W6 ⟨rfl, d2, rfl⟩
              have HEND := hide (HR4.out.drewN (d1 + d2)).end_
              have x9 : (((v + 1 : Nat) : Int) != ((v + 1 : Nat) : Int)) = false := by simp
              have x9' : ((v : Int) + 1 != (v : Int) + 1) = false := by simp
              clear HBE HR3 HR4
              cases bv with
              | false =>
                go_wp2_with fail
                go_roundw
                case rel => exact ⟨onS s3, m + 1, by omega, by go_num, by rw [show ((onS s3).blk K).wr = (s3.blk K).wr from rfl, HVW.out]; rfl, rfl, HEND⟩
                case measure => simp [intOf]; omega
              | true =>
                obtain rfl : b3 = true := HB3.out.trans (HVB.out rfl)
                go_wp2_with fail
                go_roundw
                case rel => exact ⟨onS s3, m + 1, by omega, by go_num, by rw [show ((onS s3).blk K).wr = (s3.blk K).wr from rfl, HVW.out]; rfl, rfl, HEND⟩
                case measure => simp [intOf]; omega
            · have HVW := hide hw
              have HVB := hide hb
              have x3 : decide (ee = 7) = false := decide_eq_false he7
              rw [x3, errV_ne he0]
              clear he0 he7 hw hb x3
              unfold errR
              have HON := hide (onA HR3.out.chip)
              go_wp2_with fail
              refine HON.out.mono ?_
              rintro e W4 ⟨rfl, hc4, hk4⟩
              have HR4 := hide (HR3.out.keep hc4 hk4 HR3.out.wr HR3.out.nx)
              clear hc4 hk4 HON
              have HAT : Hid (atF g (onS s3) die blk = 0) := hide (at_on HZ.out.1 HZ.out.2.1 HZ.out.2.2.1 HZ.out.2.2.2 rfl)
              have HWX : Hid (wrF g (onS s3) die blk = ((v : Nat) : Int)) := hide (by rw [← HVW.out, HKK.out]; exact wr_ok HAT.out)
              have HBX : Hid (badF g (onS s3) die blk = (s3.blk K).bad) := hide (by rw [HKK.out]; exact bad_ok HAT.out)
              have HWE := hide (wearA HR4.out.chip HG.out die blk)
              rw [HAT.out, HWX.out, errV_zero] at HWE
              go_wp2_with fail
              refine HWE.out.mono ?_
              rintro e W5 ⟨rfl, d1, rfl⟩
              have HBE := hide (badA (HR4.out.drewN d1).chip HG.out die blk)
              rw [HAT.out, HBX.out, errV_zero] at HBE
              obtain ⟨b3, hb3⟩ : ∃ b3, b3 = (s3.blk K).bad := ⟨_, rfl⟩
              have HB3 := hide hb3
              rw [← hb3] at HBE
              clear hb3 HWE
              go_wp2_with fail
              refine HBE.out.mono ?_
              rintro e W6 ⟨rfl, d2, rfl⟩
              have HEND := hide (HR4.out.drewN (d1 + d2)).end_
              have x9 : (((v : Nat) : Int) != ((v : Nat) : Int)) = false := by simp
              have x9' := x9
              clear HBE HR3 HR4
              cases bv with
              | false =>
                go_wp2_with fail
                go_roundw
                case rel => exact ⟨onS s3, m + 1, by omega, by go_num, by rw [show ((onS s3).blk K).wr = (s3.blk K).wr from rfl, HVW.out], rfl, HEND⟩
                case measure => simp [intOf]; omega
              | true =>
                obtain rfl : b3 = true := HB3.out.trans (HVB.out rfl)
                go_wp2_with fail
                go_roundw
                case rel => exact ⟨onS s3, m + 1, by omega, by go_num, by rw [show ((onS s3).blk K).wr = (s3.blk K).wr from rfl, HVW.out], rfl, HEND⟩
                case measure => simp [intOf]; omega
          · have HVW : Hid ((s3.blk K).wr = v) := hide (by rw [HS3.out, HKK.out, er_far HZ.out.1 HZ.out.2.1 HZ.out.2.2.1 HZ.out.2.2.2 hhere, HV.out, HKK.out])
            have HVB : Hid (bv = true → (s3.blk K).bad = true) := hide (fun h => by rw [HS3.out, HKK.out, er_far HZ.out.1 HZ.out.2.1 HZ.out.2.2.1 HZ.out.2.2.2 hhere, ← HKK.out, ← HBV.out, h])
            by_cases hd0 : o.die = die
            · have x1 : (o.die == die) = true := by simpa using hd0
              have x2 : (o.blk == blk) = false := by simp; exact fun e => hhere ⟨hd0, e⟩
              clear hhere hd0
              have HON := hide (onA HR3.out.chip)
              go_wp2_with fail
              refine HON.out.mono ?_
              rintro e W4 ⟨rfl, hc4, hk4⟩
              have HR4 := hide (HR3.out.keep hc4 hk4 HR3.out.wr HR3.out.nx)
              clear hc4 hk4 HON
              have HAT : Hid (atF g (onS s3) die blk = 0) := hide (at_on HZ.out.1 HZ.out.2.1 HZ.out.2.2.1 HZ.out.2.2.2 rfl)
              have HWX : Hid (wrF g (onS s3) die blk = ((v : Nat) : Int)) := hide (by rw [← HVW.out, HKK.out]; exact wr_ok HAT.out)
              have HBX : Hid (badF g (onS s3) die blk = (s3.blk K).bad) := hide (by rw [HKK.out]; exact bad_ok HAT.out)
              have HWE := hide (wearA HR4.out.chip HG.out die blk)
              rw [HAT.out, HWX.out, errV_zero] at HWE
              go_wp2_with fail
              refine HWE.out.mono ?_
              rintro e W5 ⟨rfl, d1, rfl⟩
              have HBE := hide (badA (HR4.out.drewN d1).chip HG.out die blk)
              rw [HAT.out, HBX.out, errV_zero] at HBE
              obtain ⟨b3, hb3⟩ : ∃ b3, b3 = (s3.blk K).bad := ⟨_, rfl⟩
              have HB3 := hide hb3
              rw [← hb3] at HBE
              clear hb3 HWE
              go_wp2_with fail
              refine HBE.out.mono ?_
              rintro e W6 ⟨rfl, d2, rfl⟩
              have HEND := hide (HR4.out.drewN (d1 + d2)).end_
              have x9 : (((v : Nat) : Int) != ((v : Nat) : Int)) = false := by simp
              have x9' := x9
              clear HBE HR3 HR4
              cases bv with
              | false =>
                go_wp2_with fail
                go_roundw
                case rel => exact ⟨onS s3, m + 1, by omega, by go_num, by rw [show ((onS s3).blk K).wr = (s3.blk K).wr from rfl, HVW.out], rfl, HEND⟩
                case measure => simp [intOf]; omega
              | true =>
                obtain rfl : b3 = true := HB3.out.trans (HVB.out rfl)
                go_wp2_with fail
                go_roundw
                case rel => exact ⟨onS s3, m + 1, by omega, by go_num, by rw [show ((onS s3).blk K).wr = (s3.blk K).wr from rfl, HVW.out], rfl, HEND⟩
                case measure => simp [intOf]; omega
            · have x1 : (o.die == die) = false := by simpa using hd0
              clear hhere hd0
              have HON := hide (onA HR3.out.chip)
              go_wp2_with fail
              refine HON.out.mono ?_
              rintro e W4 ⟨rfl, hc4, hk4⟩
              have HR4 := hide (HR3.out.keep hc4 hk4 HR3.out.wr HR3.out.nx)
              clear hc4 hk4 HON
              have HAT : Hid (atF g (onS s3) die blk = 0) := hide (at_on HZ.out.1 HZ.out.2.1 HZ.out.2.2.1 HZ.out.2.2.2 rfl)
              have HWX : Hid (wrF g (onS s3) die blk = ((v : Nat) : Int)) := hide (by rw [← HVW.out, HKK.out]; exact wr_ok HAT.out)
              have HBX : Hid (badF g (onS s3) die blk = (s3.blk K).bad) := hide (by rw [HKK.out]; exact bad_ok HAT.out)
              have HWE := hide (wearA HR4.out.chip HG.out die blk)
              rw [HAT.out, HWX.out, errV_zero] at HWE
              go_wp2_with fail
              refine HWE.out.mono ?_
              rintro e W5 ⟨rfl, d1, rfl⟩
              have HBE := hide (badA (HR4.out.drewN d1).chip HG.out die blk)
              rw [HAT.out, HBX.out, errV_zero] at HBE
              obtain ⟨b3, hb3⟩ : ∃ b3, b3 = (s3.blk K).bad := ⟨_, rfl⟩
              have HB3 := hide hb3
              rw [← hb3] at HBE
              clear hb3 HWE
              go_wp2_with fail
              refine HBE.out.mono ?_
              rintro e W6 ⟨rfl, d2, rfl⟩
              have HEND := hide (HR4.out.drewN (d1 + d2)).end_
              have x9 : (((v : Nat) : Int) != ((v : Nat) : Int)) = false := by simp
              have x9' := x9
              clear HBE HR3 HR4
              cases bv with
              | false =>
                go_wp2_with fail
                go_roundw
                case rel => exact ⟨onS s3, m + 1, by omega, by go_num, by rw [show ((onS s3).blk K).wr = (s3.blk K).wr from rfl, HVW.out], rfl, HEND⟩
                case measure => simp [intOf]; omega
              | true =>
                obtain rfl : b3 = true := HB3.out.trans (HVB.out rfl)
                go_wp2_with fail
                go_roundw
                case rel => exact ⟨onS s3, m + 1, by omega, by go_num, by rw [show ((onS s3).blk K).wr = (s3.blk K).wr from rfl, HVW.out], rfl, HEND⟩
                case measure => simp [intOf]; omega
        · have hk3b : (o.kind == 3) = false := by simpa using hk3
          have HP := hide (progA HRI2.out.chip HG.out o.die o.blk o.page o.A o.l.length o.c o.l o.fault rfl HOL.out.1 (HRD.out.drewN d0) HOA.out (by have := HOL.out; omega))
          obtain ⟨s3, hs3⟩ : ∃ s3, s3 = progS g s o.die o.blk o.page o.l o.fault := ⟨_, rfl⟩
          have HS3 := hide hs3
          rw [← hs3] at HP
          clear hk3 hs3
          go_wp2_with fail
          refine HP.out.mono ?_
          rintro e W3 ⟨rfl, hc3, hk3⟩
          have HR3 := hide (HRI2.out.keepE hc3 hk3 (fun k => by rw [HS3.out, prog_wr]; exact Nat.le_succ_of_le (HRI2.out.wr k)) (fun k => by rw [HS3.out]; exact prog_nx _ _ _ _ _ HRI2.out.nx k))
          have HVW : Hid ((s3.blk K).wr = v) := hide (by rw [HS3.out, prog_wr, HV.out])
          have HVB : Hid (bv = true → (s3.blk K).bad = true) := hide (fun h => by rw [HS3.out, prog_bad_, ← HBV.out, h])
          clear hc3 hk3 HP y0 y1 y2 y3 y4 y5
          have HON := hide (onA HR3.out.chip)
          go_wp2_with fail
          refine HON.out.mono ?_
          rintro e W4 ⟨rfl, hc4, hk4⟩
          have HR4 := hide (HR3.out.keep hc4 hk4 HR3.out.wr HR3.out.nx)
          clear hc4 hk4 HON
          have HAT : Hid (atF g (onS s3) die blk = 0) := hide (at_on HZ.out.1 HZ.out.2.1 HZ.out.2.2.1 HZ.out.2.2.2 rfl)
          have HWX : Hid (wrF g (onS s3) die blk = ((v : Nat) : Int)) := hide (by rw [← HVW.out, HKK.out]; exact wr_ok HAT.out)
          have HBX : Hid (badF g (onS s3) die blk = (s3.blk K).bad) := hide (by rw [HKK.out]; exact bad_ok HAT.out)
          have HWE := hide (wearA HR4.out.chip HG.out die blk)
          rw [HAT.out, HWX.out, errV_zero] at HWE
          go_wp2_with fail
          refine HWE.out.mono ?_
          rintro e W5 ⟨rfl, d1, rfl⟩
          have HBE := hide (badA (HR4.out.drewN d1).chip HG.out die blk)
          rw [HAT.out, HBX.out, errV_zero] at HBE
          obtain ⟨b3, hb3⟩ : ∃ b3, b3 = (s3.blk K).bad := ⟨_, rfl⟩
          have HB3 := hide hb3
          rw [← hb3] at HBE
          clear hb3 HWE
          go_wp2_with fail
          refine HBE.out.mono ?_
          rintro e W6 ⟨rfl, d2, rfl⟩
          have HEND := hide (HR4.out.drewN (d1 + d2)).end_
          have x9 : (((v : Nat) : Int) != ((v : Nat) : Int)) = false := by simp
          have x9' := x9
          clear HBE HR3 HR4
          cases bv with
          | false =>
            go_wp2_with fail
            go_roundw
            case rel => exact ⟨onS s3, m + 1, by omega, by go_num, by rw [show ((onS s3).blk K).wr = (s3.blk K).wr from rfl, HVW.out], rfl, HEND⟩
            case measure => simp [intOf]; omega
          | true =>
            obtain rfl : b3 = true := HB3.out.trans (HVB.out rfl)
            go_wp2_with fail
            go_roundw
            case rel => exact ⟨onS s3, m + 1, by omega, by go_num, by rw [show ((onS s3).blk K).wr = (s3.blk K).wr from rfl, HVW.out], rfl, HEND⟩
            case measure => simp [intOf]; omega
      · have hd1 : decide (m < n) = false := by simp; omega
        have hd1' : decide ((m : Int) < (n : Int)) = false := by simp; omega
        have HLW := hide (HB1.out.trans (HL.out.low.mono HB1.out.size))
        go_wp2_with fail
        go_ret
        exact ⟨rfl, HLW.out⟩
  · rw [errV_ne hat]
    have HLB := hide (HB1.out.trans (HLI.out.low.mono HB1.out.size))
    clear hat
    unfold errR
    go_wp2_with fail
    go_ret
    exact ⟨rfl, below_drewN HLB.out d⟩
end Go.Proofs.YtbldjiofchaigaaDoor.ChipW
