/- The walk of granarylaw1.ChipTurns. -/
import Derived.Test.YtbldjiofchaigaaDoorChipI
set_option linter.unusedVariables false
namespace Go.Proofs.YtbldjiofchaigaaDoor.ChipW
open Go.RowKit ChipP CopyW ToldW

theorem geo_ok {gd gb gp gy : Int} (h : ¬ badG gd gb gp gy) : (⟨gd.toNat, gb.toNat, gp.toNat, gy.toNat⟩ : Geo).Ok := by
  unfold badG at h
  exact ⟨by show 1 ≤ gd.toNat; omega, by show gd.toNat ≤ 4; omega, by show 1 ≤ gb.toNat; omega, by show gb.toNat ≤ 16; omega, by show 1 ≤ gp.toNat; omega, by show gp.toNat ≤ 16; omega, by show 8 ≤ gy.toNat; omega, by show gy.toNat ≤ 256; omega⟩
theorem LI.start {w1 W : World} {c : Nat} {g : Geo} (hc : ChipAt W (fun j => j < w1.heap.size) c g (newS g)) (hb : Below w1.heap.size w1 W) : LI w1 W c g (newS g) 0 := ⟨hc, hb, fun _ => Nat.le_refl _, fun _ => Nat.zero_le _⟩
theorem LI.drewN {w1 W : World} {c i : Nat} {g : Geo} {s : St} (h : LI w1 W c g s i) (n : Nat) : LI w1 (W.drewN n) c g s i := ⟨h.chip.drewN n, below_drewN h.low n, h.wr, h.nx⟩
attribute [local irreducible] progE progS progF erE erS erF atF nxF wrF badF errV ix Geo.n ChipAt copC
set_option maxRecDepth 20000 in
set_option maxHeartbeats 2000000 in
theorem turns_law (w : World) (hE : ErrT w) (gd gb' gp gy : Int) (i1 : inI64 gd) (i2 : inI64 gb') (i3 : inI64 gp) (i4 : inI64 gy) (die : Int) (t1 : -9223372036854775808 ≤ die) (t2 : die ≤ 9223372036854775807) (blk : Int) (t3 : -9223372036854775808 ≤ blk) (t4 : blk ≤ 9223372036854775807)
    (A : Option Addr) (n cc : Nat) (S : Nat → COp) (hnc : n ≤ cc) (hf : n * 64 ≤ 140737488351232) (hr : RdC w A n S) :
    Calls Tryd.prog 3 #[.agg #[.int .i64 gd, .int .i64 gb', .int .i64 gp, .int .i64 gy], .int .i64 die, .int .i64 blk, .slice A n cc] w fun e w' => e = .returned (.bool true) ∧ Below w.heap.size w w' := by
  have HK := hide (Bk.new w 23 #[.int .i64 gd, .int .i64 gb', .int .i64 gp, .int .i64 gy])
  have HB0 : Hid (Below w.heap.size w (w.alloc (.cells #[.int .i64 gd, .int .i64 gb', .int .i64 gp, .int .i64 gy] 23))) := hide ((Below.refl _ _).alloc (Nat.le_refl _) _)
  have HR := hide hr
  have HFACT := hide (fact_any (w.alloc (.cells #[.int .i64 gd, .int .i64 gb', .int .i64 gp, .int .i64 gy] 23)) (hE.below HB0.out (Nat.le_refl _)))
  have HI4 := hide i4
  clear hE hr i1 i2 i3 i4
  go_enter Tryd.func3, Tryd.ntmps3
  go_wp2_with fail
  refine HFACT.out.mono ?_
  rintro e w1 ⟨rfl, hb1⟩
  have HK1 := hide (HK.out.below hb1 HK.out.lt)
  have HB1 := hide (HB0.out.trans (hb1.mono HB0.out.size))
  have k0 := HK1.out.at_ (i := 0) (u := .int .i64 gd) rfl
  have k1 := HK1.out.at_ (i := 1) (u := .int .i64 gb') rfl
  have k2 := HK1.out.at_ (i := 2) (u := .int .i64 gp) rfl
  have k3 := HK1.out.at_ (i := 3) (u := .int .i64 gy) rfl
  have HNEW := hide (new_any w1 (fun j => j < w1.heap.size) (fun _ h => h) gd gb' gp gy (by have := HI4.out; unfold inI64 at this; omega) (by have := HI4.out; unfold inI64 at this; omega))
  unfold geoV at HNEW
  have HGL : Hid (w.heap.size < w1.heap.size) := hide (Nat.lt_of_lt_of_le HK.out.lt hb1.size)
  clear hb1 HFACT HK
  go_wp2_with fail
  refine HNEW.out.mono ?_
  rintro e w2 ⟨hb2, ⟨hbad, rfl⟩ | ⟨hok, c, rfl, hc⟩⟩
  · have HB2 := hide (HB1.out.trans (hb2.mono HB1.out.size))
    clear hb2 HNEW k0 k1 k2 k3
    unfold errR
    go_wp2_with fail
    go_ret
    exact ⟨rfl, HB2.out⟩
  have hg := geo_ok hok
  have HGP : Hid (gp = ((gp.toNat : Nat) : Int)) := hide (by unfold badG at hok; omega)
  obtain ⟨g, hgg⟩ : ∃ g : Geo, g = ⟨gd.toNat, gb'.toNat, gp.toNat, gy.toNat⟩ := ⟨_, rfl⟩
  have HGG : Hid (gp = (g.p : Int)) := hide (by rw [hgg]; exact HGP.out)
  rw [← hgg] at hc hg
  have hp16 := hg.p16
  have HG := hide hg
  have HLI := hide (LI.start hc hb2)
  clear hb2 hok hc hgg HNEW k0 k1 k2 k3 hg
  have HN2 := hide (nextA HLI.out.chip HG.out die blk)
  unfold ptr
  go_wp2_with fail
  refine HN2.out.mono ?_
  rintro e w3 ⟨rfl, d, rfl⟩
  clear HN2
  by_cases hat : atF g (newS g) die blk = 0
  · have hz := at_zero hat
    have HNX0 : Hid (nxF g (newS g) die blk = 0) := hide (nx_ok hat)
    have HZ : Hid (0 ≤ die ∧ die < g.d ∧ 0 ≤ blk ∧ blk < g.b) := hide hz.2
    obtain ⟨K, hK⟩ : ∃ K, K = ix g die blk := ⟨_, rfl⟩
    have HKK := hide hK
    rw [hat, errV_zero, HNX0.out]
    clear hz hat hK
    go_wp2_with fail
    go_loopw [12, 13] (fun was i wr => ∃ (s : St) (m : Nat), m ≤ n ∧ i = .int .i64 m ∧ was = .int .i64 ((s.blk K).nx : Int) ∧ s.off = false ∧ Hid (LI w1 wr c g s m)) (fun _ i _ => n - (intOf i).toNat)
    case atStart => exact ⟨newS g, 0, by omega, rfl, rfl, rfl, hide (HLI.out.drewN d)⟩
    case round =>
      obtain ⟨s, m, hm, rfl, rfl, hoff, HL⟩ := hrel
      have HOFF := hide hoff
      clear hoff
      have HVP : Hid ((s.blk K).nx ≤ g.p) := hide (HL.out.nx K)
      obtain ⟨v, hv⟩ : ∃ v, v = (s.blk K).nx := ⟨_, rfl⟩
      have hv16 : v ≤ 16 := by rw [hv]; have := HVP.out; omega
      have HV := hide hv
      rw [← hv]
      clear hv
      by_cases hlt : m < n
      · have hd1 : decide (m < n) = true := by simp; omega
        have hd1' : decide ((m : Int) < (n : Int)) = true := by simp; omega
        have hmi : (m : Int) < (n : Int) := by omega
        have HBW : Hid (Below w.heap.size w wr) := hide (HB1.out.trans (HL.out.low.mono HB1.out.size))
        obtain ⟨b, off, rfl, hbl, hcells, ho1, ho2, ho3, ho4, ho5, ho6, ho7, ho8⟩ := HR.out m hlt
        obtain ⟨o, ho⟩ : ∃ o, o = S m := ⟨_, rfl⟩
        rw [← ho] at hcells ho1 ho2 ho3
        clear ho
        obtain ⟨z0, z1, z2, z3, z4, z5⟩ := cop_cells HBW.out hbl hcells
        have HRI : Hid (RI w1 (wr.alloc (.cells #[.int .i64 o.kind, .int .i64 o.die, .int .i64 o.blk, .int .i64 o.page, .slice o.A o.l.length o.c, .int .i64 o.fault] 35)) wr.heap.size c g s m o) := hide (RI.start2 HL.out o)
        have y0 := HRI.out.y0
        have y1 := HRI.out.y1
        have y2 := HRI.out.y2
        have y3 := HRI.out.y3
        have y4 := HRI.out.y4
        have y5 := HRI.out.y5
        have HRD := hide (((ho3.below HBW.out)).alloc (.cells #[.int .i64 o.kind, .int .i64 o.die, .int .i64 o.blk, .int .i64 o.page, .slice o.A o.l.length o.c, .int .i64 o.fault] 35))
        have HOA : Hid (u8v o.l ≠ [] → ∀ ad, o.A = some ad → ad.block < w1.heap.size ∨ ad.block = wr.heap.size) := hide (fun hne ad e => .inl (by
          obtain ⟨b2, off2, hA2, hlt2, -⟩ := ho3.form (List.length_pos_iff.2 hne)
          rw [hA2] at e
          injection e with e
          rw [← e]
          exact Nat.lt_of_lt_of_le hlt2 HB1.out.size))
        have HOL := hide (And.intro ho1 ho2)
        clear hcells ho1 ho2 ho3 ho4 ho5 ho6 ho7 ho8 hbl HBW
        by_cases hk1 : o.kind = 1
        · have hk1b : (o.kind == 1) = true := by simpa using hk1
          have hk3b : (o.kind == 3) = false := by rw [hk1]; decide
          clear hk1
          go_wp2_with fail
          generalize wr.alloc (.cells #[.int .i64 o.kind, .int .i64 o.die, .int .i64 o.blk, .int .i64 o.page, .slice o.A o.l.length o.c, .int .i64 o.fault] 35) = W2 at *
          generalize wr.heap.size = gx at *
          have HP := hide (progA HRI.out.chip HG.out o.die o.blk o.page o.A o.l.length o.c o.l o.fault rfl HOL.out.1 HRD.out HOA.out (by have := HOL.out; omega))
          obtain ⟨s3, hs3⟩ : ∃ s3, s3 = progS g s o.die o.blk o.page o.l o.fault := ⟨_, rfl⟩
          have HS3 := hide hs3
          obtain ⟨pe, hpe⟩ : ∃ pe, pe = progE g s o.die o.blk o.page o.l.length o.fault := ⟨_, rfl⟩
          have HPE := hide hpe
          rw [← hs3, ← hpe] at HP
          clear hs3 hpe z0 z1 z2 z3 z4 z5 y0 y1 y2 y3 y4 y5
          refine HP.out.mono ?_
          rintro e W3 ⟨rfl, hc3, hk3⟩
          have HR3 := hide (HRI.out.keep hc3 hk3 (fun k => by rw [HS3.out, prog_wr]; exact HRI.out.wr k) (fun k => by rw [HS3.out]; exact prog_nx _ _ _ _ _ HRI.out.nx k))
          clear hc3 hk3 HP
          have HON := hide (onA HR3.out.chip)
          go_wp2_with fail
          refine HON.out.mono ?_
          rintro e W4 ⟨rfl, hc4, hk4⟩
          have HR4 := hide (HR3.out.keep hc4 hk4 HR3.out.wr HR3.out.nx)
          clear hc4 hk4 HON
          have HNE := hide (nextA HR4.out.chip HG.out die blk)
          have HAT : Hid (atF g (onS s3) die blk = 0) := hide (at_on HZ.out.1 HZ.out.2.1 HZ.out.2.2.1 HZ.out.2.2.2 rfl)
          have HNX : Hid (nxF g (onS s3) die blk = ((s3.blk K).nx : Int)) := hide (by rw [HKK.out]; exact nx_ok HAT.out)
          rw [HAT.out, HNX.out] at HNE
          rw [errV_zero] at HNE
          have y0 := HR4.out.y0
          have y1 := HR4.out.y1
          have y2 := HR4.out.y2
          have y3 := HR4.out.y3
          go_wp2_with fail
          refine HNE.out.mono ?_
          rintro e W5 ⟨rfl, d, rfl⟩
          have HEND : Hid (∀ d, LI w1 (W4.drewN d) c g (onS s3) (m + 1)) := hide (fun d => (HR4.out.drewN d).end_.more)
          clear HNE HR3
          by_cases hhere : o.die = die ∧ o.blk = blk
          · have x1 : (o.die == die) = true := by simpa using hhere.1
            have x2 : (o.blk == blk) = true := by simpa using hhere.2
            by_cases hacc : progF g s o.die o.blk o.page o.l.length o.fault = 0
            · have hpz := prog_zero hacc
              have hvv : (s3.blk K).nx = v + 1 := by
                rw [HS3.out, prog_yes hacc, HKK.out, hhere.1, hhere.2]
                show (upd s.blk (ix g die blk) _ (ix g die blk)).nx = _
                rw [upd_eq, HV.out, HKK.out]
                rfl
              have hpv : o.page = (v : Int) := by rw [hpz.2.2.2.2.2.2.2, HV.out, HKK.out, hhere.1, hhere.2]
              have HVV := hide hvv
              rw [hvv]
              have x3 : ((v : Int) + 1 != (v : Int)) = true := by simp; omega
              have x4 : (o.page != (v : Int)) = false := by rw [hpv]; simp
              have x5 : ((v : Int) + 1 != (v : Int) + 1) = false := by simp
              clear hhere hacc hpz hvv hpv
              by_cases hp0 : pe = 0
              · rw [hp0, errV_zero]
                clear hp0
                go_wp2_with fail
                go_roundw
                case rel => exact ⟨onS s3, m + 1, by omega, by go_num, by rw [show ((onS s3).blk K).nx = (s3.blk K).nx from rfl, HVV.out]; rfl, rfl, hide (HEND.out d)⟩
                case measure => simp [intOf]; omega
              · rw [errV_ne hp0]
                clear hp0
                unfold errR
                go_wp2_with fail
                go_roundw
                case rel => exact ⟨onS s3, m + 1, by omega, by go_num, by rw [show ((onS s3).blk K).nx = (s3.blk K).nx from rfl, HVV.out]; rfl, rfl, hide (HEND.out d)⟩
                case measure => simp [intOf]; omega
            · have hvv : (s3.blk K).nx = v := by rw [HS3.out, prog_no hacc, HV.out]
              have hp0 : pe ≠ 0 := fun h => hacc (progE_nil (HPE.out.symm.trans h))
              have HVV := hide hvv
              rw [hvv]
              have x3 : ((v : Int) != (v : Int)) = false := by simp
              rw [errV_ne hp0]
              unfold errR
              clear hhere hacc hvv hp0
              go_wp2_with fail
              go_roundw
              case rel => exact ⟨onS s3, m + 1, by omega, by go_num, by rw [show ((onS s3).blk K).nx = (s3.blk K).nx from rfl, HVV.out], rfl, hide (HEND.out d)⟩
              case measure => simp [intOf]; omega
          · have hvv : (s3.blk K).nx = v := by rw [HS3.out, HKK.out, prog_far HZ.out.1 HZ.out.2.1 HZ.out.2.2.1 HZ.out.2.2.2 hhere, HV.out, HKK.out]
            have HVV := hide hvv
            rw [hvv]
            have x3 : ((v : Int) != (v : Int)) = false := by simp
            by_cases hd0 : o.die = die
            · have x1 : (o.die == die) = true := by simpa using hd0
              have x2 : (o.blk == blk) = false := by simp; exact fun e => hhere ⟨hd0, e⟩
              clear hhere hvv hd0
              go_wp2_with fail
              go_roundw
              case rel => exact ⟨onS s3, m + 1, by omega, by go_num, by rw [show ((onS s3).blk K).nx = (s3.blk K).nx from rfl, HVV.out], rfl, hide (HEND.out d)⟩
              case measure => simp [intOf]; omega
            · have x1 : (o.die == die) = false := by simpa using hd0
              clear hhere hvv hd0
              go_wp2_with fail
              go_roundw
              case rel => exact ⟨onS s3, m + 1, by omega, by go_num, by rw [show ((onS s3).blk K).nx = (s3.blk K).nx from rfl, HVV.out], rfl, hide (HEND.out d)⟩
              case measure => simp [intOf]; omega
        · have hk1b : (o.kind == 1) = false := by simpa using hk1
          by_cases hk3 : o.kind = 3
          · have hk3b : (o.kind == 3) = true := by simpa using hk3
            clear hk1
            by_cases hhere : o.die = die ∧ o.blk = blk
            · have x1 : (o.die != die) = false := by simpa using hhere.1
              have x2 : (o.blk != blk) = false := by simpa using hhere.2
              clear hhere hk3
              have HE0 := hide (HRI.out.end_.more)
              go_wp2_with fail
              go_roundw
              case rel => exact ⟨s, m + 1, by omega, by go_num, by rw [HV.out], HOFF.out, HE0⟩
              case measure => simp [intOf]; omega
            · have HHERE := hide hhere
              have HER := hide (erA HRI.out.chip HG.out o.die o.blk o.fault HRI.out.bound (fun k => by have := HRI.out.wr k; omega))
              obtain ⟨s3, hs3⟩ : ∃ s3, s3 = erS g s o.die o.blk o.fault := ⟨_, rfl⟩
              have HS3 := hide hs3
              rw [← hs3] at HER
              by_cases hd0 : o.die = die
              · have x1 : (o.die != die) = false := by simpa using hd0
                have x2 : (o.blk != blk) = true := by simp; exact fun e => hhere ⟨hd0, e⟩
                clear hhere hd0 hk3 hs3
                go_wp2_with fail
                generalize wr.alloc (.cells #[.int .i64 o.kind, .int .i64 o.die, .int .i64 o.blk, .int .i64 o.page, .slice o.A o.l.length o.c, .int .i64 o.fault] 35) = W2 at *
                generalize wr.heap.size = gx at *
                refine HER.out.mono ?_
                rintro e W3 ⟨rfl, hc3, hk3⟩
                have HR3 := hide (HRI.out.keepE hc3 hk3 (fun k => by rw [HS3.out]; exact er_wr _ _ _ m HRI.out.wr k) (fun k => by rw [HS3.out]; exact er_nx _ _ _ HRI.out.nx k))
                clear hc3 hk3 HER z0 z1 z2 z3 z4 z5 y0 y1 y2 y3 y4 y5
                have HON := hide (onA HR3.out.chip)
                go_wp2_with fail
                refine HON.out.mono ?_
                rintro e W4 ⟨rfl, hc4, hk4⟩
                have HR4 := hide (HR3.out.keep hc4 hk4 HR3.out.wr HR3.out.nx)
                clear hc4 hk4 HON
                have HNE := hide (nextA HR4.out.chip HG.out die blk)
                have HAT : Hid (atF g (onS s3) die blk = 0) := hide (at_on HZ.out.1 HZ.out.2.1 HZ.out.2.2.1 HZ.out.2.2.2 rfl)
                have HVV : Hid ((s3.blk K).nx = v) := hide (by rw [HS3.out, HKK.out, er_far HZ.out.1 HZ.out.2.1 HZ.out.2.2.1 HZ.out.2.2.2 HHERE.out, HV.out, HKK.out])
                have HNX : Hid (nxF g (onS s3) die blk = (v : Int)) := hide (by rw [← HVV.out, HKK.out]; exact nx_ok HAT.out)
                rw [HAT.out, HNX.out] at HNE
                rw [errV_zero] at HNE
                go_wp2_with fail
                refine HNE.out.mono ?_
                rintro e W5 ⟨rfl, d, rfl⟩
                have HEND := hide (HR4.out.drewN d).end_
                have x3 : ((v : Int) != (v : Int)) = false := by simp
                clear HNE HR3
                go_wp2_with fail
                go_roundw
                case rel => exact ⟨onS s3, m + 1, by omega, by go_num, by rw [show ((onS s3).blk K).nx = (s3.blk K).nx from rfl, HVV.out], rfl, HEND⟩
                case measure => simp [intOf]; omega
              · have x1 : (o.die != die) = true := by simpa using hd0
                clear hhere hd0 hk3 hs3
                go_wp2_with fail
                generalize wr.alloc (.cells #[.int .i64 o.kind, .int .i64 o.die, .int .i64 o.blk, .int .i64 o.page, .slice o.A o.l.length o.c, .int .i64 o.fault] 35) = W2 at *
                generalize wr.heap.size = gx at *
                refine HER.out.mono ?_
                rintro e W3 ⟨rfl, hc3, hk3⟩
                have HR3 := hide (HRI.out.keepE hc3 hk3 (fun k => by rw [HS3.out]; exact er_wr _ _ _ m HRI.out.wr k) (fun k => by rw [HS3.out]; exact er_nx _ _ _ HRI.out.nx k))
                clear hc3 hk3 HER z0 z1 z2 z3 z4 z5 y0 y1 y2 y3 y4 y5
                have HON := hide (onA HR3.out.chip)
                go_wp2_with fail
                refine HON.out.mono ?_
                rintro e W4 ⟨rfl, hc4, hk4⟩
                have HR4 := hide (HR3.out.keep hc4 hk4 HR3.out.wr HR3.out.nx)
                clear hc4 hk4 HON
                have HNE := hide (nextA HR4.out.chip HG.out die blk)
                have HAT : Hid (atF g (onS s3) die blk = 0) := hide (at_on HZ.out.1 HZ.out.2.1 HZ.out.2.2.1 HZ.out.2.2.2 rfl)
                have HVV : Hid ((s3.blk K).nx = v) := hide (by rw [HS3.out, HKK.out, er_far HZ.out.1 HZ.out.2.1 HZ.out.2.2.1 HZ.out.2.2.2 HHERE.out, HV.out, HKK.out])
                have HNX : Hid (nxF g (onS s3) die blk = (v : Int)) := hide (by rw [← HVV.out, HKK.out]; exact nx_ok HAT.out)
                rw [HAT.out, HNX.out] at HNE
                rw [errV_zero] at HNE
                go_wp2_with fail
                refine HNE.out.mono ?_
                rintro e W5 ⟨rfl, d, rfl⟩
                have HEND := hide (HR4.out.drewN d).end_
                have x3 : ((v : Int) != (v : Int)) = false := by simp
                clear HNE HR3
                go_wp2_with fail
                go_roundw
                case rel => exact ⟨onS s3, m + 1, by omega, by go_num, by rw [show ((onS s3).blk K).nx = (s3.blk K).nx from rfl, HVV.out], rfl, HEND⟩
                case measure => simp [intOf]; omega
          · have hk3b : (o.kind == 3) = false := by simpa using hk3
            clear hk3 hk1
            have HE0 := hide (HRI.out.end_.more)
            go_wp2_with fail
            go_roundw
            case rel => exact ⟨s, m + 1, by omega, by go_num, by rw [HV.out], HOFF.out, HE0⟩
            case measure => simp [intOf]; omega
      · have hd1 : decide (m < n) = false := by simp; omega
        have hd1' : decide ((m : Int) < (n : Int)) = false := by simp; omega
        have k2 : wr.cell? ⟨w.heap.size, 2, none⟩ = some (.int .i64 (g.p : Int)) := by
          have h := (HK1.out.below HL.out.low HGL.out).at_ (i := 2) (u := .int .i64 gp) rfl
          rw [HGG.out] at h
          exact h
        have hle : decide (v ≤ g.p) = true := by rw [HV.out]; simpa using HVP.out
        have HLW := hide (HB1.out.trans (HL.out.low.mono HB1.out.size))
        go_wp2_with fail
        go_ret
        exact ⟨rfl, HLW.out⟩
  · rw [errV_ne hat]
    have HLB := hide (HB1.out.trans (HLI.out.low.mono HB1.out.size))
    clear hat
    unfold errR
    go_wp2_with fail
    go_ret
    exact ⟨rfl, below_drewN HLB.out d⟩
end Go.Proofs.YtbldjiofchaigaaDoor.ChipW
