/- The walk of granarylaw1.ChipKeeps. -/
import Derived.Test.YtbldjiofchaigaaDoorChipTurns
set_option linter.unusedVariables false
namespace Go.Proofs.YtbldjiofchaigaaDoor.ChipW
open Go.RowKit ChipP CopyW ToldW

theorem rd_zero {g : Geo} {s : St} {die k : Int} (h : atF g s die k = 0) (hp : 1 ≤ g.p) : rdF g s die k 0 = 0 := by
  unfold rdF
  rw [if_neg (fun h1 => h1 h), if_neg (by omega)]
theorem keep_prog {g : Geo} {s : St} {die k : Int} {l0 : List UInt8} (od ob page : Int) (l : List UInt8) (fault : Int) (hp : (s.blk (ix g die k)).pg 0 = l0 ∧ 1 ≤ (s.blk (ix g die k)).nx) :
    ((progS g s od ob page l fault).blk (ix g die k)).pg 0 = l0 ∧ 1 ≤ ((progS g s od ob page l fault).blk (ix g die k)).nx := by
  by_cases h : progF g s od ob page l.length fault = 0
  · have hz := prog_zero h
    rw [prog_yes h]
    show (upd s.blk (ix g od ob) _ (ix g die k)).pg 0 = l0 ∧ 1 ≤ (upd s.blk (ix g od ob) _ (ix g die k)).nx
    by_cases e : ix g die k = ix g od ob
    · rw [e, upd_eq]
      rw [e] at hp
      have hpage : ¬ page.toNat = 0 := by omega
      unfold progB
      refine ⟨?_, by show 1 ≤ _ + 1; omega⟩
      show upd (s.blk (ix g od ob)).pg page.toNat _ 0 = l0
      rw [upd_ne _ _ _ _ (by omega)]
      exact hp.1
    · rw [upd_ne _ _ _ _ e]; exact hp
  · rw [prog_no h]; exact hp
theorem keep_first {g : Geo} {die k : Int} {l : List UInt8} {fault : Int} (h : progF g (newS g) die k 0 l.length fault = 0) :
    ((progS g (newS g) die k 0 l fault).blk (ix g die k)) = ⟨upd (fun _ => List.replicate g.y 255) 0 (mix fault l (List.replicate g.y 255)), 1, 0, false⟩ := by
  rw [prog_yes h]
  show upd (newS g).blk (ix g die k) _ (ix g die k) = _
  rw [upd_eq]
  rfl
theorem keep_start {g : Geo} {die k : Int} {l : List UInt8} (h : progF g (newS g) die k 0 l.length 0 = 0) :
    ((progS g (newS g) die k 0 l 0).blk (ix g die k)).pg 0 = l ∧ 1 ≤ ((progS g (newS g) die k 0 l 0).blk (ix g die k)).nx := by
  rw [keep_first h]
  refine ⟨?_, Nat.le_refl _⟩
  show upd (fun _ => List.replicate g.y 255) 0 (mix 0 l (List.replicate g.y 255)) 0 = l
  rw [upd_eq]
  unfold mix
  rw [if_pos rfl]
attribute [local irreducible] progE progS progF erE erS erF atF nxF wrF badF rdF errV ix Geo.n ChipAt copC mix
set_option maxRecDepth 20000 in
set_option maxHeartbeats 3000000 in
theorem keeps_law (w : World) (hE : ErrT w) (gd gb' gp gy : Int) (i1 : inI64 gd) (i2 : inI64 gb') (i3 : inI64 gp) (i4 : inI64 gy) (die : Int) (t1 : -9223372036854775808 ≤ die) (t2 : die ≤ 9223372036854775807) (blk : Int) (t3 : -9223372036854775808 ≤ blk) (t4 : blk ≤ 9223372036854775807)
    (A0 : Option Addr) (l0 : List UInt8) (n0 c0 : Nat) (h0 : n0 = l0.length) (h01 : n0 ≤ c0) (h02 : c0 ≤ 140737488351232) (h03 : Rd w A0 (u8v l0)) (A : Option Addr) (n cc : Nat) (S : Nat → COp) (hnc : n ≤ cc) (hf : n * 64 ≤ 140737488351232) (hr : RdC w A n S) :
    Calls Tryd.prog 4 #[.agg #[.int .i64 gd, .int .i64 gb', .int .i64 gp, .int .i64 gy], .int .i64 die, .int .i64 blk, .slice A0 n0 c0, .slice A n cc] w fun e w' => e = .returned (.bool true) ∧ Below w.heap.size w w' := by
  have HK := hide (Bk.new w 23 #[.int .i64 gd, .int .i64 gb', .int .i64 gp, .int .i64 gy])
  have HB0 : Hid (Below w.heap.size w (w.alloc (.cells #[.int .i64 gd, .int .i64 gb', .int .i64 gp, .int .i64 gy] 23))) := hide ((Below.refl _ _).alloc (Nat.le_refl _) _)
  have HR := hide hr
  have HFACT := hide (fact_any (w.alloc (.cells #[.int .i64 gd, .int .i64 gb', .int .i64 gp, .int .i64 gy] 23)) (hE.below HB0.out (Nat.le_refl _)))
  have HI4 := hide i4
  have HE := hide hE
  have HD0 := hide h03
  have HN0 := hide h0
  clear h03 h0
  clear hE hr i1 i2 i3 i4
  go_enter Tryd.func4, Tryd.ntmps4
  go_wp2_with fail
  refine HFACT.out.mono ?_
  rintro e w1 ⟨rfl, hb1⟩
  have HK1 := hide (HK.out.below hb1 HK.out.lt)
  have HB1 := hide (HB0.out.trans (hb1.mono HB0.out.size))
  have k0 := HK1.out.at_ (i := 0) (u := .int .i64 gd) rfl
  have k1 := HK1.out.at_ (i := 1) (u := .int .i64 gb') rfl
  have k2 := HK1.out.at_ (i := 2) (u := .int .i64 gp) rfl
  have k3 := HK1.out.at_ (i := 3) (u := .int .i64 gy) rfl
  have HNEW := hide (new_any w1 (fun j => j < w1.heap.size) (fun _ h => h) gd gb' gp gy (by have := HI4.out; unfold inI64 at this; omega) (by have := HI4.out; unfold inI64 at this; omega))
  unfold geoV at HNEW
  have HGL : Hid (w.heap.size < w1.heap.size) := hide (Nat.lt_of_lt_of_le HK.out.lt hb1.size)
  clear hb1 HFACT HK
  go_wp2_with fail
  refine HNEW.out.mono ?_
  rintro e w2 ⟨hb2, ⟨hbad, rfl⟩ | ⟨hok, c, rfl, hc⟩⟩
  · have HB2 := hide (HB1.out.trans (hb2.mono HB1.out.size))
    clear hb2 HNEW k0 k1 k2 k3
    unfold errR
    go_wp2_with fail
    go_ret
    exact ⟨rfl, HB2.out⟩
  have hg := geo_ok hok
  have HGY : Hid (gy = ((gy.toNat : Nat) : Int)) := hide (by unfold badG at hok; omega)
  obtain ⟨g, hgg⟩ : ∃ g : Geo, g = ⟨gd.toNat, gb'.toNat, gp.toNat, gy.toNat⟩ := ⟨_, rfl⟩
  have HGG : Hid (gy = (g.y : Int)) := hide (by rw [hgg]; exact HGY.out)
  rw [← hgg] at hc hg
  have hp16 := hg.p16
  have hp1 := hg.p1
  have hy8 := hg.y8
  have hy256 := hg.y256
  have HG := hide hg
  have HLI := hide (LI.start hc hb2)
  clear hb2 hok hc hgg HNEW k0 k1 k2 k3 hg
  have HOD : Hid (u8v l0 ≠ [] → ∀ ad, A0 = some ad → ad.block < w1.heap.size) := hide (fun hne ad e => by
    obtain ⟨b2, off2, hA2, hlt2, -⟩ := HD0.out.form (List.length_pos_iff.2 hne)
    rw [hA2] at e
    injection e with e
    rw [← e]
    exact Nat.lt_of_lt_of_le hlt2 HB1.out.size)
  have HP0 := hide (progA HLI.out.chip HG.out die blk 0 A0 n0 c0 l0 0 HN0.out h01 (HD0.out.below (HB1.out.trans (HLI.out.low.mono HB1.out.size))) HOD.out (by omega))
  obtain ⟨pe, hpe⟩ : ∃ pe, pe = progE g (newS g) die blk 0 n0 0 := ⟨_, rfl⟩
  have HPE := hide hpe
  rw [← hpe] at HP0
  obtain ⟨s0, hs0⟩ : ∃ s0, s0 = progS g (newS g) die blk 0 l0 0 := ⟨_, rfl⟩
  have HS0 := hide hs0
  rw [← hs0] at HP0
  clear hpe hs0
  unfold ptr
  go_wp2_with fail
  refine HP0.out.mono ?_
  rintro e w3 ⟨rfl, hc3, hk3⟩
  have HL3 : Hid (LI w1 w3 c g s0 0) := hide ⟨hc3, HLI.out.low.trans (hk3.below (fun j hj => hj) HLI.out.low.size), fun k => by rw [HS0.out, prog_wr]; exact HLI.out.wr k, fun k => by rw [HS0.out]; exact prog_nx _ _ _ _ _ HLI.out.nx k⟩
  clear hc3 hk3 HP0
  by_cases hp0 : pe = 0
  · have hpf := progE_nil (HPE.out.symm.trans hp0)
    have hz := at_zero (prog_zero hpf).1
    have HZ : Hid (0 ≤ die ∧ die < g.d ∧ 0 ≤ blk ∧ blk < g.b) := hide hz.2
    obtain ⟨K, hK⟩ : ∃ K, K = ix g die blk := ⟨_, rfl⟩
    have HKK := hide hK
    have HI0 : Hid ((s0.blk K).pg 0 = l0 ∧ 1 ≤ (s0.blk K).nx) := hide (by
      rw [HS0.out, HKK.out]
      exact keep_start (by rw [← HN0.out]; exact hpf))
    rw [hp0, errV_zero]
    clear hp0 hpf hz hK
    go_wp2_with fail
    go_loopw [14] (fun i wr => ∃ (s : St) (m : Nat), m ≤ n ∧ i = .int .i64 m ∧ Hid (LI w1 wr c g s m) ∧ Hid ((s.blk K).pg 0 = l0 ∧ 1 ≤ (s.blk K).nx)) (fun i _ => n - (intOf i).toNat)
    case atStart => exact ⟨s0, 0, by omega, rfl, HL3, HI0⟩
    case round =>
      obtain ⟨s, m, hm, rfl, HL, HI⟩ := hrel
      by_cases hlt : m < n
      · have hd1 : decide (m < n) = true := by simp; omega
        have hd1' : decide ((m : Int) < (n : Int)) = true := by simp; omega
        have hmi : (m : Int) < (n : Int) := by omega
        have HBW : Hid (Below w.heap.size w wr) := hide (HB1.out.trans (HL.out.low.mono HB1.out.size))
        obtain ⟨b, off, rfl, hbl, hcells, ho1, ho2, ho3, ho4, ho5, ho6, ho7, ho8⟩ := HR.out m hlt
        obtain ⟨o, ho⟩ : ∃ o, o = S m := ⟨_, rfl⟩
        rw [← ho] at hcells ho1 ho2 ho3
        clear ho
        obtain ⟨z0, z1, z2, z3, z4, z5⟩ := cop_cells HBW.out hbl hcells
        have HRI : Hid (RI w1 (wr.alloc (.cells #[.int .i64 o.kind, .int .i64 o.die, .int .i64 o.blk, .int .i64 o.page, .slice o.A o.l.length o.c, .int .i64 o.fault] 35)) wr.heap.size c g s m o) := hide (RI.start2 HL.out o)
        have y0 := HRI.out.y0
        have y1 := HRI.out.y1
        have y2 := HRI.out.y2
        have y3 := HRI.out.y3
        have y4 := HRI.out.y4
        have y5 := HRI.out.y5
        have HRD := hide (((ho3.below HBW.out)).alloc (.cells #[.int .i64 o.kind, .int .i64 o.die, .int .i64 o.blk, .int .i64 o.page, .slice o.A o.l.length o.c, .int .i64 o.fault] 35))
        have HOA : Hid (u8v o.l ≠ [] → ∀ ad, o.A = some ad → ad.block < w1.heap.size ∨ ad.block = wr.heap.size) := hide (fun hne ad e => .inl (by
          obtain ⟨b2, off2, hA2, hlt2, -⟩ := ho3.form (List.length_pos_iff.2 hne)
          rw [hA2] at e
          injection e with e
          rw [← e]
          exact Nat.lt_of_lt_of_le hlt2 HB1.out.size))
        have HOL := hide (And.intro ho1 ho2)
        clear hcells ho1 ho2 ho3 ho4 ho5 ho6 ho7 ho8 hbl HBW
        by_cases hk1 : o.kind = 1
        · have hk1b : (o.kind == 1) = true := by simpa using hk1
          clear hk1
          go_wp2_with fail
          generalize wr.alloc (.cells #[.int .i64 o.kind, .int .i64 o.die, .int .i64 o.blk, .int .i64 o.page, .slice o.A o.l.length o.c, .int .i64 o.fault] 35) = W2 at *
          generalize wr.heap.size = gx at *
          have HP := hide (progA HRI.out.chip HG.out o.die o.blk o.page o.A o.l.length o.c o.l o.fault rfl HOL.out.1 HRD.out HOA.out (by have := HOL.out; omega))
          clear z0 z1 z2 z3 z4 z5 y0 y1 y2 y3 y4 y5
          refine HP.out.mono ?_
          rintro e W3 ⟨rfl, hc3, hk3⟩
          have HR3 := hide (HRI.out.keep hc3 hk3 (fun k => by rw [prog_wr]; exact HRI.out.wr k) (fun k => prog_nx _ _ _ _ _ HRI.out.nx k))
          have HI3 : Hid (((progS g s o.die o.blk o.page o.l o.fault).blk K).pg 0 = l0 ∧ 1 ≤ ((progS g s o.die o.blk o.page o.l o.fault).blk K).nx) := hide (by
            have h := HI.out
            rw [HKK.out] at h ⊢
            exact keep_prog _ _ _ _ _ h)
          have HEND := hide HR3.out.end_.more
          clear hc3 hk3 HP HR3
          go_wp2_with fail
          go_roundw
          case rel => exact ⟨_, m + 1, by omega, by go_num, HEND, HI3⟩
          case measure => simp [intOf]; omega
        · have hk1b : (o.kind == 1) = false := by simpa using hk1
          by_cases hk3 : o.kind = 3
          · have hk3b : (o.kind == 3) = true := by simpa using hk3
            clear hk1 hk3
            by_cases hhere : o.die = die ∧ o.blk = blk
            · have x1 : (o.die != die) = false := by simpa using hhere.1
              have x2 : (o.blk != blk) = false := by simpa using hhere.2
              clear hhere
              have HE0 := hide (HRI.out.end_.more)
              go_wp2_with fail
              go_roundw
              case rel => exact ⟨s, m + 1, by omega, by go_num, HE0, HI⟩
              case measure => simp [intOf]; omega
            · have HHERE := hide hhere
              have HER := hide (erA HRI.out.chip HG.out o.die o.blk o.fault HRI.out.bound (fun k => by have := HRI.out.wr k; omega))
              by_cases hd0 : o.die = die
              · have x1 : (o.die != die) = false := by simpa using hd0
                have x2 : (o.blk != blk) = true := by simp; exact fun e => hhere ⟨hd0, e⟩
                clear hhere hd0
                go_wp2_with fail
                generalize wr.alloc (.cells #[.int .i64 o.kind, .int .i64 o.die, .int .i64 o.blk, .int .i64 o.page, .slice o.A o.l.length o.c, .int .i64 o.fault] 35) = W2 at *
                generalize wr.heap.size = gx at *
                refine HER.out.mono ?_
                rintro e W3 ⟨rfl, hc3, hk3⟩
                have HEND := hide (HRI.out.keepE hc3 hk3 (fun k => er_wr _ _ _ m HRI.out.wr k) (fun k => er_nx _ _ _ HRI.out.nx k)).end_
                have HI3 : Hid (((erS g s o.die o.blk o.fault).blk K).pg 0 = l0 ∧ 1 ≤ ((erS g s o.die o.blk o.fault).blk K).nx) := hide (by
                  rw [HKK.out, er_far HZ.out.1 HZ.out.2.1 HZ.out.2.2.1 HZ.out.2.2.2 HHERE.out, ← HKK.out]
                  exact HI.out)
                clear hc3 hk3 HER z0 z1 z2 z3 z4 z5 y0 y1 y2 y3 y4 y5
                go_wp2_with fail
                go_roundw
                case rel => exact ⟨_, m + 1, by omega, by go_num, HEND, HI3⟩
                case measure => simp [intOf]; omega
              · have x1 : (o.die != die) = true := by simpa using hd0
                clear hhere hd0
                go_wp2_with fail
                generalize wr.alloc (.cells #[.int .i64 o.kind, .int .i64 o.die, .int .i64 o.blk, .int .i64 o.page, .slice o.A o.l.length o.c, .int .i64 o.fault] 35) = W2 at *
                generalize wr.heap.size = gx at *
                refine HER.out.mono ?_
                rintro e W3 ⟨rfl, hc3, hk3⟩
                have HEND := hide (HRI.out.keepE hc3 hk3 (fun k => er_wr _ _ _ m HRI.out.wr k) (fun k => er_nx _ _ _ HRI.out.nx k)).end_
                have HI3 : Hid (((erS g s o.die o.blk o.fault).blk K).pg 0 = l0 ∧ 1 ≤ ((erS g s o.die o.blk o.fault).blk K).nx) := hide (by
                  rw [HKK.out, er_far HZ.out.1 HZ.out.2.1 HZ.out.2.2.1 HZ.out.2.2.2 HHERE.out, ← HKK.out]
                  exact HI.out)
                clear hc3 hk3 HER z0 z1 z2 z3 z4 z5 y0 y1 y2 y3 y4 y5
                go_wp2_with fail
                go_roundw
                case rel => exact ⟨_, m + 1, by omega, by go_num, HEND, HI3⟩
                case measure => simp [intOf]; omega
          · have hk3b : (o.kind == 3) = false := by simpa using hk3
            clear hk1 hk3
            have HON := hide (onA HRI.out.chip)
            go_wp2_with fail
            generalize wr.alloc (.cells #[.int .i64 o.kind, .int .i64 o.die, .int .i64 o.blk, .int .i64 o.page, .slice o.A o.l.length o.c, .int .i64 o.fault] 35) = W2 at *
            generalize wr.heap.size = gx at *
            refine HON.out.mono ?_
            rintro e W3 ⟨rfl, hc3, hk3⟩
            have HEND := hide (HRI.out.keep hc3 hk3 HRI.out.wr HRI.out.nx).end_.more
            clear hc3 hk3 HON z0 z1 z2 z3 z4 z5 y0 y1 y2 y3 y4 y5
            go_wp2_with fail
            go_roundw
            case rel => exact ⟨onS s, m + 1, by omega, by go_num, HEND, HI⟩
            case measure => simp [intOf]; omega
      · have hd1 : decide (m < n) = false := by simp; omega
        have hd1' : decide ((m : Int) < (n : Int)) = false := by simp; omega
        have HON := hide (onA HL.out.chip)
        have HLL := hide HL.out.low
        go_wp2_with fail
        refine HON.out.mono ?_
        rintro e W3 ⟨rfl, hc3, hk3⟩
        have HB3 := hide (HLL.out.trans (hk3.below (fun j hj => hj) HLL.out.size))
        have HRDD := hide (readA hc3 HG.out die blk 0)
        have hrz := rd_zero (at_on (g := g) (s := onS s) HZ.out.1 HZ.out.2.1 HZ.out.2.2.1 HZ.out.2.2.2 rfl) hp1
        have HRZ := hide hrz
        clear hc3 hk3 HON hrz
        go_wp2_with fail
        refine HRDD.out.mono ?_
        rintro e W4 ⟨hb4, ⟨hne, -⟩ | ⟨-, D, c', rfl, ho, hlen⟩⟩
        · exact absurd HRZ.out hne
        have hpg : ((onS s).blk (ix g die blk)).pg (0 : Int).toNat = l0 := by rw [← HKK.out]; exact HI.out.1
        rw [hpg] at ho hlen
        have HB4 := hide (HB1.out.trans ((HB3.out.trans (hb4.mono HB3.out.size)).mono HB1.out.size))
        have HSA := hide (same_any D A0 l0 l0 g.y n0 c' c0 W4 hlen.symm HN0.out (by omega) (Rd.of_own ho) (HD0.out.below HB4.out) true (by simp))
        clear hpg ho hlen hb4 HRDD
        go_wp2_with fail
        refine HSA.out.mono ?_
        rintro e W5 ⟨rfl, d5, rfl⟩
        go_wp2_with fail
        go_ret
        exact ⟨rfl, below_drewN HB4.out d5⟩
  · rw [errV_ne hp0]
    have HLB := hide (HB1.out.trans (HL3.out.low.mono HB1.out.size))
    clear hp0
    unfold errR
    go_wp2_with fail
    go_ret
    exact ⟨rfl, HLB.out⟩
end Go.Proofs.YtbldjiofchaigaaDoor.ChipW
