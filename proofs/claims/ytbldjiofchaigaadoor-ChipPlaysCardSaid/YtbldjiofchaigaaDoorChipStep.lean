/- One call on both chips. -/
import Derived.Test.YtbldjiofchaigaaDoorRChipR
import Derived.Test.YtbldjiofchaigaaDoorChipI
set_option linter.unusedVariables false
namespace Go.Proofs.YtbldjiofchaigaaDoor.ChipW
open Go.RowKit ChipP CopyW ToldW

/-- Both chips in memory, the program's at sc, the document's at sr. -/
structure Both (w1 W : World) (O : Nat → Prop) (c r ga gn gw gd cap : Nat) (g : Geo) (sc sr : St) (i : Nat) : Prop where
  chip : ChipAt W O c g sc
  ref : RAt W g r ga gn gw gd cap sr
  low : Below w1.heap.size w1 W
  wc : ∀ k, (sc.blk k).wr ≤ i
  hO : ∀ j, O j → j < W.heap.size
  hR : ∀ j, RB r ga gn gw gd j → O j ∧ w1.heap.size ≤ j
  h1 : ∀ j, j < w1.heap.size → O j
/-- .. and a call's box gb. -/
structure InS (w1 W : World) (O : Nat → Prop) (gb c r ga gn gw gd cap : Nat) (g : Geo) (sc sr : St) (i : Nat) (o : COp) : Prop where
  both : Both w1 W (fun j => O j ∨ j = gb) c r ga gn gw gd cap g sc sr i
  box : Bk W gb 35 (copC o)
  gr : ¬ RB r ga gn gw gd gb
  oO : ∀ j, RB r ga gn gw gd j → O j
  o1 : ∀ j, j < w1.heap.size → O j
  oB : ∀ j, O j → j < W.heap.size
section
variable {w1 W W' : World} {O : Nat → Prop} {gb c r ga gn gw gd cap : Nat} {g : Geo} {sc sr s' : St} {i : Nat} {o : COp}
theorem InS.start (h : Both w1 W O c r ga gn gw gd cap g sc sr i) (o : COp) : InS w1 (W.alloc (.cells #[.int .i64 o.kind, .int .i64 o.die, .int .i64 o.blk, .int .i64 o.page, .slice o.A o.l.length o.c, .int .i64 o.fault] 35)) O W.heap.size c r ga gn gw gd cap g sc sr i o :=
  have hb : Below W.heap.size W (W.alloc (.cells #[.int .i64 o.kind, .int .i64 o.die, .int .i64 o.blk, .int .i64 o.page, .slice o.A o.l.length o.c, .int .i64 o.fault] 35)) := (Below.refl _ _).alloc (Nat.le_refl _) _
  { both := { chip := (h.chip.more (fun j hj => hj.imp id (fun e => by omega))).below hb
              ref := RF.below h.ref hb
              low := h.low.trans ((Below.refl _ _).alloc h.low.size _)
              wc := h.wc
              hO := fun j hj => hj.elim (fun h1 => Nat.lt_of_lt_of_le (h.hO j h1) hb.size) (fun e => by rw [e]; simp)
              hR := fun j hj => ⟨.inl (h.hR j hj).1, (h.hR j hj).2⟩
              h1 := fun j hj => .inl (h.h1 j hj) }
    box := Bk.new _ _ _
    gr := fun hr => by have := h.hO _ (h.hR _ hr).1; omega
    oO := fun j hj => (h.hR j hj).1
    o1 := h.h1
    oB := fun j hj => Nat.lt_of_lt_of_le (h.hO j hj) hb.size }
theorem InS.y0 (h : InS w1 W O gb c r ga gn gw gd cap g sc sr i o) : W.cell? ⟨gb, 0, none⟩ = some (.int .i64 o.kind) := h.box.at_ (i := 0) rfl
theorem InS.y1 (h : InS w1 W O gb c r ga gn gw gd cap g sc sr i o) : W.cell? ⟨gb, 1, none⟩ = some (.int .i64 o.die) := h.box.at_ (i := 1) rfl
theorem InS.y2 (h : InS w1 W O gb c r ga gn gw gd cap g sc sr i o) : W.cell? ⟨gb, 2, none⟩ = some (.int .i64 o.blk) := h.box.at_ (i := 2) rfl
theorem InS.y3 (h : InS w1 W O gb c r ga gn gw gd cap g sc sr i o) : W.cell? ⟨gb, 3, none⟩ = some (.int .i64 o.page) := h.box.at_ (i := 3) rfl
theorem InS.y4 (h : InS w1 W O gb c r ga gn gw gd cap g sc sr i o) : W.cell? ⟨gb, 4, none⟩ = some (.slice o.A o.l.length o.c) := h.box.at_ (i := 4) rfl
theorem InS.y5 (h : InS w1 W O gb c r ga gn gw gd cap g sc sr i o) : W.cell? ⟨gb, 5, none⟩ = some (.int .i64 o.fault) := h.box.at_ (i := 5) rfl
theorem InS.end_ (h : InS w1 W O gb c r ga gn gw gd cap g sc sc i o) : Both w1 W O c r ga gn gw gd cap g sc sc i :=
  { h.both with chip := h.both.chip.more (fun j hj => .inl (.inl hj)), hO := h.oB, hR := fun j hj => ⟨h.oO j hj, (h.both.hR j hj).2⟩, h1 := h.o1 }
theorem InS.below (h : InS w1 W O gb c r ga gn gw gd cap g sc sr i o) (hb : Below W.heap.size W W') : InS w1 W' O gb c r ga gn gw gd cap g sc sr i o :=
  { h with
    both := { h.both with chip := h.both.chip.below hb, ref := RF.below h.both.ref hb, low := h.both.low.trans (hb.mono h.both.low.size), hO := fun j hj => Nat.lt_of_lt_of_le (h.both.hO j hj) hb.size }
    box := h.box.below hb h.box.lt
    oB := fun j hj => Nat.lt_of_lt_of_le (h.oB j hj) hb.size }
theorem InS.drewN (h : InS w1 W O gb c r ga gn gw gd cap g sc sr i o) (n : Nat) : InS w1 (W.drewN n) O gb c r ga gn gw gd cap g sc sr i o := h.below (below_drewN (Below.refl _ _) n)
/-- The program's chip is called. -/
theorem InS.prg (h : InS w1 W O gb c r ga gn gw gd cap g sc sr i o) {i' : Nat} (hc : ChipAt W' (fun j => O j ∨ j = gb) c g s') (hk : Keep (fun j => O j ∨ j = gb) W W') (hw : ∀ k, (s'.blk k).wr ≤ i') : InS w1 W' O gb c r ga gn gw gd cap g s' sr i' o :=
  { h with
    both := { h.both with chip := hc, ref := RF.keep h.both.ref (fun j hj hl => hk.same j (h.both.hR j hj).1 hl), low := h.both.low.trans (hk.below (fun j hj => h.both.h1 j hj) h.both.low.size), wc := hw, hO := fun j hj => Nat.lt_of_lt_of_le (h.both.hO j hj) hk.size }
    box := hk.bk h.box (.inr rfl)
    oB := fun j hj => Nat.lt_of_lt_of_le (h.oB j hj) hk.size }
/-- The document's chip is called. -/
theorem InS.doc (h : InS w1 W O gb c r ga gn gw gd cap g sc sr i o) (hr : RAt W' g r ga gn gw gd cap s') (hk : Keep (fun j => ¬ RB r ga gn gw gd j) W W') : InS w1 W' O gb c r ga gn gw gd cap g sc s' i o :=
  { h with
    both := { h.both with chip := h.both.chip.keep (fun j hj hl => hk.same j (fun hrb => hj (.inl (h.oO j hrb))) hl), ref := hr, low := h.both.low.trans (hk.below (fun j hj hrb => by have := (h.both.hR j hrb).2; omega) h.both.low.size), hO := fun j hj => Nat.lt_of_lt_of_le (h.both.hO j hj) hk.size }
    box := hk.bk h.box h.gr
    oB := fun j hj => Nat.lt_of_lt_of_le (h.oB j hj) hk.size }
theorem InS.more (h : InS w1 W O gb c r ga gn gw gd cap g sc sr i o) : InS w1 W O gb c r ga gn gw gd cap g sc sr (i + 1) o := { h with both := { h.both with wc := fun k => Nat.le_succ_of_le (h.both.wc k) } }
end
theorem err_any (k : Int) (w : World) (hE : ErrT w) : Calls Tryd.prog 17 #[errV k, .int .i64 k] w fun e w' => e = .returned (.bool true) ∧ Below w.heap.size w w' := by
  by_cases h : k = 0
  · subst h
    rw [errV_zero]
    exact error_nil 0 w true (by decide)
  · rw [errV_ne h]
    exact error_some k k w hE true (by simp)
/-- What a call's argument is. -/
structure OpOk (w1 : World) (o : COp) : Prop where
  l1 : o.l.length ≤ o.c
  l2 : o.c ≤ 140737488351232
  rd : Rd w1 o.A (u8v o.l)
theorem OpOk.low {w1 : World} {o : COp} (h : OpOk w1 o) : u8v o.l ≠ [] → ∀ ad, o.A = some ad → ad.block < w1.heap.size := fun hne ad e => by
  obtain ⟨b2, off2, hA2, hlt2, -⟩ := h.rd.form (List.length_pos_iff.2 hne)
  rw [hA2] at e
  injection e with e
  rw [← e]
  exact hlt2
/-- What a step says. -/
def StepPost (w1 : World) (O : Nat → Prop) (c r ga gn gw gd cap : Nat) (g : Geo) (i : Nat) (e : Ending) (W' : World) : Prop := e = .returned (.bool true) ∧ ∃ s', Both w1 W' O c r ga gn gw gd cap g s' s' (i + 1)

set_option maxRecDepth 20000 in
set_option maxHeartbeats 4000000 in
theorem step_any {w1 W : World} {O : Nat → Prop} {c r ga gn gw gd cap : Nat} {g : Geo} {s : St} {i : Nat} (h : Both w1 W O c r ga gn gw gd cap g s s i) (hg : g.Ok) (hE : ErrT w1) (hi : i ≤ 1000000000000000) (hcap : cap ≤ 9223372036854775807) (o : COp) (ho : OpOk w1 o) :
    Calls Tryd.prog 22 #[.pointer (some ⟨c, 0, none⟩), .pointer (some ⟨r, 0, none⟩), .agg #[.int .i64 o.kind, .int .i64 o.die, .int .i64 o.blk, .int .i64 o.page, .slice o.A o.l.length o.c, .int .i64 o.fault]] W (StepPost w1 O c r ga gn gw gd cap g i) := by
  have HS := hide (InS.start h o)
  have HG := hide hg
  have HE := hide hE
  have HO := hide ho
  have HCP := hide hcap
  have y0 := HS.out.y0
  have y1 := HS.out.y1
  have y2 := HS.out.y2
  have y3 := HS.out.y3
  have y4 := HS.out.y4
  have y5 := HS.out.y5
  clear h hg hE ho hcap
  by_cases hk1 : o.kind = 1
  · have t1 : (o.kind == 1) = true := by simpa using hk1
    clear hk1
    go_enter Tryd.func22, Tryd.ntmps22
    go_wp2_with fail
    have HP := hide (progA HS.out.both.chip HG.out o.die o.blk o.page o.A o.l.length o.c o.l o.fault rfl HO.out.l1 ((HO.out.rd.below HS.out.both.low)) (fun hne ad e => HS.out.both.h1 _ (HO.out.low hne ad e)) (by have := HO.out.l1; have := HO.out.l2; omega))
    refine HP.out.mono ?_
    rintro e W2 ⟨rfl, hc2, hk2⟩
    have HS2 := hide (HS.out.prg hc2 hk2 (i' := i) (fun k => by rw [prog_wr]; exact HS.out.both.wc k))
    clear hc2 hk2 y0 y1 y2 y3 y4 y5
    have y0 := HS2.out.y0
    have y1 := HS2.out.y1
    have y2 := HS2.out.y2
    have y3 := HS2.out.y3
    have y4 := HS2.out.y4
    have y5 := HS2.out.y5
    have HP2 := hide (rprog_any HS2.out.both.ref HG.out o.die o.blk o.page o.A o.l.length o.c o.l o.fault rfl HO.out.l1 ((HO.out.rd.below HS2.out.both.low)) (fun hne ad e hrb => by have h1 := HO.out.low hne ad e; have h2 := (HS2.out.both.hR _ hrb).2; omega) (by have := HO.out.l1; have := HO.out.l2; omega))
    unfold ptr at HP2
    go_wp2_with fail
    refine HP2.out.mono ?_
    rintro e W3 ⟨rfl, hr3, hk3⟩
    have HS3 := hide (HS2.out.doc hr3 hk3)
    clear hr3 hk3 y0 y1 y2 y3 y4 y5 HP HP2
    have HER := hide (err_any (progE g s o.die o.blk o.page o.l.length o.fault) W3 (HE.out.below HS3.out.both.low (Nat.le_refl _)))
    obtain ⟨pe, hpe⟩ : ∃ pe, pe = progE g s o.die o.blk o.page o.l.length o.fault := ⟨_, rfl⟩
    rw [← hpe] at HER ⊢
    clear hpe
    go_wp2_with fail
    refine HER.out.mono ?_
    rintro e W4 ⟨rfl, hb4⟩
    have HS4 := hide (HS3.out.below hb4).more
    clear hb4 HER
    go_wp2_with fail
    go_ret
    exact ⟨rfl, _, HS4.out.end_⟩
  have t1 : (o.kind == 1) = false := by simpa using hk1
  by_cases hk2 : o.kind = 2
  · have t2 : (o.kind == 2) = true := by simpa using hk2
    clear hk1 hk2
    go_enter Tryd.func22, Tryd.ntmps22
    go_wp2_with fail
    have HP := hide (readA HS.out.both.chip HG.out o.die o.blk o.page)
    refine HP.out.mono ?_
    rintro e W2 ⟨hb2, hres⟩
    have HS2 := hide (HS.out.below hb2)
    have HB2 := hide hb2
    clear y0 y1 y2 y3 y4 y5 HP hb2
    have y0 := HS2.out.y0
    have y1 := HS2.out.y1
    have y2 := HS2.out.y2
    have y3 := HS2.out.y3
    have y4 := HS2.out.y4
    have y5 := HS2.out.y5
    have HP2 := hide (rread_any HS2.out.both.ref HG.out o.die o.blk o.page HCP.out)
    unfold ptr at HP2
    rcases hres with ⟨hne, rfl⟩ | ⟨hze, D, c', rfl, hown, hlen⟩
    · have HNE := hide hne
      unfold errR
      go_wp2_with fail
      refine HP2.out.mono ?_
      rintro e W3 ⟨⟨d, rfl⟩, ⟨-, rfl⟩ | ⟨hze, -⟩⟩
      rotate_left
      · exact absurd hze HNE.out
      have HS3 := hide (HS2.out.drewN d)
      have HER := hide (err_any (rdF g s o.die o.blk o.page) (W2.drewN d) (HE.out.below HS3.out.both.low (Nat.le_refl _)))
      rw [errV_ne hne] at HER
      unfold errR at HER
      clear hne y0 y1 y2 y3 y4 y5 HP2
      go_wp2_with fail
      refine HER.out.mono ?_
      rintro e W4 ⟨rfl, hb4⟩
      have HS4 := hide (HS3.out.below hb4)
      have HSA := hide (same_any none none [] [] 0 0 0 0 W4 rfl rfl (by omega) (Rd.nil _ _) (Rd.nil _ _) true (by decide))
      clear hb4 HER
      go_wp2_with fail
      refine HSA.out.mono ?_
      rintro e W5 ⟨rfl, d5, rfl⟩
      have HS5 := hide (HS4.out.drewN d5).more
      clear HSA
      go_wp2_with fail
      go_loopw [15] (fun i W => i = .int .i64 0 ∧ W = W4.drewN d5) (fun i _ => 0)
      case atStart => exact ⟨rfl, rfl⟩
      case round =>
        obtain ⟨rfl, rfl⟩ := hrel
        go_wp2_with fail
        go_ret
        exact ⟨rfl, _, HS5.out.end_⟩
    · have HZE := hide hze
      have HOW := hide hown
      have HLE := hide hlen
      clear hze hown hlen
      go_wp2_with fail
      refine HP2.out.mono ?_
      rintro e W3 ⟨⟨d, rfl⟩, ⟨hne, -⟩ | ⟨-, hix, hpp, rfl⟩⟩
      · exact absurd HZE.out hne
      have HS3 := hide (HS2.out.drewN d)
      have HOW3 := hide (own_below HOW.out (below_drewN (Below.refl W2.heap.size W2) d) (Nat.le_refl _))
      have HER := hide (error_nil 0 (W2.drewN d) true (by decide))
      obtain ⟨pg, hpg⟩ : ∃ pg, pg = (s.blk (ix g o.die o.blk)).pg o.page.toNat := ⟨_, rfl⟩
      have HRD := hide (RF.rd HS3.out.both.ref hix hpp HLE.out)
      rw [← hpg] at HRD HOW3 HLE
      obtain ⟨ad0, had0⟩ : ∃ ad0, ad0 = ad g (ix g o.die o.blk) o.page.toNat 0 := ⟨_, rfl⟩
      rw [← had0] at HRD ⊢
      clear hix hpp had0 hpg y0 y1 y2 y3 y4 y5 HP2
      go_wp2_with fail
      refine HER.out.mono ?_
      rintro e W4 ⟨rfl, hb4⟩
      have HS4 := hide (HS3.out.below hb4)
      have HOW4 := hide (own_below HOW3.out hb4 (Nat.le_refl _))
      have HRD4 := hide (HRD.out.below hb4)
      have hb4' := hide hb4
      have HSA := hide (same_any D (some ⟨ga, ad0, none⟩) pg pg g.y g.y c' (cap - ad0) W4 HLE.out.symm HLE.out.symm (by have := HG.out.y256; omega) (Rd.of_own HOW4.out) HRD4.out true (by simp))
      clear hb4 HER
      go_wp2_with fail
      refine HSA.out.mono ?_
      rintro e W5 ⟨rfl, d5, rfl⟩
      have HS5 := hide (HS4.out.drewN d5).more
      have HOW5 := hide (own_below HOW4.out (below_drewN (Below.refl W4.heap.size W4) d5) (Nat.le_refl _))
      obtain ⟨gx, cx, cur, hv, hgx, hgl, hbk, hnc, hcm, hcs, htk⟩ := own_block HOW5.out (by have := HG.out.y8; omega)
      injection hv with hv1 hv2 hv3
      subst hv1
      subst hv3
      have HGX := hide hgx
      have HBK : Hid (∃ cs : Array Value, Bk (W4.drewN d5) gx 5 cs ∧ cs.size = c') := hide ⟨cur, hbk, hcs⟩
      have hy : g.y ≤ c' := hnc
      have hy8 := HG.out.y8
      have hy256 := HG.out.y256
      have HLOW : Hid (Below (W.alloc (.cells #[.int .i64 o.kind, .int .i64 o.die, .int .i64 o.blk, .int .i64 o.page, .slice o.A o.l.length o.c, .int .i64 o.fault] 35)).heap.size (W.alloc (.cells #[.int .i64 o.kind, .int .i64 o.die, .int .i64 o.blk, .int .i64 o.page, .slice o.A o.l.length o.c, .int .i64 o.fault] 35)) (W4.drewN d5)) := hide ((((HB2.out.trans (below_drewN (Below.refl _ _) d)).trans (hb4'.out.mono HB2.out.size)).trans ((below_drewN (Below.refl _ _) d5).mono (Nat.le_trans HB2.out.size hb4'.out.size))))
      clear HSA hv2 hgx hgl hbk hnc hcm hcs htk
      go_wp2_with fail
      go_loopw [15] (fun i W5 => ∃ (m : Nat) (cs : Array Value), m ≤ g.y ∧ i = .int .i64 m ∧ cs.size = c' ∧ Hid (Bk W5 gx 5 cs) ∧ Hid (Below (W.alloc (.cells #[.int .i64 o.kind, .int .i64 o.die, .int .i64 o.blk, .int .i64 o.page, .slice o.A o.l.length o.c, .int .i64 o.fault] 35)).heap.size (W.alloc (.cells #[.int .i64 o.kind, .int .i64 o.die, .int .i64 o.blk, .int .i64 o.page, .slice o.A o.l.length o.c, .int .i64 o.fault] 35)) W5)) (fun i _ => g.y - (intOf i).toNat)
      case atStart =>
        obtain ⟨cs, hb, hs⟩ := HBK.out
        exact ⟨0, cs, by omega, rfl, hs, hide hb, HLOW⟩
      case round =>
        obtain ⟨m, cs, hm, rfl, hcs, HB, HL⟩ := hrel
        by_cases hlt : m < g.y
        · have e1 : decide (m < g.y) = true := by simpa using hlt
          have e1' : decide ((m : Int) < (g.y : Int)) = true := by simp; omega
          have hmi : (m : Int) < (g.y : Int) := by omega
          obtain ⟨u0, hu0⟩ : ∃ u0, cs[m]? = some u0 := ⟨cs[m]'(by omega), Array.getElem?_eq_getElem (by omega)⟩
          have cx := HB.out.at_ hu0
          have fx := HB.out.free m
          have HSZ : Hid ((cs.setIfInBounds m (.int .u8 7)).size = c') := hide (by rw [Array.size_setIfInBounds]; exact hcs)
          clear hu0 hcs
          go_wp2_with fail
          go_roundw
          case rel => exact ⟨m + 1, _, by omega, by go_num, HSZ.out, hide (HB.out.put m (.int .u8 7)), hide (HL.out.setCell HGX.out _)⟩
          case measure => simp [intOf]; omega
        · have e1 : decide (m < g.y) = false := by simpa using hlt
          have e1' : decide ((m : Int) < (g.y : Int)) = false := by simp; omega
          have HEND := hide (HS.out.below HL.out).more
          clear hcs
          go_wp2_with fail
          go_ret
          exact ⟨rfl, _, HEND.out.end_⟩
  have t2 : (o.kind == 2) = false := by simpa using hk2
  by_cases hk3 : o.kind = 3
  · have t3 : (o.kind == 3) = true := by simpa using hk3
    clear hk1 hk2 hk3
    go_enter Tryd.func22, Tryd.ntmps22
    go_wp2_with fail
    have HP := hide (erA HS.out.both.chip HG.out o.die o.blk o.fault HS.out.both.hO (fun k => by have := HS.out.both.wc k; omega))
    refine HP.out.mono ?_
    rintro e W2 ⟨rfl, hc2, hk2⟩
    have HS2 := hide (HS.out.prg hc2 hk2 (i' := i + 1) (fun k => er_wr _ _ _ i HS.out.both.wc k))
    clear hc2 hk2 y0 y1 y2 y3 y4 y5
    have y0 := HS2.out.y0
    have y1 := HS2.out.y1
    have y2 := HS2.out.y2
    have y5 := HS2.out.y5
    have HP2 := hide (rer_any HS2.out.both.ref HG.out o.die o.blk o.fault (fun k => by have := HS.out.both.wc k; omega))
    unfold ptr at HP2
    go_wp2_with fail
    refine HP2.out.mono ?_
    rintro e W3 ⟨rfl, hr3, hk3⟩
    have HS3 := hide (HS2.out.doc hr3 hk3)
    clear hr3 hk3 y0 y1 y2 y5 HP HP2
    have HER := hide (err_any (erE g s o.die o.blk o.fault) W3 (HE.out.below HS3.out.both.low (Nat.le_refl _)))
    obtain ⟨pe, hpe⟩ : ∃ pe, pe = erE g s o.die o.blk o.fault := ⟨_, rfl⟩
    rw [← hpe] at HER ⊢
    clear hpe
    go_wp2_with fail
    refine HER.out.mono ?_
    rintro e W4 ⟨rfl, hb4⟩
    have HS4 := hide (HS3.out.below hb4)
    clear hb4 HER
    go_wp2_with fail
    go_ret
    exact ⟨rfl, _, HS4.out.end_⟩
  have t3 : (o.kind == 3) = false := by simpa using hk3
  by_cases hk4 : o.kind = 4
  · have t4 : (o.kind == 4) = true := by simpa using hk4
    clear hk1 hk2 hk3 hk4
    go_enter Tryd.func22, Tryd.ntmps22
    go_wp2_with fail
    have HP := hide (rfault_any HS.out.both.ref HG.out o.die o.blk)
    unfold ptr at HP
    refine HP.out.mono ?_
    rintro e W2 ⟨rfl, hres⟩
    have HN := hide (nextA HS.out.both.chip HG.out o.die o.blk)
    have HK : Hid (∃ kk : Int, e = .returned (.tuple #[.int .i64 kk, .int .i64 (atF g s o.die o.blk)]) ∧ (atF g s o.die o.blk = 0 → kk = (ix g o.die o.blk : Int) ∧ ix g o.die o.blk < g.n)) := hide (by
      rcases hres with ⟨h1, h2⟩ | ⟨h1, h2⟩
      · exact ⟨0, h2, fun h => absurd h h1⟩
      · have hz := at_zero h1
        exact ⟨_, by rw [h1]; exact h2, fun _ => ⟨rfl, ix_lt hz.2.1 hz.2.2.1 hz.2.2.2.1 hz.2.2.2.2⟩⟩)
    obtain ⟨kk, rfl, hkk⟩ := HK.out
    have HKK := hide hkk
    clear hkk HK HP hres
    go_wp2_with fail
    refine HN.out.mono ?_
    rintro e W3 ⟨rfl, d3, rfl⟩
    have HW := hide (wearA (HS.out.both.chip.drewN d3) HG.out o.die o.blk)
    clear HN
    go_wp2_with fail
    refine HW.out.mono ?_
    rintro e W4 ⟨rfl, d4, rfl⟩
    have HB := hide (badA (HS.out.both.chip.drewN (d3 + d4)) HG.out o.die o.blk)
    clear HW
    go_wp2_with fail
    refine HB.out.mono ?_
    rintro e W5 ⟨rfl, d5, rfl⟩
    clear HB
    have HS5 := hide (HS.out.drewN (d3 + d4 + d5))
    have HE1 := hide (err_any (atF g s o.die o.blk) _ (HE.out.below HS5.out.both.low (Nat.le_refl _)))
    clear y0 y1 y2 y3 y4 y5
    by_cases hat : atF g s o.die o.blk = 0
    · obtain ⟨hkx, hkn⟩ := HKK.out hat
      subst hkx
      obtain ⟨K, hK⟩ : ∃ K, K = ix g o.die o.blk := ⟨_, rfl⟩
      have HNX := hide (nx_ok hat)
      have HWX := hide (wr_ok hat)
      have HBX := hide (bad_ok hat)
      rw [hat, errV_zero] at HE1
      rw [hat, errV_zero, HNX.out, HWX.out, HBX.out]
      rw [← hK] at hkn ⊢
      obtain ⟨xn, hxn⟩ : ∃ xn, xn = (s.blk K).nx := ⟨_, rfl⟩
      obtain ⟨xw, hxw⟩ : ∃ xw, xw = (s.blk K).wr := ⟨_, rfl⟩
      obtain ⟨xb, hxb⟩ : ∃ xb, xb = (s.blk K).bad := ⟨_, rfl⟩
      rw [← hxn, ← hxw, ← hxb]
      have HXS := hide (And.intro hxn (And.intro hxw hxb))
      have hki : (K : Int) < (g.n : Int) := by omega
      have HKN := hide hkn
      clear hat hK HNX HWX HBX HKK hxn hxw hxb
      go_wp2_with fail
      refine HE1.out.mono ?_
      rintro e W6 ⟨rfl, hb6⟩
      have HS6 := hide (HS5.out.below hb6)
      have HE2 := hide (error_nil 0 W6 true (by decide))
      clear hb6 HE1
      go_wp2_with fail
      refine HE2.out.mono ?_
      rintro e W7 ⟨rfl, hb7⟩
      have HS7 := hide (HS6.out.below hb7)
      have HE3 := hide (error_nil 0 W7 true (by decide))
      clear hb7 HE2
      go_wp2_with fail
      refine HE3.out.mono ?_
      rintro e W8 ⟨rfl, hb8⟩
      have HS8 := hide (HS7.out.below hb8).more
      clear hb8 HE3
      have c5 := RF.b5 HS8.out.both.ref
      have c6 := RF.b6 HS8.out.both.ref
      have c7 := RF.b7 HS8.out.both.ref
      have n1 := RF.nx_ HS8.out.both.ref HKN.out
      have n2 := RF.wr_ HS8.out.both.ref HKN.out
      have n3 := RF.bad_ HS8.out.both.ref HKN.out
      rw [← HXS.out.1] at n1
      rw [← HXS.out.2.1] at n2
      rw [← HXS.out.2.2] at n3
      have x1 : ((xn : Int) == (xn : Int)) = true := by simp
      have x2 : ((xw : Int) == (xw : Int)) = true := by simp
      have x3 : (xb == xb) = true := by simp
      go_wp2_with fail
      go_ret
      exact ⟨rfl, _, HS8.out.end_⟩
    · have HNX : Hid (nxF g s o.die o.blk = 0) := hide (if_neg hat)
      have HWX : Hid (wrF g s o.die o.blk = 0) := hide (if_neg hat)
      have HBX : Hid (badF g s o.die o.blk = false) := hide (if_neg hat)
      rw [errV_ne hat] at HE1
      rw [errV_ne hat, HNX.out, HWX.out, HBX.out]
      have HAT := hide hat
      obtain ⟨pe, hpe⟩ : ∃ pe, pe = atF g s o.die o.blk := ⟨_, rfl⟩
      have x0 : (pe != 0) = true := by rw [hpe]; simpa using hat
      rw [← hpe] at HE1 ⊢
      clear hat HNX HWX HBX HKK hpe
      unfold errR at HE1 ⊢
      go_wp2_with fail
      refine HE1.out.mono ?_
      rintro e W6 ⟨rfl, hb6⟩
      have HS6 := hide (HS5.out.below hb6)
      have HE2 := hide (error_some pe pe W6 (HE.out.below HS6.out.both.low (Nat.le_refl _)) true (by simp))
      clear hb6 HE1
      go_wp2_with fail
      refine HE2.out.mono ?_
      rintro e W7 ⟨rfl, hb7⟩
      have HS7 := hide (HS6.out.below hb7)
      have HE3 := hide (error_some pe pe W7 (HE.out.below HS7.out.both.low (Nat.le_refl _)) true (by simp))
      clear hb7 HE2
      go_wp2_with fail
      refine HE3.out.mono ?_
      rintro e W8 ⟨rfl, hb8⟩
      have HS8 := hide (HS7.out.below hb8).more
      clear hb8 HE3
      go_wp2_with fail
      go_ret
      exact ⟨rfl, _, HS8.out.end_⟩
  have t4 : (o.kind == 4) = false := by simpa using hk4
  clear hk1 hk2 hk3 hk4
  go_enter Tryd.func22, Tryd.ntmps22
  go_wp2_with fail
  have HP := hide (onA HS.out.both.chip)
  refine HP.out.mono ?_
  rintro e W2 ⟨rfl, hc2, hk2⟩
  have HS2 := hide (HS.out.prg hc2 hk2 (i' := i) (fun k => HS.out.both.wc k))
  clear hc2 hk2 HP
  have c8 := RF.b8 HS2.out.both.ref
  have f8 := HS2.out.both.ref.box.free 8
  have HS3 := hide (HS2.out.doc (s' := onS s) (RF.setOff HS2.out.both.ref false) (rkeep_set (r := r) (ga := ga) (gn := gn) (gw := gw) (gd := gd) W2 (p := ⟨r, 8, none⟩) (.inl rfl) (.bool false))).more
  go_wp2_with fail
  go_ret
  exact ⟨rfl, _, HS3.out.end_⟩
end Go.Proofs.YtbldjiofchaigaaDoor.ChipW
